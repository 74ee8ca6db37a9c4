/- Part 5 of the texts of this claim: what its theorem leans on. -/
import Derived.Test.YtimbbibpghnipaaGreatDoorZLookupIndexes4
import Derived.KernelRfl
set_option linter.all false
open Option renaming some→Ac,none→C7
open Bool renaming false→Ak,true→Bp
open Go renaming Value→BZ,Operand→Dy,TypeId→Gp,Program→GM,World→IL,execOp→Kp,Oper→K3,IntKind→Lk
open Decidable renaming decide→Dl
open List renaming length→FC
open Int renaming natAbs→wK
namespace Go.GV
open Go Go.GK Go.Proofs
noncomputable section
def D183(a:Nat)(b:BD)(c:BD):Option Bool:=Af ((b.1.length:Int)=b.1.length/\(b.1.length:Int)=b.1.length)<|Ad a (λ(e:Nat) o=>iF ((e:Int)< ↑(2)) (Ab (idx [b.1,c.1] (e:Int)) λh=>Ad a (λ(f:Nat) p=>iF ((f:Int)<h.length) (Ab (idx h f) λi=>Ab (YA a (b,i.1)) λj=>Ab (YA a (c,i.1)) λk=>iF (k.2<j.2) (Ac Ak)<|Ab (LA a (j.1,k.1)) λq=>iB (!q) (Ac Ak)<|p (f+1))<|o (e+1)) (0))<|Ad a (λ(g:Nat) r=>iF ((g:Int)<b.2.length) (Ab (idx b.2 g) λl=>Ad a (λ(d:Nat) m=>iF ((d:Int)<c.2.length) (Ab (idx c.2 d) λn=>Ab (LA a (l.2,n.2)) λs=>iB (!s) (Ab (tS a (l.1,n.1)) λt=>iF ((0:Int)<t.length) (Ac Ak)<|m (d+1))<|m (d+1))<|r (g+1)) (0))<|some Bp) (0)) (0)
theorem d183(fu x0 x1):U7 (fu+1) (x0,x1)=D183 fu x0 x1:=by kernel_rfl
def D184(b:Nat)(c:BD)(a:BD):Option (Bool×BD):=Ab (U7 b (a,c)) λd=>Ac (d,a)
theorem d184(fu x0 x1):kA (fu+1) (x0,x1)=D184 fu x0 x1:=by kernel_rfl
def D185(c:Nat)(d:List BD)(e:BD):Option (Int×BD):=Ad c (λ(a:BD×Nat) f=>iF ((a.2:Int)<d.length) (Ab (idx d a.2) λg=>Ab (kA c (g,a.1)) λb=>iB b.1 (Ac (((a.2:Int),b.2)))<|f (b.2,a.2+1))<|some (((-1:Int),a.1))) ((e,0))
theorem d185(fu x0 x1):kx (fu+1) (x0,x1)=D185 fu x0 x1:=by kernel_rfl
def D186(b:Nat)(c:List BD)(d:BD):Option (Bool×BD):=Ab (kx b (c,d)) λa=>Ac (Dl ((0:Int)<=a.1),a.2)
theorem d186(fu x0 x1):kv (fu+1) (x0,x1)=D186 fu x0 x1:=by kernel_rfl
def D187(b:Nat)(c:List BD)(d:List BD):Option Bool:=Ad b (λ(a:Nat) e=>iF ((a:Int)<c.length) (Ab (idx c a) λf=>Ab (kv b (d,f)) λg=>iB (!g.1) (Ac Ak)<|e (a+1))<|some Bp) (0)
theorem d187(fu x0 x1):ku (fu+1) (x0,x1)=D187 fu x0 x1:=by kernel_rfl
def D188(c:Nat)(b:Vl)(a:Vl):Option Bool:=iB (Vl.any b) (Ac (Vl.any a))<|iB (Vl.any a) (Ac (Vl.any a))<|Ab (eF c ((b,Vl.mk Ak (Ak,Ak,Ak,([],[]),[]) [] []),a,Vl.mk Ak (Ak,Ak,Ak,([],[]),[]) [] [])) λd=>iB d (Ac Bp)<|Ab (kG c (Vl.sc b,Vl.sc a)) λe=>iB (!e) (Ac Ak)<|Ab (kB c (Vl.lists b,Vl.lists a)) λf=>iB f (Ab (ku c (Vl.structs b,Vl.structs a)) Ac)<|some Ak
theorem d188(fu x0 x1):TD (fu+1) (x0,x1)=D188 fu x0 x1:=by kernel_rfl
def D189(a:Nat)(b:AF)(c:AF):Option Bool:=Ab (TD a (b.1,c.1)) λd=>iB d (Ab (TD a (b.2,c.2)) Ac)<|some Ak
theorem d189(fu x0 x1):LA (fu+1) (x0,x1)=D189 fu x0 x1:=by kernel_rfl
def D190(b:Nat)(a:BO)(c:BO):Option Bool:=iF ((a.1.length:Int)<c.1.length) (Ac Ak)<|iB (!decide ((0:Int)<c.2.length)) (iF ((c.1.length:Int)<a.1.length) (Ac Ak)<|iF ((0:Int)<a.2.length) (Ac Ak)<|Ad b (λ(d:Nat) f=>iF ((d:Int)<a.1.length) (Ab (idx a.1 d) λg=>Ab (YE b (c,(d:Int))) λh=>Ab (LA b (g,h.1)) λi=>iB (!i) (Ac Ak)<|f (d+1))<|iF ((a.2.length:Int)=0) (Ac Bp)<|Ab (idx a.2 0) λj=>Ab (idx c.2 0) λk=>Ab (LA b (j,k)) Ac) (0))<|Ad b (λ(e:Nat) m=>iF ((e:Int)<a.1.length) (Ab (idx a.1 e) λn=>Ab (YE b (c,(e:Int))) λo=>Ab (LA b (n,o.1)) λp=>iB (!p) (Ac Ak)<|m (e+1))<|iF ((a.2.length:Int)=0) (Ac Bp)<|Ab (idx a.2 0) λq=>Ab (idx c.2 0) λr=>Ab (LA b (q,r)) Ac) (0)
theorem d190(fu x0 x1):U6 (fu+1) (x0,x1)=D190 fu x0 x1:=by kernel_rfl
def tR(b:Nat)(a:BO):Option Vl:=Ac (Vl.mk Ak (Ak,Ak,Ak,([],[]),[]) [a] [])
def B188:=bQ [] Tryz.func152 [Cc] [BC] tR (pt:=lg [(1,[.M3 2 7])])
def kq(c:Nat):Bool×Bool->Option Int|(a,b)=>iB (a==b) (Ac 0)<|iB a (Ac ((-1:Int)))<|some 1
def zo:=bQ [] Tryz.func324 [.bool, .bool] [Aj] kq
def tO(c:Nat):Vl×Vl->Option (Int×AF)|(a,b)=>Ab (kq c (Vl.any a,Vl.any b)) λd=>Ac (d,a,b)
def B190:=bP [zo] Tryz.func323 ⟨[.Ae BC, .Ae BC],[(0, .loc 0 0),(1, .loc 1 0)],[(0, .Ah 33 [(9, .v 0 BC)]),(1, .Ah 33 [(9, .v 1 BC)])],2⟩ ⟨[.Ae Aj, .Ae BC, .Ae BC],[(0, .v 0 Aj)],[(0, .Ah 33 [(9, .v 1 BC)]),(1, .Ah 33 [(9, .v 2 BC)])],2⟩ 1 [] tO
def Lz(a:Nat):Bb×Bb->Option Int|(d,e)=>Ab (YB a (d,e)) λf=>Ab (Va a f) λb=>Ab (YB a (e,d)) λg=>Ab (Va a g) λc=>iB (!b.2) (iB (!c.2) (Ac 0)<|iB (!c.2) (Ac ((-1:Int)))<|iB b.2 (Ab (Vb a (b.1,c.1)) λh=>iB h (Ac ((-1:Int)))<|some 1)<|some 1)<|iB (!c.2) (Ac ((-1:Int)))<|iB b.2 (Ab (Vb a (b.1,c.1)) λi=>iB i (Ac ((-1:Int)))<|some 1)<|some 1
def B191:=bQ [zy,zA,zq] Tryz.func270 [E',E'] [Aj] Lz
def TC(d:Nat):Fy×Fy->Option Int|(a,b)=>Ab (dJ d a) λg=>iB (!g) (Ac 0)<|Ab (dJ d b) λh=>iB (!h) (Ac 0)<|Ad d (λ(c:Int) i=>iF (c<3) (Af ((0:Int)<=c/\c<(↑3:Int))<|Ab (idx [(a.1,b.1),(a.2.1,b.2.1),(a.2.2.1,b.2.2.1)] c) λe=>iF ((e.1::[e.2])=(Bp::[Ak])) (Ac ((-1:Int)))<|iF ((e.1::[e.2])=(Ak::[Bp])) (Ac 1)<|Aa .i64 (c+1)<|i (c+1))<|Ab (Lz d (a.2.2.2.1,b.2.2.2.1)) λf=>iF (f≠0) (Ac f)<|Ab (YF d (a.2.2.2.2,b.2.2.2.2)) Ac) ((0:Int))
def zm:=bQ [B77,uN,B191] Tryz.func218 [y8,y8] [Aj] TC (la:=lk [(4,⟨[.Ae Aj],(kp [2,3,32] [(33, .v 0 Aj)]),[(1, .c 0),(0, .c 0)],2⟩)])
def tN(c:Nat):Vl×Vl->Option (Int×AF)|(a,b)=>Ab (TC c (Vl.sc a,Vl.sc b)) λd=>Ac (d,a,b)
def B193:=bP [zm] Tryz.func325 ⟨[.Ae BC, .Ae BC],[(0, .loc 0 0),(1, .loc 1 0)],[(0, .Ah 33 [(9, .v 0 BC)]),(1, .Ah 33 [(9, .v 1 BC)])],2⟩ ⟨[.Ae Aj, .Ae BC, .Ae BC],[(0, .v 0 Aj)],[(0, .Ah 33 [(9, .v 1 BC)]),(1, .Ah 33 [(9, .v 2 BC)])],2⟩ 1 [] tN
def tM(c:Nat):BO×BO->Option (Int×BO×BO)|(a,b)=>Ab (U9 c ((a.1.length:Int),(b.1.length:Int))) λd=>Ac (d,a,b)
def B194:=bP [uO] Tryz.func368 ⟨[.Ae Cc, .Ae Cc],[(0, .loc 0 0),(1, .loc 1 0)],[(0, .Ah 77 [(2, .v 0 Cc)]),(1, .Ah 77 [(2, .v 1 Cc)])],2⟩ ⟨[.Ae Aj, .Ae Cc, .Ae Cc],[(0, .v 0 Aj)],[(0, .Ah 77 [(2, .v 1 Cc)]),(1, .Ah 77 [(2, .v 2 Cc)])],2⟩ 1 [] tM
def tL(c:Nat):BO×BO->Option (Int×BO×BO)|(a,b)=>Ab (kq c (Dl ((0:Int)<a.2.length),Dl ((0:Int)<b.2.length))) λd=>Ac (d,a,b)
def B195:=bP [zo] Tryz.func369 ⟨[.Ae Cc, .Ae Cc],[(0, .loc 0 0),(1, .loc 1 0)],[(0, .Ah 77 [(2, .v 0 Cc)]),(1, .Ah 77 [(2, .v 1 Cc)])],2⟩ ⟨[.Ae Aj, .Ae Cc, .Ae Cc],[(0, .v 0 Aj)],[(0, .Ah 77 [(2, .v 1 Cc)]),(1, .Ah 77 [(2, .v 2 Cc)])],2⟩ 1 [] tL
def ko(c:Nat):(Au×Int×AF)×Au×Int×AF->Option (Int×(Au×Int×AF)×Au×Int×AF)|(a,b)=>Ab (YG c (a.1,b.1)) λd=>Ac (d,a,b)
def B196:=bP [zt] Tryz.func376 ⟨[.Ae ER, .Ae ER],[(0, .loc 0 0),(1, .loc 1 0)],[(0, .Ah 69 [(20, .v 0 ER)]),(1, .Ah 69 [(20, .v 1 ER)])],2⟩ ⟨[.Ae Aj, .Ae ER, .Ae ER],[(0, .v 0 Aj)],[(0, .Ah 69 [(20, .v 1 ER)]),(1, .Ah 69 [(20, .v 2 ER)])],2⟩ 1 [] ko
def kj(c:Nat):(Au×Int×AF)×Au×Int×AF->Option (Int×(Au×Int×AF)×Au×Int×AF)|(a,b)=>Ab (U9 c (a.2.1,b.2.1)) λd=>Ac (d,a,b)
def B197:=bP [uO] Tryz.func377 ⟨[.Ae ER, .Ae ER],[(0, .loc 0 0),(1, .loc 1 0)],[(0, .Ah 69 [(20, .v 0 ER)]),(1, .Ah 69 [(20, .v 1 ER)])],2⟩ ⟨[.Ae Aj, .Ae ER, .Ae ER],[(0, .v 0 Aj)],[(0, .Ah 69 [(20, .v 1 ER)]),(1, .Ah 69 [(20, .v 2 ER)])],2⟩ 1 [] kj
def kg(c:Nat):(A5×AF)×A5×AF->Option (Int×(A5×AF)×A5×AF)|(a,b)=>Ab (YF c (a.1,b.1)) λd=>Ac (d,a,b)
def B198:=bP [uN] Tryz.func382 ⟨[.Ae FQ, .Ae FQ],[(0, .loc 0 0),(1, .loc 1 0)],[(0, .Ah 92 [(19, .v 0 FQ)]),(1, .Ah 92 [(19, .v 1 FQ)])],2⟩ ⟨[.Ae Aj, .Ae FQ, .Ae FQ],[(0, .v 0 Aj)],[(0, .Ah 92 [(19, .v 1 FQ)]),(1, .Ah 92 [(19, .v 2 FQ)])],2⟩ 1 [] kg
def mv:A_:=⟨[.Ae Bz, .Ae Bz],[(0, .loc 0 0),(1, .loc 1 0)],[(0, .Ah 35 [(18, .v 0 Bz)]),(1, .Ah 35 [(18, .v 1 Bz)])],2⟩
def lK:A_:=⟨[.Ae Aj, .Ae Bz, .Ae Bz],[(0, .v 0 Aj)],[(0, .Ah 35 [(18, .v 1 Bz)]),(1, .Ah 35 [(18, .v 2 Bz)])],2⟩
def mu:A_:=⟨[.Ae Bz, .Ae Bz],[(0, .loc 0 0),(1, .loc 1 0)],[(0, .Ah 35 [(18, .v 0 Bz)]),(1, .Ah 35 [(18, .v 1 Bz)])],2⟩
def lJ:A_:=⟨[.Ae Aj, .Ae Bz, .Ae Bz],[(0, .v 0 Aj)],[(0, .Ah 35 [(18, .v 1 Bz)]),(1, .Ah 35 [(18, .v 2 Bz)])],2⟩
def mr:A_:=⟨[.Ae Bz, .Ae Bz],[(0, .px [0] (.hc 2))],[(0, .Ah 121 [(1, .AK 401 [] [1,2]),(1, .AK 402 [] [1,2])]),(1, .Ah 35 [(18, .v 0 Bz)]),(2, .Ah 35 [(18, .v 1 Bz)])],3⟩
def lI:A_:=⟨[.Ae Aj, .Ae Bz, .Ae Bz],[(0, .v 0 Aj)],[(0, .Ah 121 [(1, .AK 401 [] [1,2]),(1, .AK 402 [] [1,2])]),(1, .Ah 35 [(18, .v 1 Bz)]),(2, .Ah 35 [(18, .v 2 Bz)])],3⟩
def mq:A_:=⟨[.Ae Dn, .Ae Dn],[(0, .v 0 Dn),(1, .v 1 Dn),(2, .AK 372 [] [])],[],0⟩
def lH:A_:=⟨[.Ae Aj],[(0, .v 0 Aj)],[],0⟩
def mo:A_:=⟨[.Ae Cc, .Ae Cc],[(0, .loc 0 0),(1, .loc 1 0)],[(0, .Ah 77 [(2, .v 0 Cc)]),(1, .Ah 77 [(2, .v 1 Cc)])],2⟩
def lG:A_:=⟨[.Ae Aj, .Ae Cc, .Ae Cc],[(0, .v 0 Aj)],[(0, .Ah 77 [(2, .v 1 Cc)]),(1, .Ah 77 [(2, .v 2 Cc)])],2⟩
def mn:A_:=⟨[.Ae Cc, .Ae Cc],[(0, .px [0] (.hc 3))],[(0, .Ah 121 [(1, .AK 368 [] [1,2]),(1, .AK 369 [] [1,2]),(1, .AK 370 [] [1,2])]),(1, .Ah 77 [(2, .v 0 Cc)]),(2, .Ah 77 [(2, .v 1 Cc)])],3⟩
def lF:A_:=⟨[.Ae Aj, .Ae Cc, .Ae Cc],[(0, .v 0 Aj)],[(0, .Ah 121 [(1, .AK 368 [] [1,2]),(1, .AK 369 [] [1,2]),(1, .AK 370 [] [1,2])]),(1, .Ah 77 [(2, .v 1 Cc)]),(2, .Ah 77 [(2, .v 2 Cc)])],3⟩
def ml:A_:=⟨[.Ae Ej, .Ae Ej],[(0, .v 0 Ej),(1, .v 1 Ej),(2, .AK 328 [] [])],[],0⟩
def lE:A_:=⟨[.Ae Aj],[(0, .v 0 Aj)],[],0⟩
def mj:A_:=⟨[.Ae BC, .Ae BC],[(0, .loc 0 0),(1, .loc 1 0)],[(0, .Ah 33 [(9, .v 0 BC)]),(1, .Ah 33 [(9, .v 1 BC)])],2⟩
def lD:A_:=⟨[.Ae Aj, .Ae BC, .Ae BC],[(0, .v 0 Aj)],[(0, .Ah 33 [(9, .v 1 BC)]),(1, .Ah 33 [(9, .v 2 BC)])],2⟩
def mi:A_:=⟨[.Ae ER, .Ae ER],[(0, .loc 0 0),(1, .loc 1 0)],[(0, .Ah 69 [(20, .v 0 ER)]),(1, .Ah 69 [(20, .v 1 ER)])],2⟩
def lC:A_:=⟨[.Ae Aj, .Ae ER, .Ae ER],[(0, .v 0 Aj)],[(0, .Ah 69 [(20, .v 1 ER)]),(1, .Ah 69 [(20, .v 2 ER)])],2⟩
def mh:A_:=⟨[.Ae ER, .Ae ER],[(0, .px [0] (.hc 3))],[(0, .Ah 121 [(1, .AK 376 [] [1,2]),(1, .AK 377 [] [1,2]),(1, .AK 378 [] [1,2])]),(1, .Ah 69 [(20, .v 0 ER)]),(2, .Ah 69 [(20, .v 1 ER)])],3⟩
def lB:A_:=⟨[.Ae Aj, .Ae ER, .Ae ER],[(0, .v 0 Aj)],[(0, .Ah 121 [(1, .AK 376 [] [1,2]),(1, .AK 377 [] [1,2]),(1, .AK 378 [] [1,2])]),(1, .Ah 69 [(20, .v 1 ER)]),(2, .Ah 69 [(20, .v 2 ER)])],3⟩
def mg:A_:=⟨[.Ae L9, .Ae L9],[(0, .v 0 L9),(1, .v 1 L9),(2, .AK 375 [] [])],[],0⟩
def lA:A_:=⟨[.Ae Aj],[(0, .v 0 Aj)],[],0⟩
def mf:A_:=⟨[.Ae BR, .Ae BR],[(0, .loc 0 0),(1, .loc 1 0)],[(0, .Ah 65 [(2, .v 0 BR)]),(1, .Ah 65 [(2, .v 1 BR)])],2⟩
def ly:A_:=⟨[.Ae Aj, .Ae BR, .Ae BR],[(0, .v 0 Aj)],[(0, .Ah 65 [(2, .v 1 BR)]),(1, .Ah 65 [(2, .v 2 BR)])],2⟩
def me:A_:=⟨[.Ae FQ, .Ae FQ],[(0, .loc 0 0),(1, .loc 1 0)],[(0, .Ah 92 [(19, .v 0 FQ)]),(1, .Ah 92 [(19, .v 1 FQ)])],2⟩
def lu:A_:=⟨[.Ae Aj, .Ae FQ, .Ae FQ],[(0, .v 0 Aj)],[(0, .Ah 92 [(19, .v 1 FQ)]),(1, .Ah 92 [(19, .v 2 FQ)])],2⟩
def mc:A_:=⟨[.Ae FQ, .Ae FQ],[(0, .px [0] (.hc 2))],[(0, .Ah 121 [(1, .AK 382 [] [1,2]),(1, .AK 383 [] [1,2])]),(1, .Ah 92 [(19, .v 0 FQ)]),(2, .Ah 92 [(19, .v 1 FQ)])],3⟩
def lr:A_:=⟨[.Ae Aj, .Ae FQ, .Ae FQ],[(0, .v 0 Aj)],[(0, .Ah 121 [(1, .AK 382 [] [1,2]),(1, .AK 383 [] [1,2])]),(1, .Ah 92 [(19, .v 1 FQ)]),(2, .Ah 92 [(19, .v 2 FQ)])],3⟩
def mb:A_:=⟨[.Ae Gq, .Ae Gq],[(0, .v 0 Gq),(1, .v 1 Gq),(2, .AK 381 [] [])],[],0⟩
def lq:A_:=⟨[.Ae Aj],[(0, .v 0 Aj)],[],0⟩
def ma:A_:=⟨[.Ae BR, .Ae BR],[(0, .loc 0 0),(1, .loc 1 0)],[(0, .Ah 65 [(2, .v 0 BR)]),(1, .Ah 65 [(2, .v 1 BR)])],2⟩
def lp:A_:=⟨[.Ae Aj, .Ae BR, .Ae BR],[(0, .v 0 Aj)],[(0, .Ah 65 [(2, .v 1 BR)]),(1, .Ah 65 [(2, .v 2 BR)])],2⟩
def l_:A_:=⟨[.Ae BR, .Ae BR],[(0, .px [0] (.hc 2))],[(0, .Ah 121 [(1, .AK 373 [] [1,2]),(1, .AK 379 [] [1,2])]),(1, .Ah 65 [(2, .v 0 BR)]),(2, .Ah 65 [(2, .v 1 BR)])],3⟩
def ll:A_:=⟨[.Ae Aj, .Ae BR, .Ae BR],[(0, .v 0 Aj)],[(0, .Ah 121 [(1, .AK 373 [] [1,2]),(1, .AK 379 [] [1,2])]),(1, .Ah 65 [(2, .v 1 BR)]),(2, .Ah 65 [(2, .v 2 BR)])],3⟩
def l9:A_:=⟨[.Ae Ei, .Ae Ei],[(0, .v 0 Ei),(1, .v 1 Ei),(2, .AK 331 [] [])],[],0⟩
def lj:A_:=⟨[.Ae Aj],[(0, .v 0 Aj)],[],0⟩
def lZ:A_:=⟨[.Ae BC, .Ae BC],[(0, .loc 0 0),(1, .loc 1 0)],[(0, .Ah 33 [(9, .v 0 BC)]),(1, .Ah 33 [(9, .v 1 BC)])],2⟩
def lh:A_:=⟨[.Ae Aj, .Ae BC, .Ae BC],[(0, .v 0 Aj)],[(0, .Ah 33 [(9, .v 1 BC)]),(1, .Ah 33 [(9, .v 2 BC)])],2⟩
def lY:A_:=⟨[.Ae BC, .Ae BC],[(0, .px [0] (.hc 4))],[(0, .Ah 121 [(1, .AK 323 [] [1,2]),(1, .AK 325 [] [1,2]),(1, .AK 326 [] [1,2]),(1, .AK 329 [] [1,2])]),(1, .Ah 33 [(9, .v 0 BC)]),(2, .Ah 33 [(9, .v 1 BC)])],3⟩
def ld:A_:=⟨[.Ae Aj, .Ae BC, .Ae BC],[(0, .v 0 Aj)],[(0, .Ah 121 [(1, .AK 323 [] [1,2]),(1, .AK 325 [] [1,2]),(1, .AK 326 [] [1,2]),(1, .AK 329 [] [1,2])]),(1, .Ah 33 [(9, .v 1 BC)]),(2, .Ah 33 [(9, .v 2 BC)])],3⟩
abbrev nM:Type:=G6 401 mv lK 1 []×G6 402 mu lJ 1 []×G6 322 mr lI 1 []×Gm 372 [Bz,Bz] [Aj]×G6 371 mq lH 1 []×G6 370 mo lG 1 []×G6 322 mn lF 1 []×Gm 328 [Cc,Cc] [Aj]×G6 327 ml lE 1 []×G6 326 mj lD 1 []×G6 378 mi lC 1 []×G6 322 mh lB 1 []×Gm 375 [ER,ER] [Aj]×G6 374 mg lA 1 []×G6 373 mf ly 1 []×G6 383 me lu 1 []×G6 322 mc lr 1 []×Gm 381 [FQ,FQ] [Aj]×G6 380 mb lq 1 []×G6 379 ma lp 1 []×G6 322 l_ ll 1 []×Gm 331 [BR,BR] [Aj]×G6 330 l9 lj 1 []×G6 329 lZ lh 1 []×G6 322 lY ld 1 []×Gm 267 [BC,BC] [Aj]
def D_(n:Nat):nM:=Nat.rec (motive:=λ_=>nM) (tP Tryz.func401,tP Tryz.func402,tP Tryz.func322,tQ Tryz.func372,tP Tryz.func371,tP Tryz.func370,tP Tryz.func322,tQ Tryz.func328,tP Tryz.func327,tP Tryz.func326,tP Tryz.func378,tP Tryz.func322,tQ Tryz.func375,tP Tryz.func374,tP Tryz.func373,tP Tryz.func383,tP Tryz.func322,tQ Tryz.func381,tP Tryz.func380,tP Tryz.func379,tP Tryz.func322,tQ Tryz.func331,tP Tryz.func330,tP Tryz.func329,tP Tryz.func322,tQ Tryz.func267) (λfu ⟨g0,g1,g2,g3,g4,g5,g6,g7,g8,g9,g10,g11,g12,g13,g14,g15,g16,g17,g18,g19,g20,g21,g22,g23,g24,g25⟩=>(sP [Dd g25] fu Tryz.func401 mv lK 1 [],sP [Dd g25] fu Tryz.func402 mu lJ 1 [],sP [C3 g0,C3 g1] fu Tryz.func322 mr lI 1 [],sQ [C3 g2] fu Tryz.func372 [Bz,Bz] [Aj],sP [Dd g3] fu Tryz.func371 mq lH 1 [] (la:=lk [(2,⟨[.nat],(kp [0,1,2,11,12] [(13, .AE 0 200)]),[],0⟩)]),sP (C3 g4::bs [B81] fu) fu Tryz.func370 mo lG 1 [],sP (C3 g5::bs [B194,B195] fu) fu Tryz.func322 mn lF 1 [],sQ [C3 g6] fu Tryz.func328 [Cc,Cc] [Aj],sP [Dd g7] fu Tryz.func327 ml lE 1 [] (la:=lk [(2,⟨[.nat],(kp [0,1,2,11,12] [(13, .AE 0 200)]),[],0⟩)]),sP [C3 g8] fu Tryz.func326 mj lD 1 [],sP [Dd g3] fu Tryz.func378 mi lC 1 [],sP (C3 g10::bs [B196,B197] fu) fu Tryz.func322 mh lB 1 [],sQ [C3 g11] fu Tryz.func375 [ER,ER] [Aj],sP [Dd g12] fu Tryz.func374 mg lA 1 [] (la:=lk [(2,⟨[.nat],(kp [0,1,2,11,12] [(13, .AE 0 200)]),[],0⟩)]),sP [C3 g13] fu Tryz.func373 mf ly 1 [],sP [Dd g3] fu Tryz.func383 me lu 1 [],sP (C3 g15::bs [B198] fu) fu Tryz.func322 mc lr 1 [],sQ [C3 g16] fu Tryz.func381 [FQ,FQ] [Aj],sP [Dd g17] fu Tryz.func380 mb lq 1 [] (la:=lk [(2,⟨[.nat],(kp [0,1,2,11,12] [(13, .AE 0 200)]),[],0⟩)]),sP [C3 g18] fu Tryz.func379 ma lp 1 [],sP [C3 g14,C3 g19] fu Tryz.func322 l_ ll 1 [],sQ [C3 g20] fu Tryz.func331 [BR,BR] [Aj],sP [Dd g21] fu Tryz.func330 l9 lj 1 [] (la:=lk [(2,⟨[.nat],(kp [0,1,2,11,12] [(13, .AE 0 200)]),[],0⟩)]),sP [C3 g22] fu Tryz.func329 lZ lh 1 [],sP (C3 g9::C3 g23::bs [B190,B193] fu) fu Tryz.func322 lY ld 1 [],sQ [C3 g24] fu Tryz.func267 [BC,BC] [Aj])) n
abbrev tK(fu:Nat)(x:AF×AF):Option (Int×AF×AF):=(D_ fu).1.1 x
abbrev tI(fu:Nat)(x:AF×AF):Option (Int×AF×AF):=(D_ fu).2.1.1 x
abbrev tH(fu:Nat)(x:AF×AF):Option (Int×AF×AF):=(D_ fu).2.2.1.1 x
abbrev Yz(fu:Nat)(x:AF×AF):Option Int:=(D_ fu).2.2.2.1.1 x
abbrev tG(fu:Nat)(x:(List AF)×(List AF)):Option Int:=(D_ fu).2.2.2.2.1.1 x
abbrev tF(fu:Nat)(x:BO×BO):Option (Int×BO×BO):=(D_ fu).2.2.2.2.2.1.1 x
abbrev tE(fu:Nat)(x:BO×BO):Option (Int×BO×BO):=(D_ fu).2.2.2.2.2.2.1.1 x
abbrev tD(fu:Nat)(x:BO×BO):Option Int:=(D_ fu).2.2.2.2.2.2.2.1.1 x
abbrev tC(fu:Nat)(x:(List BO)×(List BO)):Option Int:=(D_ fu).2.2.2.2.2.2.2.2.1.1 x
abbrev tB(fu:Nat)(x:(Vl)×(Vl)):Option (Int×AF):=(D_ fu).2.2.2.2.2.2.2.2.2.1.1 x
abbrev tA(fu:Nat)(x:(Au×Int×AF)×(Au×Int×AF)):Option (Int×(Au×Int×AF)×Au×Int×AF):=(D_ fu).2.2.2.2.2.2.2.2.2.2.1.1 x
abbrev tz(fu:Nat)(x:(Au×Int×AF)×(Au×Int×AF)):Option (Int×(Au×Int×AF)×Au×Int×AF):=(D_ fu).2.2.2.2.2.2.2.2.2.2.2.1.1 x
abbrev tx(fu:Nat)(x:(Au×Int×AF)×(Au×Int×AF)):Option Int:=(D_ fu).2.2.2.2.2.2.2.2.2.2.2.2.1.1 x
abbrev tv(fu:Nat)(x:(List (Au×Int×AF))×(List (Au×Int×AF))):Option Int:=(D_ fu).2.2.2.2.2.2.2.2.2.2.2.2.2.1.1 x
abbrev tu(fu:Nat)(x:BD×BD):Option (Int×BD×BD):=(D_ fu).2.2.2.2.2.2.2.2.2.2.2.2.2.2.1.1 x
abbrev tt(fu:Nat)(x:(A5×AF)×(A5×AF)):Option (Int×(A5×AF)×A5×AF):=(D_ fu).2.2.2.2.2.2.2.2.2.2.2.2.2.2.2.1.1 x
abbrev tq(fu:Nat)(x:(A5×AF)×(A5×AF)):Option (Int×(A5×AF)×A5×AF):=(D_ fu).2.2.2.2.2.2.2.2.2.2.2.2.2.2.2.2.1.1 x
abbrev tj(fu:Nat)(x:(A5×AF)×(A5×AF)):Option Int:=(D_ fu).2.2.2.2.2.2.2.2.2.2.2.2.2.2.2.2.2.1.1 x
abbrev ti(fu:Nat)(x:(List (A5×AF))×(List (A5×AF))):Option Int:=(D_ fu).2.2.2.2.2.2.2.2.2.2.2.2.2.2.2.2.2.2.1.1 x
abbrev tg(fu:Nat)(x:BD×BD):Option (Int×BD×BD):=(D_ fu).2.2.2.2.2.2.2.2.2.2.2.2.2.2.2.2.2.2.2.1.1 x
abbrev tf(fu:Nat)(x:BD×BD):Option (Int×BD×BD):=(D_ fu).2.2.2.2.2.2.2.2.2.2.2.2.2.2.2.2.2.2.2.2.1.1 x
abbrev td(fu:Nat)(x:BD×BD):Option Int:=(D_ fu).2.2.2.2.2.2.2.2.2.2.2.2.2.2.2.2.2.2.2.2.2.1.1 x
abbrev tc(fu:Nat)(x:(List BD)×(List BD)):Option Int:=(D_ fu).2.2.2.2.2.2.2.2.2.2.2.2.2.2.2.2.2.2.2.2.2.2.1.1 x
abbrev ta(fu:Nat)(x:(Vl)×(Vl)):Option (Int×AF):=(D_ fu).2.2.2.2.2.2.2.2.2.2.2.2.2.2.2.2.2.2.2.2.2.2.2.1.1 x
abbrev s_(fu:Nat)(x:(Vl)×(Vl)):Option (Int×AF):=(D_ fu).2.2.2.2.2.2.2.2.2.2.2.2.2.2.2.2.2.2.2.2.2.2.2.2.1.1 x
def B224(fu:Nat):=Dd (D_ fu).2.2.2.2.2.2.2.2.2.2.2.2.2.2.2.2.2.2.2.2.2.2.2.2.2
abbrev eC(fu:Nat)(x:(Vl)×(Vl)):Option Int:=(D_ fu).2.2.2.2.2.2.2.2.2.2.2.2.2.2.2.2.2.2.2.2.2.2.2.2.2.1 x
def D202(c:Nat)(a:AF)(b:AF):Option (Int×AF×AF):=Ab (eC c (a.1,b.1)) λd=>Ac (d,a,b)
theorem d202(fu x0 x1):tK (fu+1) (x0,x1)=D202 fu x0 x1:=by kernel_rfl
def D203(c:Nat)(a:AF)(b:AF):Option (Int×AF×AF):=Ab (eC c (a.2,b.2)) λd=>Ac (d,a,b)
theorem d203(fu x0 x1):tI (fu+1) (x0,x1)=D203 fu x0 x1:=by kernel_rfl
def D204(c:Nat)(d:AF)(e:AF):Option (Int×AF×AF):=iF ((0:Int)< ↑2) (Af ((0:Int)<=0/\(0:Int)< ↑2)<|Ab (tK c (d,e)) λa=>iF (a.1≠0) (Ac ((a.1,a.2.1,a.2.2)))<|Aa .i64 ((0:Int)+1)<|iF ((0:Int)+1< ↑2) (Af ((0:Int)<=0+1/\(0:Int)+1< ↑2)<|Ab (tI c (a.2.1,a.2.2)) λb=>iF (b.1≠0) (Ac ((b.1,b.2.1,b.2.2)))<|Aa .i64 ((0:Int)+1+1)<|iF ((0:Int)+1+1< ↑2) (Af ((0:Int)<=0+1+1/\(0:Int)+1+1< ↑2)<|none)<|some ((0,b.2.1,b.2.2)))<|some ((0,a.2.1,a.2.2)))<|some (0,d,e)
theorem d204(fu x0 x1):tH (fu+1) (x0,x1)=D204 fu x0 x1:=by kernel_rfl
def D205(a:Nat)(b:AF)(c:AF):Option Int:=Ab (tH a (b,c)) λd=>Ac d.1
theorem d205(fu x0 x1):Yz (fu+1) (x0,x1)=D205 fu x0 x1:=by kernel_rfl
def D206(d:Nat)(b:List AF)(c:List AF):Option Int:=Ad d (λ(a:Nat) f=>iF ((a:Int)<b.length) (Ab (idx b a) λg=>iF ((c.length:Int)<=a) (Ac 1)<|Ab (idx c a) λh=>Ab (Yz d (g,h)) λe=>iF (e≠0) (Ac e)<|f (a+1))<|iF ((b.length:Int)<c.length) (Ac ((-1:Int)))<|some 0) (0)
theorem d206(fu x0 x1):tG (fu+1) (x0,x1)=D206 fu x0 x1:=by kernel_rfl
def D207(a:Nat)(b:BO)(c:BO):Option (Int×BO×BO):=Ab (eV a b) λd=>Ab (eV a c) λe=>Ab (tG a (d,e)) λf=>Ac (f,b,c)
theorem d207(fu x0 x1):tF (fu+1) (x0,x1)=D207 fu x0 x1:=by kernel_rfl
def D208(d:Nat)(e:BO)(f:BO):Option (Int×BO×BO):=iF ((0:Int)< ↑3) (Af ((0:Int)<=0/\(0:Int)< ↑3)<|Ab (tM d (e,f)) λa=>iF (a.1≠0) (Ac ((a.1,a.2.1,a.2.2)))<|Aa .i64 ((0:Int)+1)<|iF ((0:Int)+1< ↑3) (Af ((0:Int)<=0+1/\(0:Int)+1< ↑3)<|Ab (tL d (a.2.1,a.2.2)) λb=>iF (b.1≠0) (Ac ((b.1,b.2.1,b.2.2)))<|Aa .i64 ((0:Int)+1+1)<|iF ((0:Int)+1+1< ↑3) (Af ((0:Int)<=0+1+1/\(0:Int)+1+1< ↑3)<|Ab (tF d (b.2.1,b.2.2)) λc=>iF (c.1≠0) (Ac ((c.1,c.2.1,c.2.2)))<|Aa .i64 ((0:Int)+1+1+1)<|iF ((0:Int)+1+1+1< ↑3) (Af ((0:Int)<=0+1+1+1/\(0:Int)+1+1+1< ↑3)<|none)<|some ((0,c.2.1,c.2.2)))<|some ((0,b.2.1,b.2.2)))<|some ((0,a.2.1,a.2.2)))<|some (0,e,f)
theorem d208(fu x0 x1):tE (fu+1) (x0,x1)=D208 fu x0 x1:=by kernel_rfl
def D209(a:Nat)(b:BO)(c:BO):Option Int:=Ab (tE a (b,c)) λd=>Ac d.1
theorem d209(fu x0 x1):tD (fu+1) (x0,x1)=D209 fu x0 x1:=by kernel_rfl
def D210(d:Nat)(b:List BO)(c:List BO):Option Int:=Ad d (λ(a:Nat) f=>iF ((a:Int)<b.length) (Ab (idx b a) λg=>iF ((c.length:Int)<=a) (Ac 1)<|Ab (idx c a) λh=>Ab (tD d (g,h)) λe=>iF (e≠0) (Ac e)<|f (a+1))<|iF ((b.length:Int)<c.length) (Ac ((-1:Int)))<|some 0) (0)
theorem d210(fu x0 x1):tC (fu+1) (x0,x1)=D210 fu x0 x1:=by kernel_rfl
def D211(c:Nat)(a:Vl)(b:Vl):Option (Int×AF):=Ab (tC c (Vl.lists a,Vl.lists b)) λd=>Ac (d,a,b)
theorem d211(fu x0 x1):tB (fu+1) (x0,x1)=D211 fu x0 x1:=by kernel_rfl
def yG(c:Nat)(a:Au×Int×AF)(b:Au×Int×AF):Option (Int×(Au×Int×AF)×Au×Int×AF):=Ab (Yz c (a.2.2,b.2.2)) λd=>Ac (d,a,b)
theorem d212(fu x0 x1):tA (fu+1) (x0,x1)=yG fu x0 x1:=by kernel_rfl
def yF(d:Nat)(e:Au×Int×AF)(f:Au×Int×AF):Option (Int×(Au×Int×AF)×Au×Int×AF):=iF ((0:Int)< ↑3) (Af ((0:Int)<=0/\(0:Int)< ↑3)<|Ab (ko d (e,f)) λa=>iF (a.1≠0) (Ac ((a.1,a.2.1,a.2.2)))<|Aa .i64 ((0:Int)+1)<|iF ((0:Int)+1< ↑3) (Af ((0:Int)<=0+1/\(0:Int)+1< ↑3)<|Ab (kj d (a.2.1,a.2.2)) λb=>iF (b.1≠0) (Ac ((b.1,b.2.1,b.2.2)))<|Aa .i64 ((0:Int)+1+1)<|iF ((0:Int)+1+1< ↑3) (Af ((0:Int)<=0+1+1/\(0:Int)+1+1< ↑3)<|Ab (tA d (b.2.1,b.2.2)) λc=>iF (c.1≠0) (Ac ((c.1,c.2.1,c.2.2)))<|Aa .i64 ((0:Int)+1+1+1)<|iF ((0:Int)+1+1+1< ↑3) (Af ((0:Int)<=0+1+1+1/\(0:Int)+1+1+1< ↑3)<|none)<|some ((0,c.2.1,c.2.2)))<|some ((0,b.2.1,b.2.2)))<|some ((0,a.2.1,a.2.2)))<|some (0,e,f)
theorem d213(fu x0 x1):tz (fu+1) (x0,x1)=yF fu x0 x1:=by kernel_rfl
def D214(a:Nat)(b:Au×Int×AF)(c:Au×Int×AF):Option Int:=Ab (tz a (b,c)) λd=>Ac d.1
theorem d214(fu x0 x1):tx (fu+1) (x0,x1)=D214 fu x0 x1:=by kernel_rfl
def yE(d:Nat)(b:List (Au×Int×AF))(c:List (Au×Int×AF)):Option Int:=Ad d (λ(a:Nat) f=>iF ((a:Int)<b.length) (Ab (idx b a) λg=>iF ((c.length:Int)<=a) (Ac 1)<|Ab (idx c a) λh=>Ab (tx d (g,h)) λe=>iF (e≠0) (Ac e)<|f (a+1))<|iF ((b.length:Int)<c.length) (Ac ((-1:Int)))<|some 0) (0)
theorem d215(fu x0 x1):tv (fu+1) (x0,x1)=yE fu x0 x1:=by kernel_rfl
def yD(c:Nat)(a:BD)(b:BD):Option (Int×BD×BD):=Ab (tv c (a.1,b.1)) λd=>Ac (d,a,b)
theorem d216(fu x0 x1):tu (fu+1) (x0,x1)=yD fu x0 x1:=by kernel_rfl
def yC(c:Nat)(a:A5×AF)(b:A5×AF):Option (Int×(A5×AF)×A5×AF):=Ab (Yz c (a.2,b.2)) λd=>Ac (d,a,b)
theorem d217(fu x0 x1):tt (fu+1) (x0,x1)=yC fu x0 x1:=by kernel_rfl
def yB(c:Nat)(d:A5×AF)(e:A5×AF):Option (Int×(A5×AF)×A5×AF):=iF ((0:Int)< ↑2) (Af ((0:Int)<=0/\(0:Int)< ↑2)<|Ab (kg c (d,e)) λa=>iF (a.1≠0) (Ac ((a.1,a.2.1,a.2.2)))<|Aa .i64 ((0:Int)+1)<|iF ((0:Int)+1< ↑2) (Af ((0:Int)<=0+1/\(0:Int)+1< ↑2)<|Ab (tt c (a.2.1,a.2.2)) λb=>iF (b.1≠0) (Ac ((b.1,b.2.1,b.2.2)))<|Aa .i64 ((0:Int)+1+1)<|iF ((0:Int)+1+1< ↑2) (Af ((0:Int)<=0+1+1/\(0:Int)+1+1< ↑2)<|none)<|some ((0,b.2.1,b.2.2)))<|some ((0,a.2.1,a.2.2)))<|some (0,d,e)
theorem d218(fu x0 x1):tq (fu+1) (x0,x1)=yB fu x0 x1:=by kernel_rfl
def D219(a:Nat)(b:A5×AF)(c:A5×AF):Option Int:=Ab (tq a (b,c)) λd=>Ac d.1
theorem d219(fu x0 x1):tj (fu+1) (x0,x1)=D219 fu x0 x1:=by kernel_rfl
def yA(d:Nat)(b:List (A5×AF))(c:List (A5×AF)):Option Int:=Ad d (λ(a:Nat) f=>iF ((a:Int)<b.length) (Ab (idx b a) λg=>iF ((c.length:Int)<=a) (Ac 1)<|Ab (idx c a) λh=>Ab (tj d (g,h)) λe=>iF (e≠0) (Ac e)<|f (a+1))<|iF ((b.length:Int)<c.length) (Ac ((-1:Int)))<|some 0) (0)
theorem d220(fu x0 x1):ti (fu+1) (x0,x1)=yA fu x0 x1:=by kernel_rfl
def yz(c:Nat)(a:BD)(b:BD):Option (Int×BD×BD):=Ab (ti c (a.2,b.2)) λd=>Ac (d,a,b)
theorem d221(fu x0 x1):tg (fu+1) (x0,x1)=yz fu x0 x1:=by kernel_rfl
def yy(c:Nat)(d:BD)(e:BD):Option (Int×BD×BD):=iF ((0:Int)< ↑2) (Af ((0:Int)<=0/\(0:Int)< ↑2)<|Ab (tu c (d,e)) λa=>iF (a.1≠0) (Ac ((a.1,a.2.1,a.2.2)))<|Aa .i64 ((0:Int)+1)<|iF ((0:Int)+1< ↑2) (Af ((0:Int)<=0+1/\(0:Int)+1< ↑2)<|Ab (tg c (a.2.1,a.2.2)) λb=>iF (b.1≠0) (Ac ((b.1,b.2.1,b.2.2)))<|Aa .i64 ((0:Int)+1+1)<|iF ((0:Int)+1+1< ↑2) (Af ((0:Int)<=0+1+1/\(0:Int)+1+1< ↑2)<|none)<|some ((0,b.2.1,b.2.2)))<|some ((0,a.2.1,a.2.2)))<|some (0,d,e)
theorem d222(fu x0 x1):tf (fu+1) (x0,x1)=yy fu x0 x1:=by kernel_rfl
def D223(a:Nat)(b:BD)(c:BD):Option Int:=Ab (tf a (b,c)) λd=>Ac d.1
theorem d223(fu x0 x1):td (fu+1) (x0,x1)=D223 fu x0 x1:=by kernel_rfl
def yx(d:Nat)(b:List BD)(c:List BD):Option Int:=Ad d (λ(a:Nat) f=>iF ((a:Int)<b.length) (Ab (idx b a) λg=>iF ((c.length:Int)<=a) (Ac 1)<|Ab (idx c a) λh=>Ab (td d (g,h)) λe=>iF (e≠0) (Ac e)<|f (a+1))<|iF ((b.length:Int)<c.length) (Ac ((-1:Int)))<|some 0) (0)
theorem d224(fu x0 x1):tc (fu+1) (x0,x1)=yx fu x0 x1:=by kernel_rfl
def yw(c:Nat)(a:Vl)(b:Vl):Option (Int×AF):=Ab (tc c (Vl.structs a,Vl.structs b)) λd=>Ac (d,a,b)
theorem d225(fu x0 x1):ta (fu+1) (x0,x1)=yw fu x0 x1:=by kernel_rfl
def D226(e:Nat)(f:Vl)(g:Vl):Option (Int×AF):=iF ((0:Int)< ↑4) (Af ((0:Int)<=0/\(0:Int)< ↑4)<|Ab (tO e (f,g)) λa=>iF (a.1≠0) (Ac ((a.1,a.2.1,a.2.2)))<|Aa .i64 ((0:Int)+1)<|iF ((0:Int)+1< ↑4) (Af ((0:Int)<=0+1/\(0:Int)+1< ↑4)<|Ab (tN e (a.2.1,a.2.2)) λb=>iF (b.1≠0) (Ac ((b.1,b.2.1,b.2.2)))<|Aa .i64 ((0:Int)+1+1)<|iF ((0:Int)+1+1< ↑4) (Af ((0:Int)<=0+1+1/\(0:Int)+1+1< ↑4)<|Ab (tB e (b.2.1,b.2.2)) λc=>iF (c.1≠0) (Ac ((c.1,c.2.1,c.2.2)))<|Aa .i64 ((0:Int)+1+1+1)<|iF ((0:Int)+1+1+1< ↑4) (Af ((0:Int)<=0+1+1+1/\(0:Int)+1+1+1< ↑4)<|Ab (ta e (c.2.1,c.2.2)) λd=>iF (d.1≠0) (Ac ((d.1,d.2.1,d.2.2)))<|Aa .i64 ((0:Int)+1+1+1+1)<|iF ((0:Int)+1+1+1+1< ↑4) (Af ((0:Int)<=0+1+1+1+1/\(0:Int)+1+1+1+1< ↑4)<|none)<|some ((0,d.2.1,d.2.2)))<|some ((0,c.2.1,c.2.2)))<|some ((0,b.2.1,b.2.2)))<|some ((0,a.2.1,a.2.2)))<|some (0,f,g)
theorem d226(fu x0 x1):s_ (fu+1) (x0,x1)=D226 fu x0 x1:=by kernel_rfl
def D227(a:Nat)(b:Vl)(c:Vl):Option Int:=Ab (s_ a (b,c)) λd=>Ac d.1
theorem d227(fu x0 x1):eC (fu+1) (x0,x1)=D227 fu x0 x1:=by kernel_rfl
def kf(a:Nat):Vl×Vl->Option Int|(b,c)=>Ab (sE a b) λd=>iB (!d) (Ac 0)<|Ab (sE a c) λe=>iB (!e) (Ac 0)<|Ab (eC a (b,c)) Ac
def zl:=bQ [B88,B224] Tryz.func212 [BC,BC] [Aj] kf
def eB(a:Nat):BO×BO->Option Int|(b,c)=>Ab (tR a b) λd=>Ab (tR a c) λe=>Ab (kf a (d,e)) Ac
def B226:=bP [B188,zl] Tryz.func211 ⟨[.Ae Cc, .Ae Cc],[(0, .v 0 Cc),(1, .v 1 Cc),(2, .loc 0 0)],[(0, .Ah 128 [(1, .AK 152 [] [])])],1⟩ ⟨[.Ae Aj],[(0, .v 0 Aj)],[(0, .Ah 128 [(1, .AK 152 [] [])])],1⟩ 1 [] eB
def D230(fu:Nat)(x0 x1:Int)(x2:List BO):=Sb (λx y=>eB fu (x,y)) fu x0 x1 x2
abbrev xU fu:=u3 (D230 fu)
def B227:=bP [B226] Tryz.func314 ⟨[.Ae Aj, .Ae Aj, .Ae Ej],[(0, .AH 0),(1, .v 0 Aj),(2, .v 1 Aj),(3, .AK 211 [] [1])],[(0, .row 77 2),(1, .Ah 128 [(1, .AK 152 [] [])])],2⟩ ⟨[.Ae Ej],[],[(0, .row 77 0),(1, .Ah 128 [(1, .AK 152 [] [])])],2⟩ 0 [] xU (la:=lk [(1,⟨[.Ae Ej, .Ae Aj],(kp [0,1,2,3] [(8, .v 1 Aj)]),[(1, .Ah 128 [(1, .AK 152 [] [])]),(0, .row 77 0)],2⟩),(4,⟨[.Ae Ej, .Ae Aj],(kp [0,1,2,3,8] [(9, .v 1 Aj)]),[(1, .Ah 128 [(1, .AK 152 [] [])]),(0, .row 77 0)],2⟩)])
def s9(c:Nat):Int×Int×Int×List BO->Option (List BO)|(a,b,d,e)=>Ad c (λ(g:PUnit) h=>Aa .i64 (b-a)<|iF (b-a<=12) (Ab (xU c (a,b,e)) Ac)<|iF (d=0) C7<|none) (())
def B228:=bP [B227] Tryz.func266 ⟨[.Ae Aj, .Ae Aj, .Ae Aj, .Ae Ej],[(0, .AH 0),(1, .v 0 Aj),(2, .v 1 Aj),(3, .v 2 Aj),(4, .AK 211 [] [1])],[(0, .row 77 3),(1, .Ah 128 [(1, .AK 152 [] [])])],2⟩ ⟨[.Ae Ej],[],[(0, .row 77 0),(1, .Ah 128 [(1, .AK 152 [] [])])],2⟩ 0 [] s9 (la:=lk [(2,⟨[],(kp [0,1,2,3,4,10,11] []),[(1, .c 0),(0, .c 0)],2⟩)])
def eA(b:Nat)(a:List BO):Option (List BO):=Ab (sH b (Int.ofNat (FC a %wK (18446744073709551616:Int)))) λc=>Ab (s9 b (0,(a.length:Int),c,a)) Ac
def B229:=bP [B62,B228] Tryz.func210 ⟨[.Ae Ej],[(0, .AH 0),(1, .AK 211 [] [1])],[(0, .row 77 0),(1, .Ah 128 [(1, .AK 152 [] [])])],2⟩ ⟨[.Ae Ej],[],[(0, .row 77 0),(1, .Ah 128 [(1, .AK 152 [] [])])],2⟩ 0 [] eA
def s7(c:Nat)(d:List BO):Option (List BO):=Ad c (λ(a:List BO×Nat) e=>iF ((a.2:Int)<d.length) (Ab (idx d a.2) λf=>Ad c (λ(b:Nat) g=>iF ((b:Int)<d.length) (Ab (idx d b) λh=>iF ((a.2:Int)≠b) (Ab (U6 c (f,h)) λi=>iB i (iF ((b:Int)<a.2) (e (a.1,a.2+1))<|Ab (U6 c (h,f)) λj=>iB (!j) (e (a.1,a.2+1))<|g (b+1))<|g (b+1))<|g (b+1))<|Af (FC a.1+1<=Ai)<|e (((a.1++[f]),a.2+1))) (0))<|Ab (eA c a.1) Ac) (([],0))
def B230:=bP [B187,B229] Tryz.func150 ⟨[.Ae Ej],[(0, .v 0 Ej),(1, .AK 151 [] []),(2, .AK 152 [] [])],[],0⟩ ⟨[.Ae Ej],[(0, .v 0 Ej)],[],0⟩ 1 [] s7 (la:=lk [(3,⟨[.Ae Ej, .nat],(kp [0,1,5] [(7, .AH 1),(12, .Am),(13, .Am),(14, .AE 1 301)]),[(0, .c 0),(1, .row 77 0)],2⟩),(6,⟨[.nat],(kp [0,1,5,7,8,9,12,13,14,19,20] [(21, .AE 0 600)]),[(2, .c 0),(1, .c 0),(0, .c 0)],3⟩)]) (pt:=lg [(2,[.own 7 77 Cc]),(13,[.fz 6])])
def s6(b:Nat)(a:BD):Option Vl:=Ac (Vl.mk Ak (Ak,Ak,Ak,([],[]),[]) [] [a])
def B231:=bQ [] Tryz.func155 [BR] [BC] s6 (pt:=lg [(1,[.M3 2 8])])
def ew(a:Nat):BD×BD->Option Int|(b,c)=>Ab (s6 a b) λd=>Ab (s6 a c) λe=>Ab (kf a (d,e)) Ac
def B232:=bP [B231,zl] Tryz.func216 ⟨[.Ae BR, .Ae BR],[(0, .v 0 BR),(1, .v 1 BR),(2, .loc 0 0)],[(0, .Ah 131 [(1, .AK 155 [] [])])],1⟩ ⟨[.Ae Aj],[(0, .v 0 Aj)],[(0, .Ah 131 [(1, .AK 155 [] [])])],1⟩ 1 [] ew
def D236(fu:Nat)(x0 x1:Int)(x2:List BD):=Sb (λx y=>ew fu (x,y)) fu x0 x1 x2
abbrev xT fu:=u3 (D236 fu)
def B233:=bP [B232] Tryz.func332 ⟨[.Ae Aj, .Ae Aj, .Ae Ei],[(0, .AH 0),(1, .v 0 Aj),(2, .v 1 Aj),(3, .AK 216 [] [1])],[(0, .row 65 2),(1, .Ah 131 [(1, .AK 155 [] [])])],2⟩ ⟨[.Ae Ei],[],[(0, .row 65 0),(1, .Ah 131 [(1, .AK 155 [] [])])],2⟩ 0 [] xT (la:=lk [(1,⟨[.Ae Ei, .Ae Aj],(kp [0,1,2,3] [(8, .v 1 Aj)]),[(1, .Ah 131 [(1, .AK 155 [] [])]),(0, .row 65 0)],2⟩),(4,⟨[.Ae Ei, .Ae Aj],(kp [0,1,2,3,8] [(9, .v 1 Aj)]),[(1, .Ah 131 [(1, .AK 155 [] [])]),(0, .row 65 0)],2⟩)])
def s5(c:Nat):Int×Int×Int×List BD->Option (List BD)|(a,b,d,e)=>Ad c (λ(g:PUnit) h=>Aa .i64 (b-a)<|iF (b-a<=12) (Ab (xT c (a,b,e)) Ac)<|iF (d=0) C7<|none) (())
def B234:=bP [B233] Tryz.func268 ⟨[.Ae Aj, .Ae Aj, .Ae Aj, .Ae Ei],[(0, .AH 0),(1, .v 0 Aj),(2, .v 1 Aj),(3, .v 2 Aj),(4, .AK 216 [] [1])],[(0, .row 65 3),(1, .Ah 131 [(1, .AK 155 [] [])])],2⟩ ⟨[.Ae Ei],[],[(0, .row 65 0),(1, .Ah 131 [(1, .AK 155 [] [])])],2⟩ 0 [] s5 (la:=lk [(2,⟨[],(kp [0,1,2,3,4,10,11] []),[(1, .c 0),(0, .c 0)],2⟩)])
def ep(b:Nat)(a:List BD):Option (List BD):=Ab (sH b (Int.ofNat (FC a %wK (18446744073709551616:Int)))) λc=>Ab (s5 b (0,(a.length:Int),c,a)) Ac
def B235:=bP [B62,B234] Tryz.func215 ⟨[.Ae Ei],[(0, .AH 0),(1, .AK 216 [] [1])],[(0, .row 65 0),(1, .Ah 131 [(1, .AK 155 [] [])])],2⟩ ⟨[.Ae Ei],[],[(0, .row 65 0),(1, .Ah 131 [(1, .AK 155 [] [])])],2⟩ 0 [] ep
def s4(c:Nat)(d:List BD):Option (List BD):=Ad c (λ(a:List BD×Nat) e=>iF ((a.2:Int)<d.length) (Ab (idx d a.2) λf=>Ad c (λ(b:Nat) g=>iF ((b:Int)<d.length) (Ab (idx d b) λh=>iF ((a.2:Int)≠b) (Ab (U7 c (f,h)) λi=>iB i (iF ((b:Int)<a.2) (e (a.1,a.2+1))<|Ab (U7 c (h,f)) λj=>iB (!j) (e (a.1,a.2+1))<|g (b+1))<|g (b+1))<|g (b+1))<|Af (FC a.1+1<=Ai)<|e (((a.1++[f]),a.2+1))) (0))<|Ab (ep c a.1) Ac) (([],0))
def B236:=bP [B180,B235] Tryz.func153 ⟨[.Ae Ei],[(0, .v 0 Ei),(1, .AK 154 [] []),(2, .AK 155 [] [])],[],0⟩ ⟨[.Ae Ei],[(0, .v 0 Ei)],[],0⟩ 1 [] s4 (la:=lk [(3,⟨[.Ae Ei, .nat],(kp [0,1,5] [(7, .AH 1),(12, .Am),(13, .Am),(14, .AE 1 301)]),[(0, .c 0),(1, .row 65 0)],2⟩),(6,⟨[.nat],(kp [0,1,5,7,8,9,12,13,14,19,20] [(21, .AE 0 600)]),[(2, .c 0),(1, .c 0),(0, .c 0)],3⟩)]) (pt:=lg [(2,[.own 7 65 BR]),(13,[.fz 6])])
def xS(a:Nat)(_:Unit):Option A5:=Ac ([(Bp,[(0,255,0)])])
def B237:=bQ [] Tryz.func272 [] [y3] xS (pt:=lg [(1,[.M3 0 0])])
def kd(a:Nat)(_:Unit):Option Fy:=Ab (U8 a ()) λb=>Ab (xS a ()) λc=>Ac (Bp,Bp,Bp,b,c)
def B238:=bQ [zr,B237] Tryz.func219 [] [y8] kd
def eo(b:Nat)(a:AF):Option Bool:=iB (Vl.any a.1) (Ac (Vl.any a.2))<|some Ak
def zk:=bQ [] Tryz.func273 [Bz] [.bool] eo
def sZ(b:Nat)(a:BO):Option Bool:=iF ((a.1.length:Int)=0) (iF ((a.2.length:Int)=1) (Ab (idx a.2 0) λc=>Ab (eo b c) Ac)<|some Ak)<|some Ak
def B240:=bQ [zk] Tryz.func220 [Cc] [.bool] sZ
def sY(b:Nat)(a:BD):Option Bool:=iF ((a.1.length:Int)=0) (iF ((a.2.length:Int)=1) (Ab (idx a.2 0) λc=>Ab (eo b c.2) Ac)<|some Ak)<|some Ak
def B241:=bQ [zk] Tryz.func221 [BR] [.bool] sY
def kc(b:Nat)(a:Vl):Option Bool:=iF (((Vl.lists a).length:Int)=1) (iF (((Vl.structs a).length:Int)=1) (Ab (kd b ()) λc=>Ab (TC b (Vl.sc a,c)) λd=>iF (d=0) (Ab (idx (Vl.lists a) (0:Int)) λe=>Ab (sZ b e) λf=>iB f (Ab (idx (Vl.structs a) (0:Int)) λg=>Ab (sY b g) Ac)<|some Ak)<|some Ak)<|some Ak)<|some Ak
def B242:=bQ [zm,B238,B240,B241] Tryz.func156 [BC] [.bool] kc
abbrev nL:Type:=Gm 148 [Cc] [Cc, .bool, .bool]×Gm 149 [BR] [BR, .bool, .bool]×Gm 109 [BC] [BC, .bool]×Gm 77 [Bz] [Bz, .bool]
def dE(n:Nat):nL:=Nat.rec (motive:=λ_=>nL) (tQ Tryz.func148,tQ Tryz.func149,tQ Tryz.func109,tQ Tryz.func77) (λfu ⟨g0,g1,g2,g3⟩=>(sQ (Dd g3::bs [kR] fu) fu Tryz.func148 [Cc] [Cc, .bool, .bool] (la:=lk [(4,⟨[.Ae Dn, .Ae .bool, .nat],(kp [1,2,5] [(6, .v 1 .bool),(16, .Am),(17, .Am),(18, .AE 2 402)]),[(2, .Ah 77 [(1, .AH 3),(1, .Am)]),(1, .c 0),(0, .c 0),(3, .row 35 0)],4⟩),(13,⟨[.Ae Dn, .nat],(kp [2,5,6,45,46] [(47, .AE 1 1301)]),[(2, .Ah 77 [(1, .Am),(1, .AH 4)]),(3, .c 0),(1, .c 0),(4, .row 35 0)],5⟩)]) (pt:=lg [(3,[.Ex 5 0 35 Bz]),(12,[.Ex 5 1 35 Bz]),(21,[.M3 2 0, .M3 2 1])]),sQ (Dd g3::bs [kR,B136,zB,B149] fu) fu Tryz.func149 [BR] [BR, .bool, .bool] (la:=lk [(4,⟨[.Ae L9, .Ae .bool, .nat],(kp [1,2,5] [(6, .v 1 .bool),(17, .Am),(18, .Am),(19, .AE 2 402)]),[(2, .Ah 65 [(1, .AH 3),(1, .Am)]),(1, .c 0),(0, .c 0),(3, .row 69 0)],4⟩),(14,⟨[.Ae Gq, .nat],(kp [2,5,6,49,50] [(51, .AE 1 1401)]),[(2, .Ah 65 [(1, .Am),(1, .AH 4)]),(3, .c 0),(1, .c 0),(4, .row 92 0)],5⟩)]) (pt:=lg [(3,[.Ex 5 0 69 ER]),(13,[.Ex 5 1 92 FQ]),(25,[.M3 2 0, .M3 2 1])]),sQ (Dd g0::Dd g1::bs [B108,B230,B236,B242] fu) fu Tryz.func109 [BC] [BC, .bool] (la:=lk [(6,⟨[.Ae Ej, .nat],(kp [1,2,4] [(5, .AH 3),(25, .Am),(26, .Am),(27, .AE 1 601)]),[(2, .c 0),(1, .c 0),(0, .c 0),(3, .row 77 0)],4⟩),(16,⟨[.Ae Ei, .nat],(kp [2,4,5] [(11, .AH 4),(47, .Am),(48, .Am),(49, .AE 1 1601)]),[(3, .c 0),(2, .c 0),(1, .c 0),(4, .row 65 0)],5⟩)]) (pr:=lg [(24,[.fz 5, .fz 11])]) (pt:=lg [(5,[.own 5 77 Cc]),(15,[.own 11 65 BR])]),sQ (Dd g2::bs [B185] fu) fu Tryz.func77 [Bz] [Bz, .bool])) n
abbrev j_(fu:Nat)(x:BO):Option (BO×Bool×Bool):=(dE fu).1.1 x
abbrev j9(fu:Nat)(x:BD):Option (BD×Bool×Bool):=(dE fu).2.1.1 x
abbrev Yy(fu:Nat)(x:(Vl)):Option (Vl×Bool):=(dE fu).2.2.1.1 x
def B246(fu:Nat):=Dd (dE fu).2.2.2
abbrev Ly(fu:Nat)(x:AF):Option (AF×Bool):=(dE fu).2.2.2.1 x
def D246(c:Nat)(d:BO):Option (BO×Bool×Bool):=Ad c (λ(a:List AF×Bool×Nat) g=>iF ((a.2.2:Int)<d.1.length) (Ab (idx d.1 a.2.2) λi=>Ab (Ly c i) λe=>iB (!e.2) (Ac ((([],[]),Ak,Ak)))<|iB a.2.1 (Ab (U_ c e.1.1) λj=>Af (FC a.1+1<=4294967296)<|g ((a.1++[e.1]),(!j),a.2.2+1))<|Af (FC a.1+1<=4294967296)<|g ((a.1++[e.1]),Ak,a.2.2+1))<|Ad c (λ(b:List AF×Nat) h=>iF ((b.2:Int)<d.2.length) (Ab (idx d.2 b.2) λk=>Ab (Ly c k) λf=>iB (!f.2) (Ac ((([],[]),Ak,Ak)))<|Ab (U_ c f.1.1) λl=>iB (!l) (Af (FC b.1+1<=4294967296)<|h ((b.1++[f.1]),b.2+1))<|h (b.1,b.2+1))<|some (((a.1,b.1),a.2.1,Bp))) (([],0))) (([],Bp,0))
theorem d246(fu x0):j_ (fu+1) x0=D246 fu x0:=by kernel_rfl
def D247(c:Nat)(f:BD):Option (BD×Bool×Bool):=Ad c (λ(a:List (Au×Int×AF)×Bool×Nat) i=>iF ((a.2.2:Int)<f.1.length) (Ab (idx f.1 a.2.2) λe=>Ab (Ly c e.2.2) λg=>iB (!g.2) (Ac ((([],[]),Ak,Ak)))<|iB a.2.1 (Ab (U_ c g.1.1) λl=>Af (FC a.1+1<=4294967296)<|i ((a.1++[(e.1,e.2.1,g.1)]),(!l),a.2.2+1))<|Af (FC a.1+1<=4294967296)<|i ((a.1++[(e.1,e.2.1,g.1)]),Ak,a.2.2+1))<|Ad c (λ(d:List (A5×AF)×Nat) j=>iF ((d.2:Int)<f.2.length) (Ab (idx f.2 d.2) λh=>Ab (Ly c h.2) λk=>iB (!k.2) (Ac ((([],[]),Ak,Ak)))<|Ab (uo c (d.1,k.1)) λb=>iF (b.1<0) (Ab (Vc c (h.1,[])) λm=>Af (FC b.2.1+1<=4294967296)<|j ((b.2.1++[(m,b.2.2)]),d.2+1))<|Ab (idx b.2.1 b.1) λn=>Ab (Vc c (n.1,h.1)) λo=>Ab (idx b.2.1 b.1) λp=>j ((b.2.1.set (Int.toNat b.1) (o,p.2)),d.2+1))<|Ab (kJ c d.1) λq=>Ac (((a.1,q),a.2.1,Bp))) (([],0))) (([],Bp,0))
theorem d247(fu x0):j9 (fu+1) x0=D247 fu x0:=by kernel_rfl
def D248(a:Nat)(d:Vl):Option (Vl×Bool):=iB (Vl.any d) (Ac ((d,Bp)))<|Ab (uB a (Vl.sc d)) λg=>Ad a (λ(b:List BO×Nat) h=>iF ((b.2:Int)<(Vl.lists d).length) (Ab (idx (Vl.lists d) (b.2:Int)) λl=>Ab (j_ a l) λe=>iB (!e.2.2) (Ac ((Vl.mk Ak (Ak,Ak,Ak,([],[]),[]) [] [],Ak)))<|iB e.2.1 (Af (FC b.1+1<=Ai)<|h ((b.1++[e.1]),b.2+1))<|h (b.1,b.2+1))<|Ad a (λ(c:List BD×Nat) i=>iF ((c.2:Int)<(Vl.structs d).length) (Ab (idx (Vl.structs d) (c.2:Int)) λm=>Ab (j9 a m) λf=>iB (!f.2.2) (Ac ((Vl.mk Ak (Ak,Ak,Ak,([],[]),[]) [] [],Ak)))<|iB f.2.1 (Af (FC c.1+1<=Ai)<|i ((c.1++[f.1]),c.2+1))<|i (c.1,c.2+1))<|Ab (s7 a b.1) λj=>Ab (s4 a c.1) λk=>Ab (kc a (Vl.mk Ak g j k)) λn=>iB n (Ac ((Vl.mk Bp (Ak,Ak,Ak,([],[]),[]) [] [],Bp)))<|some ((Vl.mk Ak g j k,Bp))) (([],0))) (([],0))
theorem d248(fu x0):Yy (fu+1) x0=D248 fu x0:=by kernel_rfl
def D249(c:Nat)(d:AF):Option (AF×Bool):=Ab (Yy c d.1) λa=>Ab (Yy c d.2) λb=>iB a.2 (iB b.2 (Ab (TD c (b.1,a.1)) λe=>Ac (((a.1,b.1),e)))<|some (((a.1,b.1),Ak)))<|some ((a.1,b.1),Ak)
theorem d249(fu x0):Ly (fu+1) x0=D249 fu x0:=by kernel_rfl
def ej(a:Nat)(b:AF):Option (AF×Int):=Ab (F92 a b) λd=>iB (!d) (Ac (((Vl.mk Ak (Ak,Ak,Ak,([],[]),[]) [] [],Vl.mk Ak (Ak,Ak,Ak,([],[]),[]) [] []),11)))<|Ab (Ly a b) λc=>iB (!c.2) (Ac (((Vl.mk Ak (Ak,Ak,Ak,([],[]),[]) [] [],Vl.mk Ak (Ak,Ak,Ak,([],[]),[]) [] []),11)))<|some (c.1,0)
def zj:=bQ [B89,B246] Tryz.func55 [Bz] [Bz,Aj] ej
def TB(a:Nat)(b:AF):Option Bool:=Ab (ej a b) λc=>iF (c.2=0) (Ab (eF a (c.1,b)) Ac)<|some Ak
def uM:=bQ [zj,uP] Tryz.func50 [Bz] [.bool] TB
def sX(b:Nat)(c:AF):Option Vl:=Ab (ej b c) λa=>iF (a.2≠0) (Ac (Vl.mk Ak (Ak,Ak,Ak,([],[]),[]) [] []))<|Ab (TB b c) λd=>iB (!d) (Ac (Vl.mk Ak (Ak,Ak,Ak,([],[]),[]) [] []))<|Ab (U_ b a.1.2) λe=>iB e (Ac a.1.1)<|some a.1.2
def B249:=bQ [kR,uM,zj] Tryz.func82 [Bz] [BC] sX
def j8(a:Nat)(b:AF):Option ((Vl×Bool)×Int):=Ab (TB a b) λd=>iB (!d) (Ac (((Vl.mk Ak (Ak,Ak,Ak,([],[]),[]) [] [],Ak),11)))<|Ab (U_ a b.1) λe=>iB e (Ac (((Vl.mk Ak (Ak,Ak,Ak,([],[]),[]) [] [],Ak),12)))<|Ab (sX a b) λc=>Ab (YI a (Vl.sc c)) λf=>Ac ((c,(!f)),0)
def zi:=bQ [kR,uQ,uM,B249] Tryz.func61 [Bz] [(.st y26),Aj] j8
def sW(b:Nat)(a:Vl×Bool):Option Int:=Aa .i64 (((Vl.lists a.1).length:Int)+((Vl.structs a.1).length:Int))<|iB a.2 (Aa .i64 (((Vl.lists a.1).length:Int)+((Vl.structs a.1).length:Int)+1)<|some (((((Vl.lists a.1).length:Int)+((Vl.structs a.1).length:Int))+1)))<|some (((Vl.lists a.1).length:Int)+((Vl.structs a.1).length:Int))
def B251:=bQ [] Tryz.func83 [(.st y26)] [Aj] sW
def j7(c:Nat):(Vl×Bool)×Int->Option Int|(b,a)=>iB (Vl.any b.1) (Ac 14)<|iF ((0:Int)<a) (Ab (sW c b) λd=>iF ((1:Int)<d) (Ac 14)<|iF (a=0) (Ac 11)<|some 0)<|iF (a=0) (Ac 11)<|some 0
def zh:=bQ [B251] Tryz.func62 [(.st y26),Aj] [Aj] j7
def xR(b:Nat)(d:AF):Option (BD×Int):=Ab (j8 b d) λa=>iF (a.2=0) (Ab (j7 b (a.1,((Vl.structs a.1.1).length:Int))) λc=>iF (c≠0) (Ac ((([],[]),c)))<|Ab (idx (Vl.structs a.1.1) (0:Int)) λe=>Ac ((e,0)))<|iF (a.2≠0) (Ac ((([],[]),a.2)))<|Ab (idx (Vl.structs a.1.1) (0:Int)) λf=>Ac (f,0)
def B253:=bQ [zi,zh] Tryz.func37 [Bz] [BR,Aj] xR
def eh(c:Nat):AF×Au->Option (AF×Int)|(e,f)=>Ab (xR c e) λa=>iF (a.2≠0) (Ac (((Vl.mk Ak (Ak,Ak,Ak,([],[]),[]) [] [],Vl.mk Ak (Ak,Ak,Ak,([],[]),[]) [] []),a.2)))<|Ad c (λ(b:Nat) g=>iF ((b:Int)<a.1.1.length) (Ab (idx a.1.1 b) λd=>iF (d.1=f) (Ac ((d.2.2,0)))<|g (b+1))<|some (((Vl.mk Ak (Ak,Ak,Ak,([],[]),[]) [] [],Vl.mk Ak (Ak,Ak,Ak,([],[]),[]) [] []),13))) (0)
def B254:=bQ [B253] Tryz.func11 [Bz, .str] [Bz,Aj] eh (la:=lk [(5,⟨[.nat],(kp [1,4,20,21] [(22, .AE 0 500)]),[(1, .c 0)],3⟩)])
def j6(b:Nat)(d:AF):Option (BO×Int):=Ab (j8 b d) λa=>iF (a.2=0) (Ab (j7 b (a.1,((Vl.lists a.1.1).length:Int))) λc=>iF (c≠0) (Ac ((([],[]),c)))<|Ab (idx (Vl.lists a.1.1) (0:Int)) λe=>Ac ((e,0)))<|iF (a.2≠0) (Ac ((([],[]),a.2)))<|Ab (idx (Vl.lists a.1.1) (0:Int)) λf=>Ac (f,0)
def zg:=bQ [zi,zh] Tryz.func45 [Bz] [Cc,Aj] j6
def j0(c:Nat):AF×Int->Option (AF×Int)|(d,b)=>Ab (j6 c d) λa=>iF (a.2≠0) (Ac (((Vl.mk Ak (Ak,Ak,Ak,([],[]),[]) [] [],Vl.mk Ak (Ak,Ak,Ak,([],[]),[]) [] []),a.2)))<|iF (b<0) (Ac (((Vl.mk Ak (Ak,Ak,Ak,([],[]),[]) [] [],Vl.mk Ak (Ak,Ak,Ak,([],[]),[]) [] []),1)))<|iF (b<(a.1.1.length:Int)) (Ab (idx a.1.1 b) λe=>Ac ((e,0)))<|iF ((0:Int)<a.1.2.length) (Ac (((Vl.mk Ak (Ak,Ak,Ak,([],[]),[]) [] [],Vl.mk Ak (Ak,Ak,Ak,([],[]),[]) [] []),14)))<|some ((Vl.mk Ak (Ak,Ak,Ak,([],[]),[]) [] [],Vl.mk Ak (Ak,Ak,Ak,([],[]),[]) [] []),13)
def zf:=bQ [zg] Tryz.func18 [Bz,Aj] [Bz,Aj] j0
def xQ(a:Nat):AF×AF->Option Bool|(b,c)=>Ab (NC a (b,c)) λd=>iB d (Ab (F92 a b) Ac)<|some Ak
def B257:=bQ [zw,B89] Tryz.func35 [Bz,Bz] [.bool] xQ
def xP(a:Nat)(b:Vl):Option Bool:=Ab (TB a (b,Vl.mk Ak (Ak,Ak,Ak,([],[]),[]) [] [])) Ac
def B258:=bQ [uM] Tryz.func42 [BC] [.bool] xP
def xO(c:Nat):Vl×Au->Option Bool|(a,b)=>iF (b=([110,117,108,108]:Au)) (Ac ((Vl.sc a).1))<|iF (b=([98,111,111,108]:Au)) (iB ((Vl.sc a).2.1) (Ac Bp)<|some ((Vl.sc a).2.2.1))<|iF (b=([105,110,116]:Au)) (Ac (Dl ((0:Int)<(((Vl.sc a).2.2.2.1.1).length:Int))))<|iF (b=([110,117,109,98,101,114]:Au)) (Ac (Dl ((0:Int)<(((Vl.sc a).2.2.2.1.2).length:Int))))<|iF (b=([115,116,114,105,110,103]:Au)) (Ac (Dl ((0:Int)<(((Vl.sc a).2.2.2.2).length:Int))))<|iF (b=([108,105,115,116]:Au)) (Ac (Dl ((0:Int)<(Vl.lists a).length)))<|some (Dl ((0:Int)<(Vl.structs a).length))
def B259:=bQ [] Tryz.func43 [(.st BC), .str] [.bool] xO
def sV(b:Nat)(c:Vl):Option (List Au):=Ab (xP b c) λf=>iB (!f) (Ac [])<|Ad b (λ(a:List Au×Nat) d=>iF ((a.2:Int)< ↑(7)) (Ab (idx [([110,117,108,108]:Au),([98,111,111,108]:Au),([105,110,116]:Au),([110,117,109,98,101,114]:Au),([115,116,114,105,110,103]:Au),([108,105,115,116]:Au),([115,116,114,117,99,116]:Au)] (a.2:Int)) λe=>iB (Vl.any c) (Af (FC a.1+1<=Ai)<|d ((a.1++[e]),a.2+1))<|Ab (xO b (c,e)) λg=>iB g (Af (FC a.1+1<=Ai)<|d ((a.1++[e]),a.2+1))<|d (a.1,a.2+1))<|some a.1) (([],0))
def B260:=bQ [B258,B259] Tryz.func16 [BC] [Lm] sV (la:=lk [(6,⟨[.Ae Lm, .nat],(kp [1,3] [(4, .AH 2),(13, .Am),(14, .Am),(15, .AE 1 601)]),[(1, .c 0),(0, .c 0),(2, .row 9 0)],3⟩)]) (pt:=lg [(5,[.own 4 9 .str]),(11,[.fz 2])])
def xN(d:Nat):List Au×List Au->Option Bool|(b,c)=>iF ((b.length:Int)≠c.length) (Ac Ak)<|Ad d (λ(a:Nat) e=>iF ((a:Int)<b.length) (Ab (idx b a) λf=>Ab (idx c a) λg=>iB (!decide (f=g)) (Ac Ak)<|e (a+1))<|some Bp) (0)
def B261:=bQ [] Tryz.func15 [Lm,Lm] [.bool] xN (la:=lk [(4,⟨[.nat],(kp [0,1] [(5, .AE 0 400)]),[],0⟩)])
def D266(fu:Nat):Option Bool:=Ab (F5 fu (1,1)) λr1=>Ab (F6 fu r1) λr2=>Ab (F33 fu (([97]:Au),r2)) λr3=>Ab (F6 fu r3) λr4=>Ab (eh fu (r4,([97]:Au))) λr5=>Ab (eh fu (r4,([98]:Au))) λr6=>Ab (j0 fu (r4,0)) λr7=>Ab (F33 fu (([97]:Au),r2)) λr8=>Ab (F5 fu (1,1)) λr9=>Ab (F6 fu (Vl.mk (Vl.any r8) (Vl.sc r9) (Vl.lists r8) (Vl.structs r8))) λr10=>Ab (eh fu (r10,([97]:Au))) λr11=>Ab (F5 fu (1,2)) λr12=>Ab (F6 fu r12) λr13=>Ab (eh fu (r13,([97]:Au))) λr14=>bif Dl (r5.2=0)then bif Dl (r6.2=13)then bif Dl (r7.2=11)then bif Dl (r11.2=14)then bif Dl (r14.2=11)then Ab (xQ fu (r5.1,r2)) λr15=>bif r15 then Ab (F32 fu ()) λr16=>Ab (sV fu r16.1) λr17=>bif Dl ((r17.length:Int)=7)then Ab (F5 fu ((-3:Int),3)) λr18=>Ab (sV fu r18) λr19=>Ab (xN fu (r19,[([105,110,116]:Au)])) λr20=>Ac r20 else Ac Ak else Ac Ak else Ac Ak else Ac Ak else Ac Ak else Ac Ak else Ac Ak
abbrev eg(fu:Nat)(_:Unit):=D266 fu
def B262:=bQ [B254,B261,B260,zf,B6,B5,B33,B257,B32] Tryz.func10 [] [.bool] eg
end
end Go.GV
