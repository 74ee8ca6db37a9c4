/- Part 5 of the texts of this claim: what its theorem leans on. -/
import Derived.Test.YtimbbibpghnipaaGreatDoorZLookupItems4
import Derived.KernelRfl
set_option linter.all false
open Option renaming some→Ac,none→C7
open Bool renaming false→Ak,true→Bp
open Go renaming Value→BZ,Operand→DQ,TypeId→Gn,Program→GJ,World→IK,execOp→Km,Oper→K0,IntKind→Lh
open Decidable renaming decide→Dm
open List renaming length→FB
open Int renaming natAbs→wv
namespace Go.GV
open Go Go.GK Go.Proofs
noncomputable section
def D183(a:Nat)(b:BB)(c:BB):Option Bool:=Af ((b.1.length:Int)=b.1.length/\(b.1.length:Int)=b.1.length)<|Ad a (λ(e:Nat) o=>iF ((e:Int)< ↑(2)) (Ab (idx [b.1,c.1] (e:Int)) λh=>Ad a (λ(f:Nat) p=>iF ((f:Int)<h.length) (Ab (idx h f) λi=>Ab (Yw a (b,i.1)) λj=>Ab (Yw a (c,i.1)) λk=>iF (k.2<j.2) (Ac Ak)<|Ab (Lx a (j.1,k.1)) λq=>iB (!q) (Ac Ak)<|p (f+1))<|o (e+1)) (0))<|Ad a (λ(g:Nat) r=>iF ((g:Int)<b.2.length) (Ab (idx b.2 g) λl=>Ad a (λ(d:Nat) m=>iF ((d:Int)<c.2.length) (Ab (idx c.2 d) λn=>Ab (Lx a (l.2,n.2)) λs=>iB (!s) (Ab (tF a (l.1,n.1)) λt=>iF ((0:Int)<t.length) (Ac Ak)<|m (d+1))<|m (d+1))<|r (g+1)) (0))<|some Bp) (0)) (0)
theorem d183(fu x0 x1):U3 (fu+1) (x0,x1)=D183 fu x0 x1:=by kernel_rfl
def D184(b:Nat)(c:BB)(a:BB):Option (Bool×BB):=Ab (U3 b (a,c)) λd=>Ac (d,a)
theorem d184(fu x0 x1):kg (fu+1) (x0,x1)=D184 fu x0 x1:=by kernel_rfl
def D185(c:Nat)(d:List BB)(e:BB):Option (Int×BB):=Ad c (λ(a:BB×Nat) f=>iF ((a.2:Int)<d.length) (Ab (idx d a.2) λg=>Ab (kg c (g,a.1)) λb=>iB b.1 (Ac (((a.2:Int),b.2)))<|f (b.2,a.2+1))<|some (((-1:Int),a.1))) ((e,0))
theorem d185(fu x0 x1):kf (fu+1) (x0,x1)=D185 fu x0 x1:=by kernel_rfl
def D186(b:Nat)(c:List BB)(d:BB):Option (Bool×BB):=Ab (kf b (c,d)) λa=>Ac (Dm ((0:Int)<=a.1),a.2)
theorem d186(fu x0 x1):kc (fu+1) (x0,x1)=D186 fu x0 x1:=by kernel_rfl
def D187(b:Nat)(c:List BB)(d:List BB):Option Bool:=Ad b (λ(a:Nat) e=>iF ((a:Int)<c.length) (Ab (idx c a) λf=>Ab (kc b (d,f)) λg=>iB (!g.1) (Ac Ak)<|e (a+1))<|some Bp) (0)
theorem d187(fu x0 x1):j_ (fu+1) (x0,x1)=D187 fu x0 x1:=by kernel_rfl
def D188(c:Nat)(b:Vl)(a:Vl):Option Bool:=iB (Vl.any b) (Ac (Vl.any a))<|iB (Vl.any a) (Ac (Vl.any a))<|Ab (eA c ((b,Vl.mk Ak (Ak,Ak,Ak,([],[]),[]) [] []),a,Vl.mk Ak (Ak,Ak,Ak,([],[]),[]) [] [])) λd=>iB d (Ac Bp)<|Ab (kx c (Vl.sc b,Vl.sc a)) λe=>iB (!e) (Ac Ak)<|Ab (kj c (Vl.lists b,Vl.lists a)) λf=>iB f (Ab (j_ c (Vl.structs b,Vl.structs a)) Ac)<|some Ak
theorem d188(fu x0 x1):Tw (fu+1) (x0,x1)=D188 fu x0 x1:=by kernel_rfl
def D189(a:Nat)(b:AG)(c:AG):Option Bool:=Ab (Tw a (b.1,c.1)) λd=>iB d (Ab (Tw a (b.2,c.2)) Ac)<|some Ak
theorem d189(fu x0 x1):Lx (fu+1) (x0,x1)=D189 fu x0 x1:=by kernel_rfl
def D190(b:Nat)(a:BO)(c:BO):Option Bool:=iF ((a.1.length:Int)<c.1.length) (Ac Ak)<|iB (!decide ((0:Int)<c.2.length)) (iF ((c.1.length:Int)<a.1.length) (Ac Ak)<|iF ((0:Int)<a.2.length) (Ac Ak)<|Ad b (λ(d:Nat) f=>iF ((d:Int)<a.1.length) (Ab (idx a.1 d) λg=>Ab (YA b (c,(d:Int))) λh=>Ab (Lx b (g,h.1)) λi=>iB (!i) (Ac Ak)<|f (d+1))<|iF ((a.2.length:Int)=0) (Ac Bp)<|Ab (idx a.2 0) λj=>Ab (idx c.2 0) λk=>Ab (Lx b (j,k)) Ac) (0))<|Ad b (λ(e:Nat) m=>iF ((e:Int)<a.1.length) (Ab (idx a.1 e) λn=>Ab (YA b (c,(e:Int))) λo=>Ab (Lx b (n,o.1)) λp=>iB (!p) (Ac Ak)<|m (e+1))<|iF ((a.2.length:Int)=0) (Ac Bp)<|Ab (idx a.2 0) λq=>Ab (idx c.2 0) λr=>Ab (Lx b (q,r)) Ac) (0)
theorem d190(fu x0 x1):U2 (fu+1) (x0,x1)=D190 fu x0 x1:=by kernel_rfl
def tE(b:Nat)(a:BO):Option Vl:=Ac (Vl.mk Ak (Ak,Ak,Ak,([],[]),[]) [a] [])
def B188:=bQ [] Tryz.func152 [Cc] [BD] tE (pt:=lg [(1,[.MX 2 7])])
def j9(c:Nat):Bool×Bool->Option Int|(a,b)=>iB (a==b) (Ac 0)<|iB a (Ac ((-1:Int)))<|some 1
def yX:=bQ [] Tryz.func324 [.bool, .bool] [Aj] j9
def tD(c:Nat):Vl×Vl->Option (Int×AG)|(a,b)=>Ab (j9 c (Vl.any a,Vl.any b)) λd=>Ac (d,a,b)
def B190:=bP [yX] Tryz.func323 ⟨[.Ae BD, .Ae BD],[(0, .loc 0 0),(1, .loc 1 0)],[(0, .Ah 33 [(9, .v 0 BD)]),(1, .Ah 33 [(9, .v 1 BD)])],2⟩ ⟨[.Ae Aj, .Ae BD, .Ae BD],[(0, .v 0 Aj)],[(0, .Ah 33 [(9, .v 1 BD)]),(1, .Ah 33 [(9, .v 2 BD)])],2⟩ 1 [] tD
def Lw(a:Nat):Bb×Bb->Option Int|(d,e)=>Ab (Yx a (d,e)) λf=>Ab (U7 a f) λb=>Ab (Yx a (e,d)) λg=>Ab (U7 a g) λc=>iB (!b.2) (iB (!c.2) (Ac 0)<|iB (!c.2) (Ac ((-1:Int)))<|iB b.2 (Ab (U8 a (b.1,c.1)) λh=>iB h (Ac ((-1:Int)))<|some 1)<|some 1)<|iB (!c.2) (Ac ((-1:Int)))<|iB b.2 (Ab (U8 a (b.1,c.1)) λi=>iB i (Ac ((-1:Int)))<|some 1)<|some 1
def B191:=bQ [ze,zf,yY] Tryz.func270 [E9,E9] [Aj] Lw
def Tv(d:Nat):Fw×Fw->Option Int|(a,b)=>Ab (dC d a) λg=>iB (!g) (Ac 0)<|Ab (dC d b) λh=>iB (!h) (Ac 0)<|Ad d (λ(c:Int) i=>iF (c<3) (Af ((0:Int)<=c/\c<(↑3:Int))<|Ab (idx [(a.1,b.1),(a.2.1,b.2.1),(a.2.2.1,b.2.2.1)] c) λe=>iF ((e.1::[e.2])=(Bp::[Ak])) (Ac ((-1:Int)))<|iF ((e.1::[e.2])=(Ak::[Bp])) (Ac 1)<|Aa .i64 (c+1)<|i (c+1))<|Ab (Lw d (a.2.2.2.1,b.2.2.2.1)) λf=>iF (f≠0) (Ac f)<|Ab (YB d (a.2.2.2.2,b.2.2.2.2)) Ac) ((0:Int))
def yW:=bQ [B77,uB,B191] Tryz.func218 [y8,y8] [Aj] Tv (la:=lk [(4,⟨[.Ae Aj],(kp [2,3,32] [(33, .v 0 Aj)]),[(1, .c 0),(0, .c 0)],2⟩)])
def tC(c:Nat):Vl×Vl->Option (Int×AG)|(a,b)=>Ab (Tv c (Vl.sc a,Vl.sc b)) λd=>Ac (d,a,b)
def B193:=bP [yW] Tryz.func325 ⟨[.Ae BD, .Ae BD],[(0, .loc 0 0),(1, .loc 1 0)],[(0, .Ah 33 [(9, .v 0 BD)]),(1, .Ah 33 [(9, .v 1 BD)])],2⟩ ⟨[.Ae Aj, .Ae BD, .Ae BD],[(0, .v 0 Aj)],[(0, .Ah 33 [(9, .v 1 BD)]),(1, .Ah 33 [(9, .v 2 BD)])],2⟩ 1 [] tC
def tB(c:Nat):BO×BO->Option (Int×BO×BO)|(a,b)=>Ab (U5 c ((a.1.length:Int),(b.1.length:Int))) λd=>Ac (d,a,b)
def B194:=bP [uC] Tryz.func368 ⟨[.Ae Cc, .Ae Cc],[(0, .loc 0 0),(1, .loc 1 0)],[(0, .Ah 77 [(2, .v 0 Cc)]),(1, .Ah 77 [(2, .v 1 Cc)])],2⟩ ⟨[.Ae Aj, .Ae Cc, .Ae Cc],[(0, .v 0 Aj)],[(0, .Ah 77 [(2, .v 1 Cc)]),(1, .Ah 77 [(2, .v 2 Cc)])],2⟩ 1 [] tB
def tA(c:Nat):BO×BO->Option (Int×BO×BO)|(a,b)=>Ab (j9 c (Dm ((0:Int)<a.2.length),Dm ((0:Int)<b.2.length))) λd=>Ac (d,a,b)
def B195:=bP [yX] Tryz.func369 ⟨[.Ae Cc, .Ae Cc],[(0, .loc 0 0),(1, .loc 1 0)],[(0, .Ah 77 [(2, .v 0 Cc)]),(1, .Ah 77 [(2, .v 1 Cc)])],2⟩ ⟨[.Ae Aj, .Ae Cc, .Ae Cc],[(0, .v 0 Aj)],[(0, .Ah 77 [(2, .v 1 Cc)]),(1, .Ah 77 [(2, .v 2 Cc)])],2⟩ 1 [] tA
def j8(c:Nat):(Au×Int×AG)×Au×Int×AG->Option (Int×(Au×Int×AG)×Au×Int×AG)|(a,b)=>Ab (YC c (a.1,b.1)) λd=>Ac (d,a,b)
def B196:=bP [y_] Tryz.func376 ⟨[.Ae EP, .Ae EP],[(0, .loc 0 0),(1, .loc 1 0)],[(0, .Ah 69 [(20, .v 0 EP)]),(1, .Ah 69 [(20, .v 1 EP)])],2⟩ ⟨[.Ae Aj, .Ae EP, .Ae EP],[(0, .v 0 Aj)],[(0, .Ah 69 [(20, .v 1 EP)]),(1, .Ah 69 [(20, .v 2 EP)])],2⟩ 1 [] j8
def j7(c:Nat):(Au×Int×AG)×Au×Int×AG->Option (Int×(Au×Int×AG)×Au×Int×AG)|(a,b)=>Ab (U5 c (a.2.1,b.2.1)) λd=>Ac (d,a,b)
def B197:=bP [uC] Tryz.func377 ⟨[.Ae EP, .Ae EP],[(0, .loc 0 0),(1, .loc 1 0)],[(0, .Ah 69 [(20, .v 0 EP)]),(1, .Ah 69 [(20, .v 1 EP)])],2⟩ ⟨[.Ae Aj, .Ae EP, .Ae EP],[(0, .v 0 Aj)],[(0, .Ah 69 [(20, .v 1 EP)]),(1, .Ah 69 [(20, .v 2 EP)])],2⟩ 1 [] j7
def j6(c:Nat):(A5×AG)×A5×AG->Option (Int×(A5×AG)×A5×AG)|(a,b)=>Ab (YB c (a.1,b.1)) λd=>Ac (d,a,b)
def B198:=bP [uB] Tryz.func382 ⟨[.Ae FP, .Ae FP],[(0, .loc 0 0),(1, .loc 1 0)],[(0, .Ah 92 [(19, .v 0 FP)]),(1, .Ah 92 [(19, .v 1 FP)])],2⟩ ⟨[.Ae Aj, .Ae FP, .Ae FP],[(0, .v 0 Aj)],[(0, .Ah 92 [(19, .v 1 FP)]),(1, .Ah 92 [(19, .v 2 FP)])],2⟩ 1 [] j6
def mj:A_:=⟨[.Ae BE, .Ae BE],[(0, .loc 0 0),(1, .loc 1 0)],[(0, .Ah 35 [(18, .v 0 BE)]),(1, .Ah 35 [(18, .v 1 BE)])],2⟩
def lD:A_:=⟨[.Ae Aj, .Ae BE, .Ae BE],[(0, .v 0 Aj)],[(0, .Ah 35 [(18, .v 1 BE)]),(1, .Ah 35 [(18, .v 2 BE)])],2⟩
def mi:A_:=⟨[.Ae BE, .Ae BE],[(0, .loc 0 0),(1, .loc 1 0)],[(0, .Ah 35 [(18, .v 0 BE)]),(1, .Ah 35 [(18, .v 1 BE)])],2⟩
def lC:A_:=⟨[.Ae Aj, .Ae BE, .Ae BE],[(0, .v 0 Aj)],[(0, .Ah 35 [(18, .v 1 BE)]),(1, .Ah 35 [(18, .v 2 BE)])],2⟩
def mh:A_:=⟨[.Ae BE, .Ae BE],[(0, .px [0] (.hc 2))],[(0, .Ah 121 [(1, .AK 401 [] [1,2]),(1, .AK 402 [] [1,2])]),(1, .Ah 35 [(18, .v 0 BE)]),(2, .Ah 35 [(18, .v 1 BE)])],3⟩
def lB:A_:=⟨[.Ae Aj, .Ae BE, .Ae BE],[(0, .v 0 Aj)],[(0, .Ah 121 [(1, .AK 401 [] [1,2]),(1, .AK 402 [] [1,2])]),(1, .Ah 35 [(18, .v 1 BE)]),(2, .Ah 35 [(18, .v 2 BE)])],3⟩
def mg:A_:=⟨[.Ae Dp, .Ae Dp],[(0, .v 0 Dp),(1, .v 1 Dp),(2, .AK 372 [] [])],[],0⟩
def lA:A_:=⟨[.Ae Aj],[(0, .v 0 Aj)],[],0⟩
def mf:A_:=⟨[.Ae Cc, .Ae Cc],[(0, .loc 0 0),(1, .loc 1 0)],[(0, .Ah 77 [(2, .v 0 Cc)]),(1, .Ah 77 [(2, .v 1 Cc)])],2⟩
def ly:A_:=⟨[.Ae Aj, .Ae Cc, .Ae Cc],[(0, .v 0 Aj)],[(0, .Ah 77 [(2, .v 1 Cc)]),(1, .Ah 77 [(2, .v 2 Cc)])],2⟩
def me:A_:=⟨[.Ae Cc, .Ae Cc],[(0, .px [0] (.hc 3))],[(0, .Ah 121 [(1, .AK 368 [] [1,2]),(1, .AK 369 [] [1,2]),(1, .AK 370 [] [1,2])]),(1, .Ah 77 [(2, .v 0 Cc)]),(2, .Ah 77 [(2, .v 1 Cc)])],3⟩
def lu:A_:=⟨[.Ae Aj, .Ae Cc, .Ae Cc],[(0, .v 0 Aj)],[(0, .Ah 121 [(1, .AK 368 [] [1,2]),(1, .AK 369 [] [1,2]),(1, .AK 370 [] [1,2])]),(1, .Ah 77 [(2, .v 1 Cc)]),(2, .Ah 77 [(2, .v 2 Cc)])],3⟩
def mc:A_:=⟨[.Ae Ek, .Ae Ek],[(0, .v 0 Ek),(1, .v 1 Ek),(2, .AK 328 [] [])],[],0⟩
def lr:A_:=⟨[.Ae Aj],[(0, .v 0 Aj)],[],0⟩
def mb:A_:=⟨[.Ae BD, .Ae BD],[(0, .loc 0 0),(1, .loc 1 0)],[(0, .Ah 33 [(9, .v 0 BD)]),(1, .Ah 33 [(9, .v 1 BD)])],2⟩
def lq:A_:=⟨[.Ae Aj, .Ae BD, .Ae BD],[(0, .v 0 Aj)],[(0, .Ah 33 [(9, .v 1 BD)]),(1, .Ah 33 [(9, .v 2 BD)])],2⟩
def ma:A_:=⟨[.Ae EP, .Ae EP],[(0, .loc 0 0),(1, .loc 1 0)],[(0, .Ah 69 [(20, .v 0 EP)]),(1, .Ah 69 [(20, .v 1 EP)])],2⟩
def lp:A_:=⟨[.Ae Aj, .Ae EP, .Ae EP],[(0, .v 0 Aj)],[(0, .Ah 69 [(20, .v 1 EP)]),(1, .Ah 69 [(20, .v 2 EP)])],2⟩
def l_:A_:=⟨[.Ae EP, .Ae EP],[(0, .px [0] (.hc 3))],[(0, .Ah 121 [(1, .AK 376 [] [1,2]),(1, .AK 377 [] [1,2]),(1, .AK 378 [] [1,2])]),(1, .Ah 69 [(20, .v 0 EP)]),(2, .Ah 69 [(20, .v 1 EP)])],3⟩
def ll:A_:=⟨[.Ae Aj, .Ae EP, .Ae EP],[(0, .v 0 Aj)],[(0, .Ah 121 [(1, .AK 376 [] [1,2]),(1, .AK 377 [] [1,2]),(1, .AK 378 [] [1,2])]),(1, .Ah 69 [(20, .v 1 EP)]),(2, .Ah 69 [(20, .v 2 EP)])],3⟩
def l9:A_:=⟨[.Ae L6, .Ae L6],[(0, .v 0 L6),(1, .v 1 L6),(2, .AK 375 [] [])],[],0⟩
def lj:A_:=⟨[.Ae Aj],[(0, .v 0 Aj)],[],0⟩
def lZ:A_:=⟨[.Ae BR, .Ae BR],[(0, .loc 0 0),(1, .loc 1 0)],[(0, .Ah 65 [(2, .v 0 BR)]),(1, .Ah 65 [(2, .v 1 BR)])],2⟩
def lh:A_:=⟨[.Ae Aj, .Ae BR, .Ae BR],[(0, .v 0 Aj)],[(0, .Ah 65 [(2, .v 1 BR)]),(1, .Ah 65 [(2, .v 2 BR)])],2⟩
def lY:A_:=⟨[.Ae FP, .Ae FP],[(0, .loc 0 0),(1, .loc 1 0)],[(0, .Ah 92 [(19, .v 0 FP)]),(1, .Ah 92 [(19, .v 1 FP)])],2⟩
def ld:A_:=⟨[.Ae Aj, .Ae FP, .Ae FP],[(0, .v 0 Aj)],[(0, .Ah 92 [(19, .v 1 FP)]),(1, .Ah 92 [(19, .v 2 FP)])],2⟩
def lX:A_:=⟨[.Ae FP, .Ae FP],[(0, .px [0] (.hc 2))],[(0, .Ah 121 [(1, .AK 382 [] [1,2]),(1, .AK 383 [] [1,2])]),(1, .Ah 92 [(19, .v 0 FP)]),(2, .Ah 92 [(19, .v 1 FP)])],3⟩
def k_:A_:=⟨[.Ae Aj, .Ae FP, .Ae FP],[(0, .v 0 Aj)],[(0, .Ah 121 [(1, .AK 382 [] [1,2]),(1, .AK 383 [] [1,2])]),(1, .Ah 92 [(19, .v 1 FP)]),(2, .Ah 92 [(19, .v 2 FP)])],3⟩
def lW:A_:=⟨[.Ae Gp, .Ae Gp],[(0, .v 0 Gp),(1, .v 1 Gp),(2, .AK 381 [] [])],[],0⟩
def kZ:A_:=⟨[.Ae Aj],[(0, .v 0 Aj)],[],0⟩
def lV:A_:=⟨[.Ae BR, .Ae BR],[(0, .loc 0 0),(1, .loc 1 0)],[(0, .Ah 65 [(2, .v 0 BR)]),(1, .Ah 65 [(2, .v 1 BR)])],2⟩
def kY:A_:=⟨[.Ae Aj, .Ae BR, .Ae BR],[(0, .v 0 Aj)],[(0, .Ah 65 [(2, .v 1 BR)]),(1, .Ah 65 [(2, .v 2 BR)])],2⟩
def lU:A_:=⟨[.Ae BR, .Ae BR],[(0, .px [0] (.hc 2))],[(0, .Ah 121 [(1, .AK 373 [] [1,2]),(1, .AK 379 [] [1,2])]),(1, .Ah 65 [(2, .v 0 BR)]),(2, .Ah 65 [(2, .v 1 BR)])],3⟩
def kX:A_:=⟨[.Ae Aj, .Ae BR, .Ae BR],[(0, .v 0 Aj)],[(0, .Ah 121 [(1, .AK 373 [] [1,2]),(1, .AK 379 [] [1,2])]),(1, .Ah 65 [(2, .v 1 BR)]),(2, .Ah 65 [(2, .v 2 BR)])],3⟩
def lT:A_:=⟨[.Ae Ej, .Ae Ej],[(0, .v 0 Ej),(1, .v 1 Ej),(2, .AK 331 [] [])],[],0⟩
def kW:A_:=⟨[.Ae Aj],[(0, .v 0 Aj)],[],0⟩
def lS:A_:=⟨[.Ae BD, .Ae BD],[(0, .loc 0 0),(1, .loc 1 0)],[(0, .Ah 33 [(9, .v 0 BD)]),(1, .Ah 33 [(9, .v 1 BD)])],2⟩
def kV:A_:=⟨[.Ae Aj, .Ae BD, .Ae BD],[(0, .v 0 Aj)],[(0, .Ah 33 [(9, .v 1 BD)]),(1, .Ah 33 [(9, .v 2 BD)])],2⟩
def lR:A_:=⟨[.Ae BD, .Ae BD],[(0, .px [0] (.hc 4))],[(0, .Ah 121 [(1, .AK 323 [] [1,2]),(1, .AK 325 [] [1,2]),(1, .AK 326 [] [1,2]),(1, .AK 329 [] [1,2])]),(1, .Ah 33 [(9, .v 0 BD)]),(2, .Ah 33 [(9, .v 1 BD)])],3⟩
def kU:A_:=⟨[.Ae Aj, .Ae BD, .Ae BD],[(0, .v 0 Aj)],[(0, .Ah 121 [(1, .AK 323 [] [1,2]),(1, .AK 325 [] [1,2]),(1, .AK 326 [] [1,2]),(1, .AK 329 [] [1,2])]),(1, .Ah 33 [(9, .v 1 BD)]),(2, .Ah 33 [(9, .v 2 BD)])],3⟩
abbrev nF:Type:=G5 401 mj lD 1 []×G5 402 mi lC 1 []×G5 322 mh lB 1 []×Gl 372 [BE,BE] [Aj]×G5 371 mg lA 1 []×G5 370 mf ly 1 []×G5 322 me lu 1 []×Gl 328 [Cc,Cc] [Aj]×G5 327 mc lr 1 []×G5 326 mb lq 1 []×G5 378 ma lp 1 []×G5 322 l_ ll 1 []×Gl 375 [EP,EP] [Aj]×G5 374 l9 lj 1 []×G5 373 lZ lh 1 []×G5 383 lY ld 1 []×G5 322 lX k_ 1 []×Gl 381 [FP,FP] [Aj]×G5 380 lW kZ 1 []×G5 379 lV kY 1 []×G5 322 lU kX 1 []×Gl 331 [BR,BR] [Aj]×G5 330 lT kW 1 []×G5 329 lS kV 1 []×G5 322 lR kU 1 []×Gl 267 [BD,BD] [Aj]
def D'(n:Nat):nF:=Nat.rec (motive:=λ_=>nF) (tP Tryz.func401,tP Tryz.func402,tP Tryz.func322,tQ Tryz.func372,tP Tryz.func371,tP Tryz.func370,tP Tryz.func322,tQ Tryz.func328,tP Tryz.func327,tP Tryz.func326,tP Tryz.func378,tP Tryz.func322,tQ Tryz.func375,tP Tryz.func374,tP Tryz.func373,tP Tryz.func383,tP Tryz.func322,tQ Tryz.func381,tP Tryz.func380,tP Tryz.func379,tP Tryz.func322,tQ Tryz.func331,tP Tryz.func330,tP Tryz.func329,tP Tryz.func322,tQ Tryz.func267) (λfu ⟨g0,g1,g2,g3,g4,g5,g6,g7,g8,g9,g10,g11,g12,g13,g14,g15,g16,g17,g18,g19,g20,g21,g22,g23,g24,g25⟩=>(sP [Dd g25] fu Tryz.func401 mj lD 1 [],sP [Dd g25] fu Tryz.func402 mi lC 1 [],sP [C3 g0,C3 g1] fu Tryz.func322 mh lB 1 [],sQ [C3 g2] fu Tryz.func372 [BE,BE] [Aj],sP [Dd g3] fu Tryz.func371 mg lA 1 [] (la:=lk [(2,⟨[.nat],(kp [0,1,2,11,12] [(13, .AE 0 200)]),[],0⟩)]),sP (C3 g4::bs [B81] fu) fu Tryz.func370 mf ly 1 [],sP (C3 g5::bs [B194,B195] fu) fu Tryz.func322 me lu 1 [],sQ [C3 g6] fu Tryz.func328 [Cc,Cc] [Aj],sP [Dd g7] fu Tryz.func327 mc lr 1 [] (la:=lk [(2,⟨[.nat],(kp [0,1,2,11,12] [(13, .AE 0 200)]),[],0⟩)]),sP [C3 g8] fu Tryz.func326 mb lq 1 [],sP [Dd g3] fu Tryz.func378 ma lp 1 [],sP (C3 g10::bs [B196,B197] fu) fu Tryz.func322 l_ ll 1 [],sQ [C3 g11] fu Tryz.func375 [EP,EP] [Aj],sP [Dd g12] fu Tryz.func374 l9 lj 1 [] (la:=lk [(2,⟨[.nat],(kp [0,1,2,11,12] [(13, .AE 0 200)]),[],0⟩)]),sP [C3 g13] fu Tryz.func373 lZ lh 1 [],sP [Dd g3] fu Tryz.func383 lY ld 1 [],sP (C3 g15::bs [B198] fu) fu Tryz.func322 lX k_ 1 [],sQ [C3 g16] fu Tryz.func381 [FP,FP] [Aj],sP [Dd g17] fu Tryz.func380 lW kZ 1 [] (la:=lk [(2,⟨[.nat],(kp [0,1,2,11,12] [(13, .AE 0 200)]),[],0⟩)]),sP [C3 g18] fu Tryz.func379 lV kY 1 [],sP [C3 g14,C3 g19] fu Tryz.func322 lU kX 1 [],sQ [C3 g20] fu Tryz.func331 [BR,BR] [Aj],sP [Dd g21] fu Tryz.func330 lT kW 1 [] (la:=lk [(2,⟨[.nat],(kp [0,1,2,11,12] [(13, .AE 0 200)]),[],0⟩)]),sP [C3 g22] fu Tryz.func329 lS kV 1 [],sP (C3 g9::C3 g23::bs [B190,B193] fu) fu Tryz.func322 lR kU 1 [],sQ [C3 g24] fu Tryz.func267 [BD,BD] [Aj])) n
abbrev tz(fu:Nat)(x:AG×AG):Option (Int×AG×AG):=(D' fu).1.1 x
abbrev tx(fu:Nat)(x:AG×AG):Option (Int×AG×AG):=(D' fu).2.1.1 x
abbrev tv(fu:Nat)(x:AG×AG):Option (Int×AG×AG):=(D' fu).2.2.1.1 x
abbrev Yv(fu:Nat)(x:AG×AG):Option Int:=(D' fu).2.2.2.1.1 x
abbrev tu(fu:Nat)(x:(List AG)×(List AG)):Option Int:=(D' fu).2.2.2.2.1.1 x
abbrev tt(fu:Nat)(x:BO×BO):Option (Int×BO×BO):=(D' fu).2.2.2.2.2.1.1 x
abbrev tq(fu:Nat)(x:BO×BO):Option (Int×BO×BO):=(D' fu).2.2.2.2.2.2.1.1 x
abbrev tj(fu:Nat)(x:BO×BO):Option Int:=(D' fu).2.2.2.2.2.2.2.1.1 x
abbrev ti(fu:Nat)(x:(List BO)×(List BO)):Option Int:=(D' fu).2.2.2.2.2.2.2.2.1.1 x
abbrev tg(fu:Nat)(x:(Vl)×(Vl)):Option (Int×AG):=(D' fu).2.2.2.2.2.2.2.2.2.1.1 x
abbrev tf(fu:Nat)(x:(Au×Int×AG)×(Au×Int×AG)):Option (Int×(Au×Int×AG)×Au×Int×AG):=(D' fu).2.2.2.2.2.2.2.2.2.2.1.1 x
abbrev td(fu:Nat)(x:(Au×Int×AG)×(Au×Int×AG)):Option (Int×(Au×Int×AG)×Au×Int×AG):=(D' fu).2.2.2.2.2.2.2.2.2.2.2.1.1 x
abbrev tc(fu:Nat)(x:(Au×Int×AG)×(Au×Int×AG)):Option Int:=(D' fu).2.2.2.2.2.2.2.2.2.2.2.2.1.1 x
abbrev ta(fu:Nat)(x:(List (Au×Int×AG))×(List (Au×Int×AG))):Option Int:=(D' fu).2.2.2.2.2.2.2.2.2.2.2.2.2.1.1 x
abbrev s_(fu:Nat)(x:BB×BB):Option (Int×BB×BB):=(D' fu).2.2.2.2.2.2.2.2.2.2.2.2.2.2.1.1 x
abbrev s9(fu:Nat)(x:(A5×AG)×(A5×AG)):Option (Int×(A5×AG)×A5×AG):=(D' fu).2.2.2.2.2.2.2.2.2.2.2.2.2.2.2.1.1 x
abbrev s7(fu:Nat)(x:(A5×AG)×(A5×AG)):Option (Int×(A5×AG)×A5×AG):=(D' fu).2.2.2.2.2.2.2.2.2.2.2.2.2.2.2.2.1.1 x
abbrev s6(fu:Nat)(x:(A5×AG)×(A5×AG)):Option Int:=(D' fu).2.2.2.2.2.2.2.2.2.2.2.2.2.2.2.2.2.1.1 x
abbrev s5(fu:Nat)(x:(List (A5×AG))×(List (A5×AG))):Option Int:=(D' fu).2.2.2.2.2.2.2.2.2.2.2.2.2.2.2.2.2.2.1.1 x
abbrev s4(fu:Nat)(x:BB×BB):Option (Int×BB×BB):=(D' fu).2.2.2.2.2.2.2.2.2.2.2.2.2.2.2.2.2.2.2.1.1 x
abbrev sZ(fu:Nat)(x:BB×BB):Option (Int×BB×BB):=(D' fu).2.2.2.2.2.2.2.2.2.2.2.2.2.2.2.2.2.2.2.2.1.1 x
abbrev sY(fu:Nat)(x:BB×BB):Option Int:=(D' fu).2.2.2.2.2.2.2.2.2.2.2.2.2.2.2.2.2.2.2.2.2.1.1 x
abbrev sX(fu:Nat)(x:(List BB)×(List BB)):Option Int:=(D' fu).2.2.2.2.2.2.2.2.2.2.2.2.2.2.2.2.2.2.2.2.2.2.1.1 x
abbrev sW(fu:Nat)(x:(Vl)×(Vl)):Option (Int×AG):=(D' fu).2.2.2.2.2.2.2.2.2.2.2.2.2.2.2.2.2.2.2.2.2.2.2.1.1 x
abbrev sV(fu:Nat)(x:(Vl)×(Vl)):Option (Int×AG):=(D' fu).2.2.2.2.2.2.2.2.2.2.2.2.2.2.2.2.2.2.2.2.2.2.2.2.1.1 x
def B224(fu:Nat):=Dd (D' fu).2.2.2.2.2.2.2.2.2.2.2.2.2.2.2.2.2.2.2.2.2.2.2.2.2
abbrev eo(fu:Nat)(x:(Vl)×(Vl)):Option Int:=(D' fu).2.2.2.2.2.2.2.2.2.2.2.2.2.2.2.2.2.2.2.2.2.2.2.2.2.1 x
def D202(c:Nat)(a:AG)(b:AG):Option (Int×AG×AG):=Ab (eo c (a.1,b.1)) λd=>Ac (d,a,b)
theorem d202(fu x0 x1):tz (fu+1) (x0,x1)=D202 fu x0 x1:=by kernel_rfl
def D203(c:Nat)(a:AG)(b:AG):Option (Int×AG×AG):=Ab (eo c (a.2,b.2)) λd=>Ac (d,a,b)
theorem d203(fu x0 x1):tx (fu+1) (x0,x1)=D203 fu x0 x1:=by kernel_rfl
def D204(c:Nat)(d:AG)(e:AG):Option (Int×AG×AG):=iF ((0:Int)< ↑2) (Af ((0:Int)<=0/\(0:Int)< ↑2)<|Ab (tz c (d,e)) λa=>iF (a.1≠0) (Ac ((a.1,a.2.1,a.2.2)))<|Aa .i64 ((0:Int)+1)<|iF ((0:Int)+1< ↑2) (Af ((0:Int)<=0+1/\(0:Int)+1< ↑2)<|Ab (tx c (a.2.1,a.2.2)) λb=>iF (b.1≠0) (Ac ((b.1,b.2.1,b.2.2)))<|Aa .i64 ((0:Int)+1+1)<|iF ((0:Int)+1+1< ↑2) (Af ((0:Int)<=0+1+1/\(0:Int)+1+1< ↑2)<|none)<|some ((0,b.2.1,b.2.2)))<|some ((0,a.2.1,a.2.2)))<|some (0,d,e)
theorem d204(fu x0 x1):tv (fu+1) (x0,x1)=D204 fu x0 x1:=by kernel_rfl
def D205(a:Nat)(b:AG)(c:AG):Option Int:=Ab (tv a (b,c)) λd=>Ac d.1
theorem d205(fu x0 x1):Yv (fu+1) (x0,x1)=D205 fu x0 x1:=by kernel_rfl
def D206(d:Nat)(b:List AG)(c:List AG):Option Int:=Ad d (λ(a:Nat) f=>iF ((a:Int)<b.length) (Ab (idx b a) λg=>iF ((c.length:Int)<=a) (Ac 1)<|Ab (idx c a) λh=>Ab (Yv d (g,h)) λe=>iF (e≠0) (Ac e)<|f (a+1))<|iF ((b.length:Int)<c.length) (Ac ((-1:Int)))<|some 0) (0)
theorem d206(fu x0 x1):tu (fu+1) (x0,x1)=D206 fu x0 x1:=by kernel_rfl
def D207(a:Nat)(b:BO)(c:BO):Option (Int×BO×BO):=Ab (eR a b) λd=>Ab (eR a c) λe=>Ab (tu a (d,e)) λf=>Ac (f,b,c)
theorem d207(fu x0 x1):tt (fu+1) (x0,x1)=D207 fu x0 x1:=by kernel_rfl
def D208(d:Nat)(e:BO)(f:BO):Option (Int×BO×BO):=iF ((0:Int)< ↑3) (Af ((0:Int)<=0/\(0:Int)< ↑3)<|Ab (tB d (e,f)) λa=>iF (a.1≠0) (Ac ((a.1,a.2.1,a.2.2)))<|Aa .i64 ((0:Int)+1)<|iF ((0:Int)+1< ↑3) (Af ((0:Int)<=0+1/\(0:Int)+1< ↑3)<|Ab (tA d (a.2.1,a.2.2)) λb=>iF (b.1≠0) (Ac ((b.1,b.2.1,b.2.2)))<|Aa .i64 ((0:Int)+1+1)<|iF ((0:Int)+1+1< ↑3) (Af ((0:Int)<=0+1+1/\(0:Int)+1+1< ↑3)<|Ab (tt d (b.2.1,b.2.2)) λc=>iF (c.1≠0) (Ac ((c.1,c.2.1,c.2.2)))<|Aa .i64 ((0:Int)+1+1+1)<|iF ((0:Int)+1+1+1< ↑3) (Af ((0:Int)<=0+1+1+1/\(0:Int)+1+1+1< ↑3)<|none)<|some ((0,c.2.1,c.2.2)))<|some ((0,b.2.1,b.2.2)))<|some ((0,a.2.1,a.2.2)))<|some (0,e,f)
theorem d208(fu x0 x1):tq (fu+1) (x0,x1)=D208 fu x0 x1:=by kernel_rfl
def D209(a:Nat)(b:BO)(c:BO):Option Int:=Ab (tq a (b,c)) λd=>Ac d.1
theorem d209(fu x0 x1):tj (fu+1) (x0,x1)=D209 fu x0 x1:=by kernel_rfl
def D210(d:Nat)(b:List BO)(c:List BO):Option Int:=Ad d (λ(a:Nat) f=>iF ((a:Int)<b.length) (Ab (idx b a) λg=>iF ((c.length:Int)<=a) (Ac 1)<|Ab (idx c a) λh=>Ab (tj d (g,h)) λe=>iF (e≠0) (Ac e)<|f (a+1))<|iF ((b.length:Int)<c.length) (Ac ((-1:Int)))<|some 0) (0)
theorem d210(fu x0 x1):ti (fu+1) (x0,x1)=D210 fu x0 x1:=by kernel_rfl
def D211(c:Nat)(a:Vl)(b:Vl):Option (Int×AG):=Ab (ti c (Vl.lists a,Vl.lists b)) λd=>Ac (d,a,b)
theorem d211(fu x0 x1):tg (fu+1) (x0,x1)=D211 fu x0 x1:=by kernel_rfl
def yq(c:Nat)(a:Au×Int×AG)(b:Au×Int×AG):Option (Int×(Au×Int×AG)×Au×Int×AG):=Ab (Yv c (a.2.2,b.2.2)) λd=>Ac (d,a,b)
theorem d212(fu x0 x1):tf (fu+1) (x0,x1)=yq fu x0 x1:=by kernel_rfl
def yp(d:Nat)(e:Au×Int×AG)(f:Au×Int×AG):Option (Int×(Au×Int×AG)×Au×Int×AG):=iF ((0:Int)< ↑3) (Af ((0:Int)<=0/\(0:Int)< ↑3)<|Ab (j8 d (e,f)) λa=>iF (a.1≠0) (Ac ((a.1,a.2.1,a.2.2)))<|Aa .i64 ((0:Int)+1)<|iF ((0:Int)+1< ↑3) (Af ((0:Int)<=0+1/\(0:Int)+1< ↑3)<|Ab (j7 d (a.2.1,a.2.2)) λb=>iF (b.1≠0) (Ac ((b.1,b.2.1,b.2.2)))<|Aa .i64 ((0:Int)+1+1)<|iF ((0:Int)+1+1< ↑3) (Af ((0:Int)<=0+1+1/\(0:Int)+1+1< ↑3)<|Ab (tf d (b.2.1,b.2.2)) λc=>iF (c.1≠0) (Ac ((c.1,c.2.1,c.2.2)))<|Aa .i64 ((0:Int)+1+1+1)<|iF ((0:Int)+1+1+1< ↑3) (Af ((0:Int)<=0+1+1+1/\(0:Int)+1+1+1< ↑3)<|none)<|some ((0,c.2.1,c.2.2)))<|some ((0,b.2.1,b.2.2)))<|some ((0,a.2.1,a.2.2)))<|some (0,e,f)
theorem d213(fu x0 x1):td (fu+1) (x0,x1)=yp fu x0 x1:=by kernel_rfl
def D214(a:Nat)(b:Au×Int×AG)(c:Au×Int×AG):Option Int:=Ab (td a (b,c)) λd=>Ac d.1
theorem d214(fu x0 x1):tc (fu+1) (x0,x1)=D214 fu x0 x1:=by kernel_rfl
def yo(d:Nat)(b:List (Au×Int×AG))(c:List (Au×Int×AG)):Option Int:=Ad d (λ(a:Nat) f=>iF ((a:Int)<b.length) (Ab (idx b a) λg=>iF ((c.length:Int)<=a) (Ac 1)<|Ab (idx c a) λh=>Ab (tc d (g,h)) λe=>iF (e≠0) (Ac e)<|f (a+1))<|iF ((b.length:Int)<c.length) (Ac ((-1:Int)))<|some 0) (0)
theorem d215(fu x0 x1):ta (fu+1) (x0,x1)=yo fu x0 x1:=by kernel_rfl
def yn(c:Nat)(a:BB)(b:BB):Option (Int×BB×BB):=Ab (ta c (a.1,b.1)) λd=>Ac (d,a,b)
theorem d216(fu x0 x1):s_ (fu+1) (x0,x1)=yn fu x0 x1:=by kernel_rfl
def ym(c:Nat)(a:A5×AG)(b:A5×AG):Option (Int×(A5×AG)×A5×AG):=Ab (Yv c (a.2,b.2)) λd=>Ac (d,a,b)
theorem d217(fu x0 x1):s9 (fu+1) (x0,x1)=ym fu x0 x1:=by kernel_rfl
def yk(c:Nat)(d:A5×AG)(e:A5×AG):Option (Int×(A5×AG)×A5×AG):=iF ((0:Int)< ↑2) (Af ((0:Int)<=0/\(0:Int)< ↑2)<|Ab (j6 c (d,e)) λa=>iF (a.1≠0) (Ac ((a.1,a.2.1,a.2.2)))<|Aa .i64 ((0:Int)+1)<|iF ((0:Int)+1< ↑2) (Af ((0:Int)<=0+1/\(0:Int)+1< ↑2)<|Ab (s9 c (a.2.1,a.2.2)) λb=>iF (b.1≠0) (Ac ((b.1,b.2.1,b.2.2)))<|Aa .i64 ((0:Int)+1+1)<|iF ((0:Int)+1+1< ↑2) (Af ((0:Int)<=0+1+1/\(0:Int)+1+1< ↑2)<|none)<|some ((0,b.2.1,b.2.2)))<|some ((0,a.2.1,a.2.2)))<|some (0,d,e)
theorem d218(fu x0 x1):s7 (fu+1) (x0,x1)=yk fu x0 x1:=by kernel_rfl
def D219(a:Nat)(b:A5×AG)(c:A5×AG):Option Int:=Ab (s7 a (b,c)) λd=>Ac d.1
theorem d219(fu x0 x1):s6 (fu+1) (x0,x1)=D219 fu x0 x1:=by kernel_rfl
def yj(d:Nat)(b:List (A5×AG))(c:List (A5×AG)):Option Int:=Ad d (λ(a:Nat) f=>iF ((a:Int)<b.length) (Ab (idx b a) λg=>iF ((c.length:Int)<=a) (Ac 1)<|Ab (idx c a) λh=>Ab (s6 d (g,h)) λe=>iF (e≠0) (Ac e)<|f (a+1))<|iF ((b.length:Int)<c.length) (Ac ((-1:Int)))<|some 0) (0)
theorem d220(fu x0 x1):s5 (fu+1) (x0,x1)=yj fu x0 x1:=by kernel_rfl
def yh(c:Nat)(a:BB)(b:BB):Option (Int×BB×BB):=Ab (s5 c (a.2,b.2)) λd=>Ac (d,a,b)
theorem d221(fu x0 x1):s4 (fu+1) (x0,x1)=yh fu x0 x1:=by kernel_rfl
def yg(c:Nat)(d:BB)(e:BB):Option (Int×BB×BB):=iF ((0:Int)< ↑2) (Af ((0:Int)<=0/\(0:Int)< ↑2)<|Ab (s_ c (d,e)) λa=>iF (a.1≠0) (Ac ((a.1,a.2.1,a.2.2)))<|Aa .i64 ((0:Int)+1)<|iF ((0:Int)+1< ↑2) (Af ((0:Int)<=0+1/\(0:Int)+1< ↑2)<|Ab (s4 c (a.2.1,a.2.2)) λb=>iF (b.1≠0) (Ac ((b.1,b.2.1,b.2.2)))<|Aa .i64 ((0:Int)+1+1)<|iF ((0:Int)+1+1< ↑2) (Af ((0:Int)<=0+1+1/\(0:Int)+1+1< ↑2)<|none)<|some ((0,b.2.1,b.2.2)))<|some ((0,a.2.1,a.2.2)))<|some (0,d,e)
theorem d222(fu x0 x1):sZ (fu+1) (x0,x1)=yg fu x0 x1:=by kernel_rfl
def D223(a:Nat)(b:BB)(c:BB):Option Int:=Ab (sZ a (b,c)) λd=>Ac d.1
theorem d223(fu x0 x1):sY (fu+1) (x0,x1)=D223 fu x0 x1:=by kernel_rfl
def yf(d:Nat)(b:List BB)(c:List BB):Option Int:=Ad d (λ(a:Nat) f=>iF ((a:Int)<b.length) (Ab (idx b a) λg=>iF ((c.length:Int)<=a) (Ac 1)<|Ab (idx c a) λh=>Ab (sY d (g,h)) λe=>iF (e≠0) (Ac e)<|f (a+1))<|iF ((b.length:Int)<c.length) (Ac ((-1:Int)))<|some 0) (0)
theorem d224(fu x0 x1):sX (fu+1) (x0,x1)=yf fu x0 x1:=by kernel_rfl
def ye(c:Nat)(a:Vl)(b:Vl):Option (Int×AG):=Ab (sX c (Vl.structs a,Vl.structs b)) λd=>Ac (d,a,b)
theorem d225(fu x0 x1):sW (fu+1) (x0,x1)=ye fu x0 x1:=by kernel_rfl
def D226(e:Nat)(f:Vl)(g:Vl):Option (Int×AG):=iF ((0:Int)< ↑4) (Af ((0:Int)<=0/\(0:Int)< ↑4)<|Ab (tD e (f,g)) λa=>iF (a.1≠0) (Ac ((a.1,a.2.1,a.2.2)))<|Aa .i64 ((0:Int)+1)<|iF ((0:Int)+1< ↑4) (Af ((0:Int)<=0+1/\(0:Int)+1< ↑4)<|Ab (tC e (a.2.1,a.2.2)) λb=>iF (b.1≠0) (Ac ((b.1,b.2.1,b.2.2)))<|Aa .i64 ((0:Int)+1+1)<|iF ((0:Int)+1+1< ↑4) (Af ((0:Int)<=0+1+1/\(0:Int)+1+1< ↑4)<|Ab (tg e (b.2.1,b.2.2)) λc=>iF (c.1≠0) (Ac ((c.1,c.2.1,c.2.2)))<|Aa .i64 ((0:Int)+1+1+1)<|iF ((0:Int)+1+1+1< ↑4) (Af ((0:Int)<=0+1+1+1/\(0:Int)+1+1+1< ↑4)<|Ab (sW e (c.2.1,c.2.2)) λd=>iF (d.1≠0) (Ac ((d.1,d.2.1,d.2.2)))<|Aa .i64 ((0:Int)+1+1+1+1)<|iF ((0:Int)+1+1+1+1< ↑4) (Af ((0:Int)<=0+1+1+1+1/\(0:Int)+1+1+1+1< ↑4)<|none)<|some ((0,d.2.1,d.2.2)))<|some ((0,c.2.1,c.2.2)))<|some ((0,b.2.1,b.2.2)))<|some ((0,a.2.1,a.2.2)))<|some (0,f,g)
theorem d226(fu x0 x1):sV (fu+1) (x0,x1)=D226 fu x0 x1:=by kernel_rfl
def D227(a:Nat)(b:Vl)(c:Vl):Option Int:=Ab (sV a (b,c)) λd=>Ac d.1
theorem d227(fu x0 x1):eo (fu+1) (x0,x1)=D227 fu x0 x1:=by kernel_rfl
def j0(a:Nat):Vl×Vl->Option Int|(b,c)=>Ab (sg a b) λd=>iB (!d) (Ac 0)<|Ab (sg a c) λe=>iB (!e) (Ac 0)<|Ab (eo a (b,c)) Ac
def yV:=bQ [B88,B224] Tryz.func212 [BD,BD] [Aj] j0
def ej(a:Nat):BO×BO->Option Int|(b,c)=>Ab (tE a b) λd=>Ab (tE a c) λe=>Ab (j0 a (d,e)) Ac
def B226:=bP [B188,yV] Tryz.func211 ⟨[.Ae Cc, .Ae Cc],[(0, .v 0 Cc),(1, .v 1 Cc),(2, .loc 0 0)],[(0, .Ah 128 [(1, .AK 152 [] [])])],1⟩ ⟨[.Ae Aj],[(0, .v 0 Aj)],[(0, .Ah 128 [(1, .AK 152 [] [])])],1⟩ 1 [] ej
def D230(fu:Nat)(x0 x1:Int)(x2:List BO):=R8 (λx y=>ej fu (x,y)) fu x0 x1 x2
abbrev xG fu:=u3 (D230 fu)
def B227:=bP [B226] Tryz.func314 ⟨[.Ae Aj, .Ae Aj, .Ae Ek],[(0, .AH 0),(1, .v 0 Aj),(2, .v 1 Aj),(3, .AK 211 [] [1])],[(0, .row 77 2),(1, .Ah 128 [(1, .AK 152 [] [])])],2⟩ ⟨[.Ae Ek],[],[(0, .row 77 0),(1, .Ah 128 [(1, .AK 152 [] [])])],2⟩ 0 [] xG (la:=lk [(1,⟨[.Ae Ek, .Ae Aj],(kp [0,1,2,3] [(8, .v 1 Aj)]),[(1, .Ah 128 [(1, .AK 152 [] [])]),(0, .row 77 0)],2⟩),(4,⟨[.Ae Ek, .Ae Aj],(kp [0,1,2,3,8] [(9, .v 1 Aj)]),[(1, .Ah 128 [(1, .AK 152 [] [])]),(0, .row 77 0)],2⟩)])
def sU(c:Nat):Int×Int×Int×List BO->Option (List BO)|(a,b,d,e)=>Ad c (λ(g:PUnit) h=>Aa .i64 (b-a)<|iF (b-a<=12) (Ab (xG c (a,b,e)) Ac)<|iF (d=0) C7<|none) (())
def B228:=bP [B227] Tryz.func266 ⟨[.Ae Aj, .Ae Aj, .Ae Aj, .Ae Ek],[(0, .AH 0),(1, .v 0 Aj),(2, .v 1 Aj),(3, .v 2 Aj),(4, .AK 211 [] [1])],[(0, .row 77 3),(1, .Ah 128 [(1, .AK 152 [] [])])],2⟩ ⟨[.Ae Ek],[],[(0, .row 77 0),(1, .Ah 128 [(1, .AK 152 [] [])])],2⟩ 0 [] sU (la:=lk [(2,⟨[],(kp [0,1,2,3,4,10,11] []),[(1, .c 0),(0, .c 0)],2⟩)])
def eh(b:Nat)(a:List BO):Option (List BO):=Ab (sn b (Int.ofNat (FB a %wv (18446744073709551616:Int)))) λc=>Ab (sU b (0,(a.length:Int),c,a)) Ac
def B229:=bP [B62,B228] Tryz.func210 ⟨[.Ae Ek],[(0, .AH 0),(1, .AK 211 [] [1])],[(0, .row 77 0),(1, .Ah 128 [(1, .AK 152 [] [])])],2⟩ ⟨[.Ae Ek],[],[(0, .row 77 0),(1, .Ah 128 [(1, .AK 152 [] [])])],2⟩ 0 [] eh
def sT(c:Nat)(d:List BO):Option (List BO):=Ad c (λ(a:List BO×Nat) e=>iF ((a.2:Int)<d.length) (Ab (idx d a.2) λf=>Ad c (λ(b:Nat) g=>iF ((b:Int)<d.length) (Ab (idx d b) λh=>iF ((a.2:Int)≠b) (Ab (U2 c (f,h)) λi=>iB i (iF ((b:Int)<a.2) (e (a.1,a.2+1))<|Ab (U2 c (h,f)) λj=>iB (!j) (e (a.1,a.2+1))<|g (b+1))<|g (b+1))<|g (b+1))<|Af (FB a.1+1<=Ai)<|e (((a.1++[f]),a.2+1))) (0))<|Ab (eh c a.1) Ac) (([],0))
def B230:=bP [B187,B229] Tryz.func150 ⟨[.Ae Ek],[(0, .v 0 Ek),(1, .AK 151 [] []),(2, .AK 152 [] [])],[],0⟩ ⟨[.Ae Ek],[(0, .v 0 Ek)],[],0⟩ 1 [] sT (la:=lk [(3,⟨[.Ae Ek, .nat],(kp [0,1,5] [(7, .AH 1),(12, .Am),(13, .Am),(14, .AE 1 301)]),[(0, .c 0),(1, .row 77 0)],2⟩),(6,⟨[.nat],(kp [0,1,5,7,8,9,12,13,14,19,20] [(21, .AE 0 600)]),[(2, .c 0),(1, .c 0),(0, .c 0)],3⟩)]) (pt:=lg [(2,[.own 7 77 Cc]),(13,[.fz 6])])
def sS(b:Nat)(a:BB):Option Vl:=Ac (Vl.mk Ak (Ak,Ak,Ak,([],[]),[]) [] [a])
def B231:=bQ [] Tryz.func155 [BR] [BD] sS (pt:=lg [(1,[.MX 2 8])])
def eg(a:Nat):BB×BB->Option Int|(b,c)=>Ab (sS a b) λd=>Ab (sS a c) λe=>Ab (j0 a (d,e)) Ac
def B232:=bP [B231,yV] Tryz.func216 ⟨[.Ae BR, .Ae BR],[(0, .v 0 BR),(1, .v 1 BR),(2, .loc 0 0)],[(0, .Ah 131 [(1, .AK 155 [] [])])],1⟩ ⟨[.Ae Aj],[(0, .v 0 Aj)],[(0, .Ah 131 [(1, .AK 155 [] [])])],1⟩ 1 [] eg
def D236(fu:Nat)(x0 x1:Int)(x2:List BB):=R8 (λx y=>eg fu (x,y)) fu x0 x1 x2
abbrev xF fu:=u3 (D236 fu)
def B233:=bP [B232] Tryz.func332 ⟨[.Ae Aj, .Ae Aj, .Ae Ej],[(0, .AH 0),(1, .v 0 Aj),(2, .v 1 Aj),(3, .AK 216 [] [1])],[(0, .row 65 2),(1, .Ah 131 [(1, .AK 155 [] [])])],2⟩ ⟨[.Ae Ej],[],[(0, .row 65 0),(1, .Ah 131 [(1, .AK 155 [] [])])],2⟩ 0 [] xF (la:=lk [(1,⟨[.Ae Ej, .Ae Aj],(kp [0,1,2,3] [(8, .v 1 Aj)]),[(1, .Ah 131 [(1, .AK 155 [] [])]),(0, .row 65 0)],2⟩),(4,⟨[.Ae Ej, .Ae Aj],(kp [0,1,2,3,8] [(9, .v 1 Aj)]),[(1, .Ah 131 [(1, .AK 155 [] [])]),(0, .row 65 0)],2⟩)])
def sR(c:Nat):Int×Int×Int×List BB->Option (List BB)|(a,b,d,e)=>Ad c (λ(g:PUnit) h=>Aa .i64 (b-a)<|iF (b-a<=12) (Ab (xF c (a,b,e)) Ac)<|iF (d=0) C7<|none) (())
def B234:=bP [B233] Tryz.func268 ⟨[.Ae Aj, .Ae Aj, .Ae Aj, .Ae Ej],[(0, .AH 0),(1, .v 0 Aj),(2, .v 1 Aj),(3, .v 2 Aj),(4, .AK 216 [] [1])],[(0, .row 65 3),(1, .Ah 131 [(1, .AK 155 [] [])])],2⟩ ⟨[.Ae Ej],[],[(0, .row 65 0),(1, .Ah 131 [(1, .AK 155 [] [])])],2⟩ 0 [] sR (la:=lk [(2,⟨[],(kp [0,1,2,3,4,10,11] []),[(1, .c 0),(0, .c 0)],2⟩)])
def eb(b:Nat)(a:List BB):Option (List BB):=Ab (sn b (Int.ofNat (FB a %wv (18446744073709551616:Int)))) λc=>Ab (sR b (0,(a.length:Int),c,a)) Ac
def B235:=bP [B62,B234] Tryz.func215 ⟨[.Ae Ej],[(0, .AH 0),(1, .AK 216 [] [1])],[(0, .row 65 0),(1, .Ah 131 [(1, .AK 155 [] [])])],2⟩ ⟨[.Ae Ej],[],[(0, .row 65 0),(1, .Ah 131 [(1, .AK 155 [] [])])],2⟩ 0 [] eb
def sO(c:Nat)(d:List BB):Option (List BB):=Ad c (λ(a:List BB×Nat) e=>iF ((a.2:Int)<d.length) (Ab (idx d a.2) λf=>Ad c (λ(b:Nat) g=>iF ((b:Int)<d.length) (Ab (idx d b) λh=>iF ((a.2:Int)≠b) (Ab (U3 c (f,h)) λi=>iB i (iF ((b:Int)<a.2) (e (a.1,a.2+1))<|Ab (U3 c (h,f)) λj=>iB (!j) (e (a.1,a.2+1))<|g (b+1))<|g (b+1))<|g (b+1))<|Af (FB a.1+1<=Ai)<|e (((a.1++[f]),a.2+1))) (0))<|Ab (eb c a.1) Ac) (([],0))
def B236:=bP [B180,B235] Tryz.func153 ⟨[.Ae Ej],[(0, .v 0 Ej),(1, .AK 154 [] []),(2, .AK 155 [] [])],[],0⟩ ⟨[.Ae Ej],[(0, .v 0 Ej)],[],0⟩ 1 [] sO (la:=lk [(3,⟨[.Ae Ej, .nat],(kp [0,1,5] [(7, .AH 1),(12, .Am),(13, .Am),(14, .AE 1 301)]),[(0, .c 0),(1, .row 65 0)],2⟩),(6,⟨[.nat],(kp [0,1,5,7,8,9,12,13,14,19,20] [(21, .AE 0 600)]),[(2, .c 0),(1, .c 0),(0, .c 0)],3⟩)]) (pt:=lg [(2,[.own 7 65 BR]),(13,[.fz 6])])
def xE(a:Nat)(_:Unit):Option A5:=Ac ([(Bp,[(0,255,0)])])
def B237:=bQ [] Tryz.func272 [] [y3] xE (pt:=lg [(1,[.MX 0 0])])
def jZ(a:Nat)(_:Unit):Option Fw:=Ab (U4 a ()) λb=>Ab (xE a ()) λc=>Ac (Bp,Bp,Bp,b,c)
def B238:=bQ [yZ,B237] Tryz.func219 [] [y8] jZ
def d_(b:Nat)(a:AG):Option Bool:=iB (Vl.any a.1) (Ac (Vl.any a.2))<|some Ak
def yU:=bQ [] Tryz.func273 [BE] [.bool] d_
def sN(b:Nat)(a:BO):Option Bool:=iF ((a.1.length:Int)=0) (iF ((a.2.length:Int)=1) (Ab (idx a.2 0) λc=>Ab (d_ b c) Ac)<|some Ak)<|some Ak
def B240:=bQ [yU] Tryz.func220 [Cc] [.bool] sN
def sM(b:Nat)(a:BB):Option Bool:=iF ((a.1.length:Int)=0) (iF ((a.2.length:Int)=1) (Ab (idx a.2 0) λc=>Ab (d_ b c.2) Ac)<|some Ak)<|some Ak
def B241:=bQ [yU] Tryz.func221 [BR] [.bool] sM
def jY(b:Nat)(a:Vl):Option Bool:=iF (((Vl.lists a).length:Int)=1) (iF (((Vl.structs a).length:Int)=1) (Ab (jZ b ()) λc=>Ab (Tv b (Vl.sc a,c)) λd=>iF (d=0) (Ab (idx (Vl.lists a) (0:Int)) λe=>Ab (sN b e) λf=>iB f (Ab (idx (Vl.structs a) (0:Int)) λg=>Ab (sM b g) Ac)<|some Ak)<|some Ak)<|some Ak)<|some Ak
def B242:=bQ [yW,B238,B240,B241] Tryz.func156 [BD] [.bool] jY
abbrev nE:Type:=Gl 148 [Cc] [Cc, .bool, .bool]×Gl 149 [BR] [BR, .bool, .bool]×Gl 109 [BD] [BD, .bool]×Gl 77 [BE] [BE, .bool]
def dy(n:Nat):nE:=Nat.rec (motive:=λ_=>nE) (tQ Tryz.func148,tQ Tryz.func149,tQ Tryz.func109,tQ Tryz.func77) (λfu ⟨g0,g1,g2,g3⟩=>(sQ (Dd g3::bs [eG] fu) fu Tryz.func148 [Cc] [Cc, .bool, .bool] (la:=lk [(4,⟨[.Ae Dp, .Ae .bool, .nat],(kp [1,2,5] [(6, .v 1 .bool),(16, .Am),(17, .Am),(18, .AE 2 402)]),[(2, .Ah 77 [(1, .AH 3),(1, .Am)]),(1, .c 0),(0, .c 0),(3, .row 35 0)],4⟩),(13,⟨[.Ae Dp, .nat],(kp [2,5,6,45,46] [(47, .AE 1 1301)]),[(2, .Ah 77 [(1, .Am),(1, .AH 4)]),(3, .c 0),(1, .c 0),(4, .row 35 0)],5⟩)]) (pt:=lg [(3,[.Ex 5 0 35 BE]),(12,[.Ex 5 1 35 BE]),(21,[.MX 2 0, .MX 2 1])]),sQ (Dd g3::bs [eG,B136,zg,B149] fu) fu Tryz.func149 [BR] [BR, .bool, .bool] (la:=lk [(4,⟨[.Ae L6, .Ae .bool, .nat],(kp [1,2,5] [(6, .v 1 .bool),(17, .Am),(18, .Am),(19, .AE 2 402)]),[(2, .Ah 65 [(1, .AH 3),(1, .Am)]),(1, .c 0),(0, .c 0),(3, .row 69 0)],4⟩),(14,⟨[.Ae Gp, .nat],(kp [2,5,6,49,50] [(51, .AE 1 1401)]),[(2, .Ah 65 [(1, .Am),(1, .AH 4)]),(3, .c 0),(1, .c 0),(4, .row 92 0)],5⟩)]) (pt:=lg [(3,[.Ex 5 0 69 EP]),(13,[.Ex 5 1 92 FP]),(25,[.MX 2 0, .MX 2 1])]),sQ (Dd g0::Dd g1::bs [B108,B230,B236,B242] fu) fu Tryz.func109 [BD] [BD, .bool] (la:=lk [(6,⟨[.Ae Ek, .nat],(kp [1,2,4] [(5, .AH 3),(25, .Am),(26, .Am),(27, .AE 1 601)]),[(2, .c 0),(1, .c 0),(0, .c 0),(3, .row 77 0)],4⟩),(16,⟨[.Ae Ej, .nat],(kp [2,4,5] [(11, .AH 4),(47, .Am),(48, .Am),(49, .AE 1 1601)]),[(3, .c 0),(2, .c 0),(1, .c 0),(4, .row 65 0)],5⟩)]) (pr:=lg [(24,[.fz 5, .fz 11])]) (pt:=lg [(5,[.own 5 77 Cc]),(15,[.own 11 65 BR])]),sQ (Dd g2::bs [B185] fu) fu Tryz.func77 [BE] [BE, .bool])) n
abbrev jX(fu:Nat)(x:BO):Option (BO×Bool×Bool):=(dy fu).1.1 x
abbrev jW(fu:Nat)(x:BB):Option (BB×Bool×Bool):=(dy fu).2.1.1 x
abbrev Yu(fu:Nat)(x:(Vl)):Option (Vl×Bool):=(dy fu).2.2.1.1 x
def B246(fu:Nat):=Dd (dy fu).2.2.2
abbrev Lv(fu:Nat)(x:AG):Option (AG×Bool):=(dy fu).2.2.2.1 x
def D246(c:Nat)(d:BO):Option (BO×Bool×Bool):=Ad c (λ(a:List AG×Bool×Nat) g=>iF ((a.2.2:Int)<d.1.length) (Ab (idx d.1 a.2.2) λi=>Ab (Lv c i) λe=>iB (!e.2) (Ac ((([],[]),Ak,Ak)))<|iB a.2.1 (Ab (Tz c e.1.1) λj=>Af (FB a.1+1<=4294967296)<|g ((a.1++[e.1]),(!j),a.2.2+1))<|Af (FB a.1+1<=4294967296)<|g ((a.1++[e.1]),Ak,a.2.2+1))<|Ad c (λ(b:List AG×Nat) h=>iF ((b.2:Int)<d.2.length) (Ab (idx d.2 b.2) λk=>Ab (Lv c k) λf=>iB (!f.2) (Ac ((([],[]),Ak,Ak)))<|Ab (Tz c f.1.1) λl=>iB (!l) (Af (FB b.1+1<=4294967296)<|h ((b.1++[f.1]),b.2+1))<|h (b.1,b.2+1))<|some (((a.1,b.1),a.2.1,Bp))) (([],0))) (([],Bp,0))
theorem d246(fu x0):jX (fu+1) x0=D246 fu x0:=by kernel_rfl
def D247(c:Nat)(f:BB):Option (BB×Bool×Bool):=Ad c (λ(a:List (Au×Int×AG)×Bool×Nat) i=>iF ((a.2.2:Int)<f.1.length) (Ab (idx f.1 a.2.2) λe=>Ab (Lv c e.2.2) λg=>iB (!g.2) (Ac ((([],[]),Ak,Ak)))<|iB a.2.1 (Ab (Tz c g.1.1) λl=>Af (FB a.1+1<=4294967296)<|i ((a.1++[(e.1,e.2.1,g.1)]),(!l),a.2.2+1))<|Af (FB a.1+1<=4294967296)<|i ((a.1++[(e.1,e.2.1,g.1)]),Ak,a.2.2+1))<|Ad c (λ(d:List (A5×AG)×Nat) j=>iF ((d.2:Int)<f.2.length) (Ab (idx f.2 d.2) λh=>Ab (Lv c h.2) λk=>iB (!k.2) (Ac ((([],[]),Ak,Ak)))<|Ab (ua c (d.1,k.1)) λb=>iF (b.1<0) (Ab (U9 c (h.1,[])) λm=>Af (FB b.2.1+1<=4294967296)<|j ((b.2.1++[(m,b.2.2)]),d.2+1))<|Ab (idx b.2.1 b.1) λn=>Ab (U9 c (n.1,h.1)) λo=>Ab (idx b.2.1 b.1) λp=>j ((b.2.1.set (Int.toNat b.1) (o,p.2)),d.2+1))<|Ab (kC c d.1) λq=>Ac (((a.1,q),a.2.1,Bp))) (([],0))) (([],Bp,0))
theorem d247(fu x0):jW (fu+1) x0=D247 fu x0:=by kernel_rfl
def D248(a:Nat)(d:Vl):Option (Vl×Bool):=iB (Vl.any d) (Ac ((d,Bp)))<|Ab (um a (Vl.sc d)) λg=>Ad a (λ(b:List BO×Nat) h=>iF ((b.2:Int)<(Vl.lists d).length) (Ab (idx (Vl.lists d) (b.2:Int)) λl=>Ab (jX a l) λe=>iB (!e.2.2) (Ac ((Vl.mk Ak (Ak,Ak,Ak,([],[]),[]) [] [],Ak)))<|iB e.2.1 (Af (FB b.1+1<=Ai)<|h ((b.1++[e.1]),b.2+1))<|h (b.1,b.2+1))<|Ad a (λ(c:List BB×Nat) i=>iF ((c.2:Int)<(Vl.structs d).length) (Ab (idx (Vl.structs d) (c.2:Int)) λm=>Ab (jW a m) λf=>iB (!f.2.2) (Ac ((Vl.mk Ak (Ak,Ak,Ak,([],[]),[]) [] [],Ak)))<|iB f.2.1 (Af (FB c.1+1<=Ai)<|i ((c.1++[f.1]),c.2+1))<|i (c.1,c.2+1))<|Ab (sT a b.1) λj=>Ab (sO a c.1) λk=>Ab (jY a (Vl.mk Ak g j k)) λn=>iB n (Ac ((Vl.mk Bp (Ak,Ak,Ak,([],[]),[]) [] [],Bp)))<|some ((Vl.mk Ak g j k,Bp))) (([],0))) (([],0))
theorem d248(fu x0):Yu (fu+1) x0=D248 fu x0:=by kernel_rfl
def D249(c:Nat)(d:AG):Option (AG×Bool):=Ab (Yu c d.1) λa=>Ab (Yu c d.2) λb=>iB a.2 (iB b.2 (Ab (Tw c (b.1,a.1)) λe=>Ac (((a.1,b.1),e)))<|some (((a.1,b.1),Ak)))<|some ((a.1,b.1),Ak)
theorem d249(fu x0):Lv (fu+1) x0=D249 fu x0:=by kernel_rfl
def dZ(a:Nat)(b:AG):Option (AG×Int):=Ab (zX a b) λd=>iB (!d) (Ac (((Vl.mk Ak (Ak,Ak,Ak,([],[]),[]) [] [],Vl.mk Ak (Ak,Ak,Ak,([],[]),[]) [] []),11)))<|Ab (Lv a b) λc=>iB (!c.2) (Ac (((Vl.mk Ak (Ak,Ak,Ak,([],[]),[]) [] [],Vl.mk Ak (Ak,Ak,Ak,([],[]),[]) [] []),11)))<|some (c.1,0)
def yT:=bQ [B89,B246] Tryz.func55 [BE] [BE,Aj] dZ
def Tu(a:Nat)(b:AG):Option Bool:=Ab (dZ a b) λc=>iF (c.2=0) (Ab (eA a (c.1,b)) Ac)<|some Ak
def uA:=bQ [yT,uD] Tryz.func50 [BE] [.bool] Tu
def sL(b:Nat)(c:AG):Option Vl:=Ab (dZ b c) λa=>iF (a.2≠0) (Ac (Vl.mk Ak (Ak,Ak,Ak,([],[]),[]) [] []))<|Ab (Tu b c) λd=>iB (!d) (Ac (Vl.mk Ak (Ak,Ak,Ak,([],[]),[]) [] []))<|Ab (Tz b a.1.2) λe=>iB e (Ac a.1.1)<|some a.1.2
def B249:=bQ [eG,uA,yT] Tryz.func82 [BE] [BD] sL
def jV(a:Nat)(b:AG):Option ((Vl×Bool)×Int):=Ab (Tu a b) λd=>iB (!d) (Ac (((Vl.mk Ak (Ak,Ak,Ak,([],[]),[]) [] [],Ak),11)))<|Ab (Tz a b.1) λe=>iB e (Ac (((Vl.mk Ak (Ak,Ak,Ak,([],[]),[]) [] [],Ak),12)))<|Ab (sL a b) λc=>Ab (YE a (Vl.sc c)) λf=>Ac ((c,(!f)),0)
def yS:=bQ [eG,uE,uA,B249] Tryz.func61 [BE] [(.st y26),Aj] jV
def sK(b:Nat)(a:Vl×Bool):Option Int:=Aa .i64 (((Vl.lists a.1).length:Int)+((Vl.structs a.1).length:Int))<|iB a.2 (Aa .i64 (((Vl.lists a.1).length:Int)+((Vl.structs a.1).length:Int)+1)<|some (((((Vl.lists a.1).length:Int)+((Vl.structs a.1).length:Int))+1)))<|some (((Vl.lists a.1).length:Int)+((Vl.structs a.1).length:Int))
def B251:=bQ [] Tryz.func83 [(.st y26)] [Aj] sK
def jU(c:Nat):(Vl×Bool)×Int->Option Int|(b,a)=>iB (Vl.any b.1) (Ac 14)<|iF ((0:Int)<a) (Ab (sK c b) λd=>iF ((1:Int)<d) (Ac 14)<|iF (a=0) (Ac 11)<|some 0)<|iF (a=0) (Ac 11)<|some 0
def yR:=bQ [B251] Tryz.func62 [(.st y26),Aj] [Aj] jU
def xD(b:Nat)(d:AG):Option (BB×Int):=Ab (jV b d) λa=>iF (a.2=0) (Ab (jU b (a.1,((Vl.structs a.1.1).length:Int))) λc=>iF (c≠0) (Ac ((([],[]),c)))<|Ab (idx (Vl.structs a.1.1) (0:Int)) λe=>Ac ((e,0)))<|iF (a.2≠0) (Ac ((([],[]),a.2)))<|Ab (idx (Vl.structs a.1.1) (0:Int)) λf=>Ac (f,0)
def B253:=bQ [yS,yR] Tryz.func37 [BE] [BR,Aj] xD
def dY(c:Nat):AG×Au->Option (AG×Int)|(e,f)=>Ab (xD c e) λa=>iF (a.2≠0) (Ac (((Vl.mk Ak (Ak,Ak,Ak,([],[]),[]) [] [],Vl.mk Ak (Ak,Ak,Ak,([],[]),[]) [] []),a.2)))<|Ad c (λ(b:Nat) g=>iF ((b:Int)<a.1.1.length) (Ab (idx a.1.1 b) λd=>iF (d.1=f) (Ac ((d.2.2,0)))<|g (b+1))<|some (((Vl.mk Ak (Ak,Ak,Ak,([],[]),[]) [] [],Vl.mk Ak (Ak,Ak,Ak,([],[]),[]) [] []),13))) (0)
def B254:=bQ [B253] Tryz.func11 [BE, .str] [BE,Aj] dY (la:=lk [(5,⟨[.nat],(kp [1,4,20,21] [(22, .AE 0 500)]),[(1, .c 0)],3⟩)])
def jT(b:Nat)(d:AG):Option (BO×Int):=Ab (jV b d) λa=>iF (a.2=0) (Ab (jU b (a.1,((Vl.lists a.1.1).length:Int))) λc=>iF (c≠0) (Ac ((([],[]),c)))<|Ab (idx (Vl.lists a.1.1) (0:Int)) λe=>Ac ((e,0)))<|iF (a.2≠0) (Ac ((([],[]),a.2)))<|Ab (idx (Vl.lists a.1.1) (0:Int)) λf=>Ac (f,0)
def yQ:=bQ [yS,yR] Tryz.func45 [BE] [Cc,Aj] jT
def NV(c:Nat):AG×Int->Option (AG×Int)|(d,b)=>Ab (jT c d) λa=>iF (a.2≠0) (Ac (((Vl.mk Ak (Ak,Ak,Ak,([],[]),[]) [] [],Vl.mk Ak (Ak,Ak,Ak,([],[]),[]) [] []),a.2)))<|iF (b<0) (Ac (((Vl.mk Ak (Ak,Ak,Ak,([],[]),[]) [] [],Vl.mk Ak (Ak,Ak,Ak,([],[]),[]) [] []),1)))<|iF (b<(a.1.1.length:Int)) (Ab (idx a.1.1 b) λe=>Ac ((e,0)))<|iF ((0:Int)<a.1.2.length) (Ac (((Vl.mk Ak (Ak,Ak,Ak,([],[]),[]) [] [],Vl.mk Ak (Ak,Ak,Ak,([],[]),[]) [] []),14)))<|some ((Vl.mk Ak (Ak,Ak,Ak,([],[]),[]) [] [],Vl.mk Ak (Ak,Ak,Ak,([],[]),[]) [] []),13)
def yP:=bQ [yQ] Tryz.func18 [BE,Aj] [BE,Aj] NV
def xC(a:Nat):AG×AG->Option Bool|(b,c)=>Ab (Nw a (b,c)) λd=>iB d (Ab (zX a b) Ac)<|some Ak
def B257:=bQ [zb,B89] Tryz.func35 [BE,BE] [.bool] xC
def xB(a:Nat)(b:Vl):Option Bool:=Ab (Tu a (b,Vl.mk Ak (Ak,Ak,Ak,([],[]),[]) [] [])) Ac
def B258:=bQ [uA] Tryz.func42 [BD] [.bool] xB
def xA(c:Nat):Vl×Au->Option Bool|(a,b)=>iF (b=([110,117,108,108]:Au)) (Ac ((Vl.sc a).1))<|iF (b=([98,111,111,108]:Au)) (iB ((Vl.sc a).2.1) (Ac Bp)<|some ((Vl.sc a).2.2.1))<|iF (b=([105,110,116]:Au)) (Ac (Dm ((0:Int)<(((Vl.sc a).2.2.2.1.1).length:Int))))<|iF (b=([110,117,109,98,101,114]:Au)) (Ac (Dm ((0:Int)<(((Vl.sc a).2.2.2.1.2).length:Int))))<|iF (b=([115,116,114,105,110,103]:Au)) (Ac (Dm ((0:Int)<(((Vl.sc a).2.2.2.2).length:Int))))<|iF (b=([108,105,115,116]:Au)) (Ac (Dm ((0:Int)<(Vl.lists a).length)))<|some (Dm ((0:Int)<(Vl.structs a).length))
def B259:=bQ [] Tryz.func43 [(.st BD), .str] [.bool] xA
def sH(b:Nat)(c:Vl):Option (List Au):=Ab (xB b c) λf=>iB (!f) (Ac [])<|Ad b (λ(a:List Au×Nat) d=>iF ((a.2:Int)< ↑(7)) (Ab (idx [([110,117,108,108]:Au),([98,111,111,108]:Au),([105,110,116]:Au),([110,117,109,98,101,114]:Au),([115,116,114,105,110,103]:Au),([108,105,115,116]:Au),([115,116,114,117,99,116]:Au)] (a.2:Int)) λe=>iB (Vl.any c) (Af (FB a.1+1<=Ai)<|d ((a.1++[e]),a.2+1))<|Ab (xA b (c,e)) λg=>iB g (Af (FB a.1+1<=Ai)<|d ((a.1++[e]),a.2+1))<|d (a.1,a.2+1))<|some a.1) (([],0))
def B260:=bQ [B258,B259] Tryz.func16 [BD] [Lj] sH (la:=lk [(6,⟨[.Ae Lj, .nat],(kp [1,3] [(4, .AH 2),(13, .Am),(14, .Am),(15, .AE 1 601)]),[(1, .c 0),(0, .c 0),(2, .row 9 0)],3⟩)]) (pt:=lg [(5,[.own 4 9 .str]),(11,[.fz 2])])
def xz(d:Nat):List Au×List Au->Option Bool|(b,c)=>iF ((b.length:Int)≠c.length) (Ac Ak)<|Ad d (λ(a:Nat) e=>iF ((a:Int)<b.length) (Ab (idx b a) λf=>Ab (idx c a) λg=>iB (!decide (f=g)) (Ac Ak)<|e (a+1))<|some Bp) (0)
def B261:=bQ [] Tryz.func15 [Lj,Lj] [.bool] xz (la:=lk [(4,⟨[.nat],(kp [0,1] [(5, .AE 0 400)]),[],0⟩)])
def D266(fu:Nat):Option Bool:=Ab (F5 fu (1,1)) λr1=>Ab (F6 fu r1) λr2=>Ab (F33 fu (([97]:Au),r2)) λr3=>Ab (F6 fu r3) λr4=>Ab (dY fu (r4,([97]:Au))) λr5=>Ab (dY fu (r4,([98]:Au))) λr6=>Ab (NV fu (r4,0)) λr7=>Ab (F33 fu (([97]:Au),r2)) λr8=>Ab (F5 fu (1,1)) λr9=>Ab (F6 fu (Vl.mk (Vl.any r8) (Vl.sc r9) (Vl.lists r8) (Vl.structs r8))) λr10=>Ab (dY fu (r10,([97]:Au))) λr11=>Ab (F5 fu (1,2)) λr12=>Ab (F6 fu r12) λr13=>Ab (dY fu (r13,([97]:Au))) λr14=>bif Dm (r5.2=0)then bif Dm (r6.2=13)then bif Dm (r7.2=11)then bif Dm (r11.2=14)then bif Dm (r14.2=11)then Ab (xC fu (r5.1,r2)) λr15=>bif r15 then Ab (F32 fu ()) λr16=>Ab (sH fu r16.1) λr17=>bif Dm ((r17.length:Int)=7)then Ab (F5 fu ((-3:Int),3)) λr18=>Ab (sH fu r18) λr19=>Ab (xz fu (r19,[([105,110,116]:Au)])) λr20=>Ac r20 else Ac Ak else Ac Ak else Ac Ak else Ac Ak else Ac Ak else Ac Ak else Ac Ak
abbrev dX(fu:Nat)(_:Unit):=D266 fu
def B262:=bQ [B254,B261,B260,yP,B6,B5,B33,B257,B32] Tryz.func10 [] [.bool] dX
end
end Go.GV
