/- Part 5 of the texts of this claim: what its theorem leans on. -/
import Derived.Test.YtejdlmphkeeekaaGreatDoorZClosingClosed4
import Derived.KernelRfl
import Derived.Test.YtejdlmphkeeekaaGreatDoorZClosingClosed1
set_option linter.all false
open Option renaming some→Ac,none→Dc
open Bool renaming false→Ak,true→Br
open Go renaming Value→Ce,Operand→Er,TypeId→Gn,Program→GO,World→IK,execOp→Kr,Oper→K5,IntKind→Lm
open Decidable renaming decide→Ds
open List renaming length→FB,replicate→T9,range→aO,take_succ_eq_append_getElem→cu,getElem?_eq_getElem→kV,set→lh,take_append_getElem→qE,mem_singleton→wN,length_map→Alv
open Int renaming toNat→ae,tdiv→iY,tmod→ji
open Go.Op renaming bytesLess→fX
open Nat renaming strongRecOn→rZ
namespace Go.GV
open Go Go.GK Go.Proofs
noncomputable section
def D249(c:Nat)(d:AH):Option (AH×Bool):=Ab (YE c d.1) λa=>Ab (YE c d.2) λb=>iB a.2 (iB b.2 (Ab (TK c (b.1,a.1)) λe=>Ac (((a.1,b.1),e)))<|some (((a.1,b.1),Ak)))<|some ((a.1,b.1),Ak)
theorem d249(fu x0):Ly (fu+1) x0=D249 fu x0:=by kernel_rfl
def I8(a:Nat)(b:AH):Option (AH×Int):=Ab (F92 a b) λd=>iB (!d) (Ac (((Vl.mk Ak (Ak,Ak,Ak,([],[]),[]) [] [],Vl.mk Ak (Ak,Ak,Ak,([],[]),[]) [] []),11)))<|Ab (Ly a b) λc=>iB (!c.2) (Ac (((Vl.mk Ak (Ak,Ak,Ak,([],[]),[]) [] [],Vl.mk Ak (Ak,Ak,Ak,([],[]),[]) [] []),11)))<|some (c.1,0)
def zU:=bQ [B89,B246] Tryz.func57 [A_] [A_,Am] I8
def tx(a:Nat)(b:AH):Option Bool:=Ab (I8 a b) λc=>iF (c.2=0) (Ab (eB a (c.1,b)) Ac)<|some Ak
def B248:=bQ [zU,eJ] Tryz.func41 [A_] [.bool] tx
def R249(fu:Nat):=sP (bs [] fu) fu Tryz.func201 ⟨[.Ae Ck, .Ae Ck],[(0, .v 0 Ck),(1, .v 1 Ck)],[],0⟩ ⟨[.Ae Ck, .Ae Ck],[(0, .AA 261 [] [0,1])],[(0, .Af 30 [(1, .v 0 Ck)]),(1, .Af 30 [(1, .v 1 Ck)])],2⟩ 1 []
def B249(fu:Nat):=BO (R249 fu)
def R250(fu:Nat):=sI (bs [] fu) fu Tryz.func261 ⟨[.Ae Ck, .Ae Ck],[(0, .Al),(1, .loc 0 0),(2, .loc 1 0)],[(0, .Af 30 [(1, .v 0 Ck)]),(1, .Af 30 [(1, .v 1 Ck)])],2⟩ 0 [BW,BW] (la:=lk [(1,⟨[.nat],(kp [0,2,8,9] [(10, .AB 0 100)]),[(1, .c 0),(0, .c 0)],3⟩),(4,⟨[.nat],(kp [0,2,5,8,9,10,14,15] [(16, .AB 0 400)]),[(3, .c 0),(1, .c 0),(0, .c 0)],4⟩)])
def B250(fu:Nat):=xQ (R250 fu)
def R251(fu:Nat):=sP (bs [] fu) fu Tryz.func203 ⟨[.Ae Ci, .Ae Ci],[(0, .v 0 Ci),(1, .v 1 Ci)],[],0⟩ ⟨[.Ae Ci, .Ae Ci],[(0, .AA 263 [] [0,1])],[(0, .Af 31 [(1, .v 0 Ci)]),(1, .Af 31 [(1, .v 1 Ci)])],2⟩ 1 []
def B251(fu:Nat):=BO (R251 fu)
def R252(fu:Nat):=sI (bs [] fu) fu Tryz.func263 ⟨[.Ae Ci, .Ae Ci],[(0, .Al),(1, .loc 0 0),(2, .loc 1 0)],[(0, .Af 31 [(1, .v 0 Ci)]),(1, .Af 31 [(1, .v 1 Ci)])],2⟩ 0 [BL,BL] (la:=lk [(1,⟨[.nat],(kp [0,2,8,9] [(10, .AB 0 100)]),[(1, .c 0),(0, .c 0)],3⟩),(4,⟨[.nat],(kp [0,2,5,8,9,10,14,15] [(16, .AB 0 400)]),[(3, .c 0),(1, .c 0),(0, .c 0)],4⟩)])
def B252(fu:Nat):=xQ (R252 fu)
def j0(a:Nat)(b:Vl):Option Bool:=Ab (tx a (b,Vl.mk Ak (Ak,Ak,Ak,([],[]),[]) [] [])) Ac
def B253:=bQ [B248] Tryz.func19 [Ba] [.bool] j0
def R280(fu:Nat):=sQ (bs [] fu) fu Tryz.func58 [BJ,BJ] [.bool] (la:=lk [(4,⟨[.nat],(kp [0,1] [(5, .AB 0 400)]),[],0⟩)])
def B280(fu:Nat):=BI (R280 fu)
def jR(d:Nat)(c:BE):Option (List AH):=Ad d (λ(a:List AH×Nat) e=>iF ((a.2:Int)<c.1.length) (Ab (idx c.1 a.2) λf=>Ah (FB a.1+1<=4294967296)<|e ((a.1++[f.2.2]),a.2+1))<|Ad d (λ(b:List AH×Nat) g=>iF ((b.2:Int)<c.2.length) (Ab (idx c.2 b.2) λh=>Ah (FB b.1+1<=4294967296)<|g ((b.1++[h.2]),b.2+1))<|some b.1) ((a.1,0))) (([],0))
def zR:=bQ [] Tryz.func80 [BL] [Cz] jR (la:=lk [(3,⟨[.Ae Cz, .nat],[(1, .Al),(3, .AE 1),(4, .AB 1 301)],[(0, .c 0),(1, .row 38 0)],2⟩),(7,⟨[.Ae Cz, .nat],[(1, .Al),(3, .AE 1),(5, .AB 1 701)],[(1, .row 38 0),(0, .c 0)],2⟩)]) (pt:=lg [(2,[.own 3 38 A_]),(10,[.fz 2])])
abbrev n7:Type:=EM 60 [Cz,Cz] [.bool]×EM 61 [BL,BL] [.bool]×EM 37 [Ba,Ba] [.bool]×EM 15 [A_,A_] [.bool]
def G282(n:Nat):n7:=Nat.rec (motive:=λ_=>n7) (tQ Tryz.func60,tQ Tryz.func61,tQ Tryz.func37,tQ Tryz.func15) (λfu ⟨g0,g1,g2,g3⟩=>(sQ [BI g3] fu Tryz.func60 [Cz,Cz] [.bool] (la:=lk [(4,⟨[.nat],(kp [0,1] [(5, .AB 0 400)]),[],0⟩)]),sQ (BI g0::bs [B21,zR] fu) fu Tryz.func61 [BL,BL] [.bool] (la:=lk [(4,⟨[.nat],(kp [2,3] [(5, .AB 0 400)]),[(1, .c 0),(0, .c 0)],2⟩),(9,⟨[.nat],(kp [2,3] [(6, .AB 0 900)]),[(1, .c 0),(0, .c 0)],2⟩)]),sQ (BI g0::BI g1::bs [B280,B21] fu) fu Tryz.func37 [Ba,Ba] [.bool] (la:=lk [(7,⟨[.nat],(kp [2,3] [(7, .AB 0 700)]),[(1, .c 0),(0, .c 0)],4⟩),(12,⟨[.nat],(kp [2,3] [(8, .AB 0 1200)]),[(1, .c 0),(0, .c 0)],4⟩)]),sQ [BI g2] fu Tryz.func15 [A_,A_] [.bool])) n
def B285(fu:Nat):=BI (G282 fu).2.2.2
def U6(b:Nat)(a:AH):Option Bool:=iB (Vl.any a.1) (Ac (Vl.any a.2))<|some Ak
def u_:=bQ [] Tryz.func16 [A_] [.bool] U6
def dW(c:Nat):A4×Ay->Option Bool|(b,d)=>Ab (F9 c b) λe=>iB (!e) (Ac Ak)<|iF ((b.length:Int)=0) (Ac Ak)<|Ad c (λ(a:Int×Int) f=>iF (a.2<(d.length:Int)) (Ab (Ey d a.2) λg=>Ab (uL c (b,a.1,g)) λh=>Aa .i64 (a.2+1)<|f (h,(a.2+1)))<|iF ((0:Int)<=a.1) (Ab (idx b a.1) λi=>Ac i.1)<|some Ak) ((0,0))
def B287:=bQ [B10,B15] Tryz.func38 [y3, .str] [.bool] dW (la:=lk [(5,⟨[.Ae Am, .Ae Am],(kp [1,2] [(5, .v 0 Am),(6, .v 1 Am)]),[(0, .c 0)],1⟩)])
def dV(d:Nat):BE×Ay->Option (AH×Int)|(a,e)=>Ad d (λ(b:Nat) f=>iF ((b:Int)<a.1.length) (Ab (idx a.1 b) λg=>iF (g.1=e) (Ab (idx a.1 b) λh=>Ab (idx a.1 b) λi=>Ac ((h.2.2,i.2.1)))<|f (b+1))<|Ad d (λ(c:Nat) j=>iF ((c:Int)<a.2.length) (Ab (idx a.2 c) λk=>Ab (dW d (k.1,e)) λl=>iB l (Ab (idx a.2 c) λm=>Ac ((m.2,3)))<|j (c+1))<|some (((Vl.mk Ak (Ak,Ak,Ak,([],[]),[]) [] [],Vl.mk Ak (Ak,Ak,Ak,([],[]),[]) [] []),3))) (0)) (0)
def zQ:=bQ [B287] Tryz.func17 [BL, .str] [A_,Am] dV (la:=lk [(2,⟨[.nat],(kp [1,2,4] [(6, .AB 0 200)]),[(1, .c 0),(0, .c 0)],2⟩),(7,⟨[.nat],(kp [1,2,4] [(7, .AB 0 700)]),[(1, .c 0),(0, .c 0)],2⟩)])
def jY(g:Nat)(h:List (Int×Int)):Option (List (Int×Int)):=Ad g (λ(c:List (Int×Int)×Nat) f=>iF ((c.2:Int)<h.length) (Ab (idx h c.2) λd=>iF (d.2<d.1) (f (c.1,c.2+1))<|Ad g (λ(a:List (Int×Int)×Int×Int×Bool×Nat) e=>iF ((a.2.2.2.2:Int)<c.1.length) (Ab (idx c.1 a.2.2.2.2) λb=>Aa .i64 (b.2+1)<|iF (b.2+1<a.2.1) (Ah (FB a.1+1<=Aj)<|e ((a.1++[b]),a.2.1,a.2.2.1,a.2.2.2.1,a.2.2.2.2+1))<|Aa .i64 (a.2.2.1+1)<|iF (a.2.2.1+1<b.1) (iB (!a.2.2.2.1) (Ah (FB a.1+1<=Aj)<|Ah (FB (a.1++[(a.2.1,a.2.2.1)])+1<=Aj)<|e (((a.1++[(a.2.1,a.2.2.1)])++[b]),a.2.1,a.2.2.1,Br,a.2.2.2.2+1))<|Ah (FB a.1+1<=Aj)<|e ((a.1++[b]),a.2.1,a.2.2.1,a.2.2.2.1,a.2.2.2.2+1))<|Aa .i64 (if b.1<a.2.1 then b.1 else a.2.1)<|Aa .i64 (if b.2>a.2.2.1 then b.2 else a.2.2.1)<|e (a.1,(if b.1<a.2.1 then b.1 else a.2.1),(if a.2.2.1<b.2 then b.2 else a.2.2.1),a.2.2.2.1,a.2.2.2.2+1))<|iB (!a.2.2.2.1) (Ah (FB a.1+1<=Aj)<|f ((a.1++[(a.2.1,a.2.2.1)]),c.2+1))<|f ((a.1,c.2+1))) (([],d.1,d.2,Ak,0)))<|some c.1) (([],0))
def zP:=bQ [] Tryz.func184 [BJ] [BJ] jY (la:=lk [(3,⟨[.Ae BJ, .nat],[(3, .AE 0),(10, .Al),(11, .Al),(12, .AB 1 301)],[(0, .row 67 0)],1⟩),(9,⟨[.Ae BJ, .Ae Am, .Ae Am, .Ae .bool, .nat],[(5, .Al),(6, .AE 2),(7, .v 3 .bool),(10, .Al),(11, .Al),(12, .Al),(21, .Al),(22, .Al),(23, .AB 4 904)],[(0, .c 0),(1, .Af 67 [(1, .v 1 Am),(1, .v 2 Am)]),(2, .row 67 0)],3⟩)]) (pt:=lg [(2,[.own 3 67 Ew]),(8,[.own 6 67 Ew]),(25,[.fz 2])])
def jX(c:Nat)(d:Be):Option (List (Int×Int)):=Ad c (λ(b:List (Int×Int)×Nat) e=>iF ((b.2:Int)<d.1.length) (Ab (idx d.1 b.2) λa=>Aa .i64 (if(-100000000000:Int)>a.1 then(-100000000000:Int)else a.1)<|Aa .i64 (if(100000000000:Int)<a.2 then(100000000000:Int)else a.2)<|Ah (FB b.1+1<=Aj)<|e ((b.1++[((if a.1<(-100000000000:Int)then(-100000000000:Int)else a.1),(if(100000000000:Int)<a.2 then(100000000000:Int)else a.2))]),b.2+1))<|Ab (jY c b.1) Ac) (([],0))
def zO:=bQ [zP] Tryz.func133 [BR] [BJ] jX (la:=lk [(3,⟨[.Ae BJ, .nat],[(3, .AE 1),(7, .Al),(8, .Al),(9, .AB 1 301)],[(1, .row 67 0)],2⟩)]) (pr:=lg [(7,[.fz 3])]) (pt:=lg [(2,[.own 3 67 Ew])])
def U_(b:Nat)(a:Int):Option Bool:=Ah ((10000:Int)≠0)<|Aa .i64 (ji a (10000:Int))<|some (Ds ((ji a (10000:Int))=0))
def zN:=bQ [] Tryz.func185 [Am] [.bool] U_
def jW(c:Nat)(b:Int):Option Int:=Ah ((10000:Int)≠0)<|Aa .i64 (iY b (10000:Int))<|Ah ((10000:Int)≠0)<|Aa .i64 (ji b (10000:Int))<|iF (ji b (10000:Int)<0) (Aa .i64 (iY b (10000:Int)-1)<|some (((iY b (10000:Int))-1)))<|some (Int.rec (λa=>Int.ofNat (a/10000)) (λa=>Nat.rec (0:Int) (λn n_ih=>Int.negSucc n) (Nat.succ a/10000)) b)
def B292:=bQ [] Tryz.func241 [Am] [Am] jW
def Lx(c:Nat)(b:Int):Option Int:=Ab (jW c b) λa=>Aa .i64 (a*9999)<|Aa .i64 (a*10000)<|Aa .i64 (b-a*10000)<|Aa .i64 (a*9999+(b-a*10000))<|Aa .i64 (a*9999+(b-a*10000)-1)<|some ((a*9999+(b-a*10000))-1)
def B293:=bQ [B292] Tryz.func186 [Am] [Am] Lx
def jV(c:Nat)(e:Be):Option (List (Int×Int)):=Ad c (λ(b:List (Int×Int)×Nat) d=>iF ((b.2:Int)<e.2.length) (Ab (idx e.2 b.2) λa=>Aa .i64 (if(-1000000000000000:Int)>a.1 then(-1000000000000000:Int)else a.1)<|Aa .i64 (if(1000000000000000:Int)<a.2 then(1000000000000000:Int)else a.2)<|iF ((if(1000000000000000:Int)<a.2 then(1000000000000000:Int)else a.2)<if(-1000000000000000:Int)>a.1 then(-1000000000000000:Int)else a.1) (d (b.1,b.2+1))<|Ab (U_ c ((if a.1<(-1000000000000000:Int)then(-1000000000000000:Int)else a.1))) λf=>iB f (Aa .i64 ((if(-1000000000000000:Int)>a.1 then(-1000000000000000:Int)else a.1)+1)<|Ab (U_ c ((if(1000000000000000:Int)<a.2 then(1000000000000000:Int)else a.2))) λg=>iB g (Aa .i64 ((if(1000000000000000:Int)<a.2 then(1000000000000000:Int)else a.2)-1)<|iF ((if(-1000000000000000:Int)>a.1 then(-1000000000000000:Int)else a.1)+1<=(if(1000000000000000:Int)<a.2 then(1000000000000000:Int)else a.2)-1) (Ab (Lx c (((if(-1000000000000000:Int)>a.1 then(-1000000000000000:Int)else a.1)+1))) λh=>Ab (Lx c (((if(1000000000000000:Int)<a.2 then(1000000000000000:Int)else a.2)-1))) λi=>Ah (FB b.1+1<=Aj)<|d ((b.1++[(h,i)]),b.2+1))<|d (b.1,b.2+1))<|iF ((if(-1000000000000000:Int)>a.1 then(-1000000000000000:Int)else a.1)+1<=if(1000000000000000:Int)<a.2 then(1000000000000000:Int)else a.2) (Ab (Lx c (((if(-1000000000000000:Int)>a.1 then(-1000000000000000:Int)else a.1)+1))) λj=>Ab (Lx c ((if(1000000000000000:Int)<a.2 then(1000000000000000:Int)else a.2))) λk=>Ah (FB b.1+1<=Aj)<|d ((b.1++[(j,k)]),b.2+1))<|d (b.1,b.2+1))<|Ab (U_ c ((if(1000000000000000:Int)<a.2 then(1000000000000000:Int)else a.2))) λl=>iB l (Aa .i64 ((if(1000000000000000:Int)<a.2 then(1000000000000000:Int)else a.2)-1)<|iF ((if(-1000000000000000:Int)>a.1 then(-1000000000000000:Int)else a.1)<=(if(1000000000000000:Int)<a.2 then(1000000000000000:Int)else a.2)-1) (Ab (Lx c ((if a.1<(-1000000000000000:Int)then(-1000000000000000:Int)else a.1))) λm=>Ab (Lx c (((if(1000000000000000:Int)<a.2 then(1000000000000000:Int)else a.2)-1))) λn=>Ah (FB b.1+1<=Aj)<|d ((b.1++[(m,n)]),b.2+1))<|d (b.1,b.2+1))<|iF ((if(-1000000000000000:Int)>a.1 then(-1000000000000000:Int)else a.1)<=if(1000000000000000:Int)<a.2 then(1000000000000000:Int)else a.2) (Ab (Lx c ((if a.1<(-1000000000000000:Int)then(-1000000000000000:Int)else a.1))) λo=>Ab (Lx c ((if(1000000000000000:Int)<a.2 then(1000000000000000:Int)else a.2))) λp=>Ah (FB b.1+1<=Aj)<|d ((b.1++[(o,p)]),b.2+1))<|d (b.1,b.2+1))<|Ab (jY c b.1) Ac) (([],0))
def zM:=bQ [zP,zN,B293] Tryz.func134 [BR] [BJ] jV (la:=lk [(3,⟨[.Ae BJ, .nat],[(3, .AE 1),(9, .Al),(10, .Al),(11, .AB 1 301)],[(1, .row 67 0)],2⟩)]) (pr:=lg [(14,[.fz 3])]) (pt:=lg [(2,[.own 3 67 Ew])])
def jU(b:Nat)(a:Int):Option Int:=Ah ((9999:Int)≠0)<|Aa .i64 (iY a (9999:Int))<|Ah ((9999:Int)≠0)<|Aa .i64 (ji a (9999:Int))<|iF (ji a (9999:Int)<0) (Aa .i64 (iY a (9999:Int)-1)<|Aa .i64 ((iY a (9999:Int)-1)*10000)<|Aa .i64 ((iY a (9999:Int)-1)*9999)<|Aa .i64 (a-(iY a (9999:Int)-1)*9999)<|Aa .i64 ((iY a (9999:Int)-1)*10000+(a-(iY a (9999:Int)-1)*9999))<|Aa .i64 ((iY a (9999:Int)-1)*10000+(a-(iY a (9999:Int)-1)*9999)+1)<|some ((((iY a (9999:Int)-1)*10000+(a-(iY a (9999:Int)-1)*9999))+1)))<|Aa .i64 (iY a (9999:Int)*10000)<|Aa .i64 (iY a (9999:Int)*9999)<|Aa .i64 (a-iY a (9999:Int)*9999)<|Aa .i64 (iY a (9999:Int)*10000+(a-iY a (9999:Int)*9999))<|Aa .i64 (iY a (9999:Int)*10000+(a-iY a (9999:Int)*9999)+1)<|some ((iY a (9999:Int)*10000+(a-iY a (9999:Int)*9999))+1)
def B295:=bQ [] Tryz.func183 [Am] [Am] jU
def jT(b:Nat):(List (Int×Int))×List (Int×Int)->Option Be|(e,c)=>Ad b (λ(a:List (Int×Int)×Nat) f=>iF ((a.2:Int)<c.length) (Ab (idx c a.2) λd=>Ab (jU b d.1) λg=>Ab (jU b d.2) λh=>Ah (FB a.1+1<=Aj)<|f ((a.1++[(g,h)]),a.2+1))<|some ((e,a.1))) (([],0))
def zL:=bQ [B295] Tryz.func132 [BJ,BJ] [BR] jT (la:=lk [(3,⟨[.Ae BJ, .nat],(kp [4,5,10,11] [(12, .AB 1 301)]),[(1, .Af 24 [(1, .Al),(1, .AE 2)]),(0, .c 0),(2, .row 67 0)],3⟩)]) (pt:=lg [(2,[.Cn 5 1 67 Ew]),(7,[.NC 4 1])])
def QZ(a:Nat)(b:Be):Option Be:=Ab (jX a b) λc=>Ab (jV a b) λd=>Ab (jT a (c,d)) Ac
def kO:=bQ [zL,zO,zM] Tryz.func94 [BR] [BR] QZ
def jS(f:Nat):(List (Int×Int))×List (Int×Int)->Option Bool|(b,c)=>iF ((b.length:Int)≠c.length) (Ac Ak)<|Ad f (λ(a:Nat) g=>iF ((a:Int)<b.length) (Ab (idx b a) λd=>Ab (idx c a) λe=>iB (!decide (d.1::[d.2]=e.1::[e.2])) (Ac Ak)<|g (a+1))<|some Br) (0)
def B298:=bQ [] Tryz.func131 [BJ,BJ] [.bool] jS (la:=lk [(4,⟨[.nat],(kp [0,1,12] [(13, .AB 0 400)]),[],0⟩)])
def tv(a:Nat):Be×Be->Option Bool|(b,c)=>Ab (jS a (b.1,c.1)) λd=>iB d (Ab (jS a (b.2,c.2)) Ac)<|some Ak
def B299:=bQ [B298] Tryz.func93 [BR,BR] [.bool] tv
def tu(a:Nat)(b:Be):Option Bool:=Ab (QZ a b) λc=>Ab (tv a (b,c)) Ac
def B300:=bQ [B299,kO] Tryz.func64 [BR] [.bool] tu
def NW(a:Nat)(b:Ff):Option Bool:=Ab (tu a b.2.2.2.1) λc=>iB c (Ab (yB a b.2.2.2.2) Ac)<|some Ak
def kN:=bQ [B300,B22] Tryz.func39 [y8] [.bool] NW
def YB(b:Nat)(a:Ff):Option Ff:=Ab (NW b a) λc=>iB (!c) (Ac ((Ak,Ak,Ak,([],[]),[])))<|some a
def zK:=bQ [kN] Tryz.func66 [y8] [y8] YB
def jQ(b:Nat)(c:Be):Option Bool:=Ab (QZ b c) λa=>iF ((a.1.length:Int)=0) (Ac (Ds ((a.2.length:Int)=0)))<|some Ak
def B303:=bQ [kO] Tryz.func67 [BR] [.bool] jQ
def dY(b:Nat)(c:Ff):Option Bool:=Ab (YB b c) λa=>iB (!a.1) (iB (!a.2.1) (iB (!a.2.2.1) (Ab (jQ b a.2.2.2.1) λd=>iB d (Ac (Ds ((a.2.2.2.2.length:Int)=0)))<|some Ak)<|some Ak)<|some Ak)<|some Ak
def zJ:=bQ [zK,B303] Tryz.func40 [y8] [.bool] dY
def jP(b:Nat)(a:Vl):Option Bool:=iB (!Vl.any a) (Ab (NW b (Vl.sc a)) λc=>iB (!c) (iF (((Vl.lists a).length:Int)=0) (Ac (Ds (((Vl.structs a).length:Int)=0)))<|some Ak)<|Ab (dY b (Vl.sc a)) λd=>iB d (iF (((Vl.lists a).length:Int)=0) (Ac (Ds (((Vl.structs a).length:Int)=0)))<|some Ak)<|some Ak)<|some Ak
def zI:=bQ [kN,zJ] Tryz.func18 [Ba] [.bool] jP
abbrev n6:Type:=EM 42 [A_] [.bool]×EM 20 [Ba] [.bool]
def s6(n:Nat):n6:=Nat.rec (motive:=λ_=>n6) (tQ Tryz.func42,tQ Tryz.func20) (λfu ⟨g0,g1⟩=>(sQ [BI g1] fu Tryz.func42 [A_] [.bool],sQ (BI g0::bs [kR,B80] fu) fu Tryz.func20 [Ba] [.bool] (la:=lk [(3,⟨[.nat],(kp [1,3,15,16] [(17, .AB 0 300)]),[(0, .c 0)],1⟩),(6,⟨[.nat],(kp [1,3,15,16,17,26,27] [(28, .AB 0 600)]),[(0, .c 0)],3⟩),(13,⟨[.nat],(kp [3,39,40] [(41, .AB 0 1300)]),[],1⟩),(16,⟨[.nat],(kp [3,9,39,40,41,46,47] [(48, .AB 0 1600)]),[(1, .c 0)],2⟩),(22,⟨[.nat],(kp [3,39,40,41,59,60] [(61, .AB 0 2200)]),[],2⟩)]))) n
abbrev yh(fu:Nat)(x:AH):Option Bool:=(s6 fu).1.1 x
def zH(fu:Nat):=BI (s6 fu).2
abbrev yj(fu:Nat)(x:Vl):Option Bool:=(s6 fu).2.1 x
def DCv(a:Nat)(b:AH):Option Bool:=Ab (yj a b.1) λc=>iB c (Ab (yj a b.2) Ac)<|some Ak
theorem dCv(fu x0):yh (fu+1) x0=DCv fu x0:=by kernel_rfl
def DCc(a:Nat)(b:Vl):Option Bool:=Ad a (λ(d:Nat) l=>iF ((d:Int)<(Vl.lists b).length) (Ab (idx (Vl.lists b) (d:Int)) λi=>Ab (ta a [i.1,i.2]) λj=>Ad a (λ(e:Nat) m=>iF ((e:Int)<j.length) (Ab (idx j e) λn=>Ab (yh a n) λo=>iB (!o) (Ac Ak)<|m (e+1))<|l (d+1)) (0))<|Ad a (λ(f:Nat) p=>iF ((f:Int)<(Vl.structs b).length) (Ab (idx (Vl.structs b) (f:Int)) λc=>Ad a (λ(g:Nat) q=>iF ((g:Int)<c.1.length) (Ab (idx c.1 g) λr=>Ab (yh a r.2.2) λs=>iB (!s) (Ac Ak)<|q (g+1))<|Ad a (λ(h:Nat) t=>iF ((h:Int)<c.2.length) (Ab (idx c.2 h) λk=>Ab (U' a k.2) λu=>iB u (Ac Ak)<|Ab (yh a k.2) λv=>iB (!v) (Ac Ak)<|t (h+1))<|p (f+1)) (0)) (0))<|some Br) (0)) (0)
theorem dCc(fu x0):yj (fu+1) x0=DCc fu x0:=by kernel_rfl
def FCd(b:Nat)(a:Vl):Option Bool:=Ab (j0 b a) λc=>iB c (iB (!Vl.any a) (Ab (yj b a) Ac)<|some Ak)<|some Ak
def B308:=bQ [B253,zH] Tryz.func6 [Ba] [.bool] FCd
def jZ(b:Nat)(a:Vl):Option Bool:=iB (!(Vl.sc a).1) (iB (!(Vl.sc a).2.1) (iB (!(Vl.sc a).2.2.1) (iF ((((Vl.sc a).2.2.2.1.1).length:Int)=0) (iF ((((Vl.sc a).2.2.2.1.2).length:Int)=0) (iF ((((Vl.sc a).2.2.2.2).length:Int)=0) (iF (((Vl.lists a).length:Int)=0) (Ac (Ds (((Vl.structs a).length:Int)=0)))<|some Ak)<|some Ak)<|some Ak)<|some Ak)<|some Ak)<|some Ak)<|some Ak
def B310:=bQ [] Tryz.func142 [Ba] [.bool] jZ
def eb(d:Nat)(b:List (Ay×Int×AH)):Option Bool:=Ad d (λ(a:Nat) c=>iF ((a:Int)<b.length) (Ab (idx b a) λe=>iF (e.2.1≠1) (Ab (idx b a) λf=>iF (f.2.1≠2) (Ac Ak)<|iF ((0:Int)<a) (Aa .i64 ((a:Int)-1)<|Ab (idx b ((a:Int)-1)) λg=>Ab (idx b a) λh=>iB (!Go.Op.bytesLess g.1 h.1) (Ac Ak)<|c (a+1))<|c (a+1))<|iF ((0:Int)<a) (Aa .i64 ((a:Int)-1)<|Ab (idx b ((a:Int)-1)) λi=>Ab (idx b a) λj=>iB (!Go.Op.bytesLess i.1 j.1) (Ac Ak)<|c (a+1))<|c (a+1))<|some Br) (0)
def B311:=bQ [] Tryz.func143 [Ke] [.bool] eb (la:=lk [(2,⟨[.nat],[(0, .Al),(3, .AB 0 200)],[],0⟩)])
def tt(c:Nat):List Int×List Int->Option Bool|(b,d)=>Ad c (λ(a:Nat) e=>iF ((a:Int)<b.length) (Ab (idx b a) λf=>Ab (idx d a) λg=>iF (f≠g) (Ac Ak)<|e (a+1))<|some Br) (0)
def B312:=bQ [] Tryz.func306 [FP,FP] [.bool] tt (la:=lk [(2,⟨[.nat],(kp [0,1] [(5, .AB 0 200)]),[],0⟩)])
def tq(b:Nat):List (List Int)×List Int->Option Bool|(c,d)=>Ad b (λ(a:Nat) e=>iF ((a:Int)<c.length) (Ab (idx c a) λf=>Ab (tt b (f,d)) λg=>iB g (Ac Br)<|e (a+1))<|some Ak) (0)
def B313:=bQ [B312] Tryz.func248 [Kd,FP] [.bool] tq (la:=lk [(2,⟨[.nat],(kp [0,1] [(5, .AB 0 200)]),[],0⟩)])
def tp(d:Nat)(g:List A4):Option Bool:=Ad d (λ(e:List Int×Nat) i=>iF ((e.2:Int)<g.length) (Ab (idx g e.2) λk=>iF ((k.length:Int)=0) (Ah (FB e.1+1<=Aj)<|i ((e.1++[(-1:Int)]),e.2+1))<|Ah (FB e.1+1<=Aj)<|i ((e.1++[(0:Int)]),e.2+1))<|Ad d (λ(c:List (List Int)×Nat) l=>iF ((c.2:Int)<c.1.length) (Ad d (λ(b:Int×Nat) h=>iF ((b.2:Int)<g.length) (Ab (idx c.1 c.2) λm=>Ab (idx m b.2) λn=>iF ((0:Int)<=n) (Ab (idx g b.2) λo=>Ab (idx c.1 c.2) λp=>Ab (idx p b.2) λq=>Ab (idx o q) λr=>iB r.1 (Aa .i64 (b.1+1)<|h ((b.1+1),b.2+1))<|h (b.1,b.2+1))<|h (b.1,b.2+1))<|iF (b.1≠1) (Ac Ak)<|Ad d (λ(a:List (List Int)×Int) j=>iF (a.2<256) (Ad d (λ(f:List Int×Nat) s=>iF ((f.2:Int)<g.length) (Ab (idx g f.2) λt=>Ab (idx a.1 c.2) λu=>Ab (idx u f.2) λv=>Aa .u8 a.2<|Ab (uL d (t,v,a.2)) λw=>Ah (FB f.1+1<=Aj)<|s ((f.1++[w]),f.2+1))<|Ab (tq d (a.1,f.1)) λx=>iB (!x) (Ah (FB a.1+1<=Aj)<|Ab (idx (a.1++[f.1]) (c.2:Int)) λy=>Ab (oj d (g,y,a.2)) λz=>j ((a.1++[f.1]),z))<|Ab (idx a.1 c.2) λA=>Ab (oj d (g,A,a.2)) λB=>j ((a.1,B))) (([],0)))<|l ((a.1,c.2+1))) ((c.1,0))) ((0,0)))<|some Br) (([e.1],0))) (([],0))
def B314:=bQ [B15,B27,B313] Tryz.func192 [(.sl y3)] [.bool] tp (la:=lk [(3,⟨[.Ae Ej, .nat],[(0, .Al),(3, .AE 0),(4, .AB 1 301)],[(0, .row 3 0)],1⟩),(10,⟨[.Ae Kd, .nat],[(0, .Al),(5, .AE 1),(6, .AB 1 1001)],[(1, .row 135 0)],2⟩),(14,⟨[.Ae Am, .nat],(kp [0,5,6] [(7, .v 0 Am),(8, .AB 1 1401)]),[(1, .c 0)],2⟩),(21,⟨[.Ae Kd, .Ae Am],[(0, .Al),(5, .AE 1),(6, .Al),(9, .v 1 Am)],[(1, .row 135 0)],2⟩),(25,⟨[.Ae Ej, .nat],(kp [0,5,6,9] [(10, .AE 2),(11, .AB 1 2501)]),[(1, .c 0),(2, .row 3 0)],3⟩)]) (pr:=lg [(8,[.fz 3]),(29,[.fz 10])]) (pt:=lg [(2,[.own 3 3 Am]),(24,[.own 10 3 Am])])
def d_(c:Nat)(d:BE):Option Bool:=Ad c (λ(a:List A4×Nat) f=>iF ((a.2:Int)<d.2.length) (Ab (idx d.2 a.2) λe=>Ab (yB c e.1) λg=>iB (!g) (Ac Ak)<|iF ((e.1.length:Int)=0) (Ac Ak)<|Ah (FB a.1+1<=Aj)<|f ((a.1++[e.1]),a.2+1))<|Ad c (λ(b:List A4×Nat) h=>iF ((b.2:Int)<d.1.length) (Ab (idx d.1 b.2) λi=>Ab (F7 c i.1) λj=>Ah (FB b.1+1<=Aj)<|h ((b.1++[j]),b.2+1))<|Ab (tp c b.1) Ac) ((a.1,0))) (([],0))
def B315:=bQ [B8,B22,B314] Tryz.func144 [BL] [.bool] d_ (la:=lk [(3,⟨[.Ae (.sl y3), .nat],[(1, .Al),(3, .AE 1),(4, .AB 1 301)],[(0, .c 0),(1, .row 27 0)],2⟩),(10,⟨[.Ae (.sl y3), .nat],[(1, .Al),(3, .AE 1),(6, .AB 1 1001)],[(1, .row 27 0),(0, .c 0)],2⟩)]) (pt:=lg [(2,[.own 3 27 y3])])
def dZ(b:Nat)(a:BT):Option (List AH):=Ah (0+FB a.1<=4294967296)<|Ah (FB ([]++a.1)+FB a.2<=4294967296)<|some (([]++a.1)++a.2)
def B316:=bQ [] Tryz.func79 [BW] [Cz] dZ (pt:=lg [(3,[.fz 2])])
def YD(c:Nat)(d:Vl):Option (List AH):=Ad c (λ(a:List AH×Nat) g=>iF ((a.2:Int)<(Vl.lists d).length) (Ab (idx (Vl.lists d) (a.2:Int)) λh=>Ab (dZ c h) λe=>Ah (FB a.1+FB e<=4294967296)<|g ((a.1++e),a.2+1))<|Ad c (λ(b:List AH×Nat) i=>iF ((b.2:Int)<(Vl.structs d).length) (Ab (idx (Vl.structs d) (b.2:Int)) λj=>Ab (jR c j) λf=>Ah (FB b.1+FB f<=4294967296)<|i ((b.1++f),b.2+1))<|some b.1) ((a.1,0))) (([],0))
def zG:=bQ [B316,zR] Tryz.func46 [Ba] [Cz] YD (la:=lk [(3,⟨[.Ae Cz, .nat],[(1, .Al),(3, .AE 1),(4, .AB 1 301)],[(0, .c 0),(1, .row 38 0)],2⟩),(7,⟨[.Ae Cz, .nat],[(1, .Al),(3, .AE 1),(5, .AB 1 701)],[(1, .row 38 0),(0, .c 0)],2⟩)]) (pt:=lg [(2,[.own 3 38 A_]),(10,[.fz 2])])
abbrev n5:Type:=EM 97 [Ba,Am] [.bool]
def yd(n:Nat):n5:=Nat.rec (motive:=λ_=>n5) (tQ Tryz.func97) (λfu g0=>sQ (BI g0::bs [kN,zG,B310,B311,B315] fu) fu Tryz.func97 [Ba,Am] [.bool] (la:=lk [(4,⟨[.nat],(kp [1,2] [(5, .AB 0 400)]),[(0, .c 0)],1⟩),(9,⟨[.nat],(kp [1,2] [(6, .AB 0 900)]),[(0, .c 0)],1⟩),(15,⟨[.nat],(kp [1,7] [(8, .AB 0 1500)]),[],1⟩)])) n
def B318(fu:Nat):=BI (yd fu)
abbrev NV(fu:Nat)(x:(Vl)×(Int)):Option Bool:=(yd fu).1 x
def D289(a:Nat)(b:Vl)(c:Int):Option Bool:=iF ((16:Int)<c) (Ac Ak)<|iB (Vl.any b) (Ab (jZ a b) λl=>iB (!l) (Ac Ak)<|Ab (NW a (Vl.sc b)) λm=>iB (!m) (Ac Ak)<|Ad a (λ(h:Nat) n=>iF ((h:Int)<(Vl.lists b).length) (Ab (idx (Vl.lists b) (h:Int)) λo=>iF ((1:Int)<o.2.length) (Ac Ak)<|n (h+1))<|Ad a (λ(d:Nat) p=>iF ((d:Int)<(Vl.structs b).length) (Ab (idx (Vl.structs b) (d:Int)) λq=>Ab (eb a q.1) λr=>iB (!r) (Ac Ak)<|Ab (idx (Vl.structs b) (d:Int)) λs=>Ab (d_ a s) λt=>iB (!t) (Ac Ak)<|p (d+1))<|Ab (YD a b) λi=>Ad a (λ(e:Nat) u=>iF ((e:Int)<i.length) (Ab (idx i e) λv=>Aa .i64 (c+1)<|Ab (NV a (v.1,(c+1))) λw=>iB (!w) (Ac Ak)<|Ab (idx i e) λx=>Aa .i64 (c+1)<|Ab (NV a (x.2,(c+1))) λy=>iB (!y) (Ac Ak)<|u (e+1))<|some Br) (0)) (0)) (0))<|Ab (NW a (Vl.sc b)) λz=>iB (!z) (Ac Ak)<|Ad a (λ(j:Nat) A=>iF ((j:Int)<(Vl.lists b).length) (Ab (idx (Vl.lists b) (j:Int)) λB=>iF ((1:Int)<B.2.length) (Ac Ak)<|A (j+1))<|Ad a (λ(f:Nat) E=>iF ((f:Int)<(Vl.structs b).length) (Ab (idx (Vl.structs b) (f:Int)) λG=>Ab (eb a G.1) λH=>iB (!H) (Ac Ak)<|Ab (idx (Vl.structs b) (f:Int)) λI=>Ab (d_ a I) λJ=>iB (!J) (Ac Ak)<|E (f+1))<|Ab (YD a b) λk=>Ad a (λ(g:Nat) K=>iF ((g:Int)<k.length) (Ab (idx k g) λL=>Aa .i64 (c+1)<|Ab (NV a (L.1,(c+1))) λM=>iB (!M) (Ac Ak)<|Ab (idx k g) λO=>Aa .i64 (c+1)<|Ab (NV a (O.2,(c+1))) λQ=>iB (!Q) (Ac Ak)<|K (g+1))<|some Br) (0)) (0)) (0)
theorem d289(fu x0 x1):NV (fu+1) (x0,x1)=D289 fu x0 x1:=by kernel_rfl
def TH(a:Nat)(b:Vl):Option Bool:=Ab (NV a (b,1)) Ac
def zF:=bQ [B318] Tryz.func70 [Ba] [.bool] TH
def YC(a:Nat)(b:AH):Option Bool:=Ab (TH a b.1) λc=>iB c (Ab (TH a b.2) Ac)<|some Ak
def zE:=bQ [zF] Tryz.func44 [A_] [.bool] YC
def YA(a:Nat)(b:Vl):Option Bool:=Ab (jP a b) Ac
def zD:=bQ [zI] Tryz.func98 [Ba] [.bool] YA
def jO(f:Nat):(List (Int×Int))×Int×Int->Option (List (Int×Int))|(c,g,d)=>Ad f (λ(a:List (Int×Int)×Int×Nat) e=>iF ((a.2.2:Int)<c.length) (Ab (idx c a.2.2) λb=>iF (a.2.1<b.1) (Aa .i64 (b.1-1)<|Ah (FB a.1+1<=Aj)<|Aa .i64 (b.2+1)<|e ((a.1++[(a.2.1,(b.1-1))]),(b.2+1),a.2.2+1))<|Aa .i64 (b.2+1)<|e (a.1,(b.2+1),a.2.2+1))<|iF (a.2.1<=d) (Ah (FB a.1+1<=Aj)<|some ((a.1++[(a.2.1,d)])))<|some a.1) (([],g,0))
def B322:=bQ [] Tryz.func309 [BJ,Am,Am] [BJ] jO (la:=lk [(3,⟨[.Ae BJ, .Ae Am, .nat],[(1, .v 1 Am),(2, .Al),(7, .AE 0),(10, .Al),(11, .Al),(12, .AB 2 302)],[(0, .row 67 0)],1⟩)]) (pt:=lg [(2,[.own 7 67 Ew]),(11,[.fz 6])])
def TG(a:Nat)(b:Be):Option Be:=Ab (jX a b) λc=>Ab (jO a (c,(-100000000000:Int),100000000000)) λd=>Ab (jV a b) λe=>Ab (jO a (e,(-999900000000000:Int),999899999999999)) λf=>Ab (jT a (d,f)) Ac
def zC:=bQ [zL,zO,zM,B322] Tryz.func257 [BR] [BR] TG
def jN(c:Nat):Be×Be->Option Be|(a,b)=>Ah (0+FB a.1<=Aj)<|Ah (FB ([]++a.1)+FB b.1<=Aj)<|Ah (0+FB a.2<=Aj)<|Ah (FB ([]++a.2)+FB b.2<=Aj)<|Ab (QZ c ((([]++a.1)++b.1),(([]++a.2)++b.2))) Ac
def zB:=bQ [kO] Tryz.func250 [BR,BR] [BR] jN (pr:=lg [(6,[.fz 16, .fz 28])])
def tj(a:Nat):Be×Be->Option Be|(b,c)=>Ab (TG a b) λd=>Ab (TG a c) λe=>Ab (jN a (d,e)) λf=>Ab (TG a f) Ac
def B325:=bQ [zB,zC] Tryz.func256 [BR,BR] [BR] tj
def KT(a:Nat):Be×Be->Option Be|(b,c)=>Ab (TG a c) λd=>Ab (tj a (b,d)) Ac
def zA:=bQ [B325,zC] Tryz.func199 [BR,BR] [BR] KT
def jM(c:Nat):Ff×Ff->Option Ff|(d,e)=>Ab (YB c d) λb=>Ab (YB c e) λa=>iB b.1 (iB b.2.1 (iB b.2.2.1 (Ab (KT c (b.2.2.2.1,a.2.2.2.1)) λf=>Ab (W0 c (b.2.2.2.2,a.2.2.2.2)) λg=>Ac (((!a.1),(!a.2.1),(!a.2.2.1),f,g)))<|Ab (KT c (b.2.2.2.1,a.2.2.2.1)) λh=>Ab (W0 c (b.2.2.2.2,a.2.2.2.2)) λi=>Ac (((!a.1),(!a.2.1),Ak,h,i)))<|iB b.2.2.1 (Ab (KT c (b.2.2.2.1,a.2.2.2.1)) λj=>Ab (W0 c (b.2.2.2.2,a.2.2.2.2)) λk=>Ac (((!a.1),Ak,(!a.2.2.1),j,k)))<|Ab (KT c (b.2.2.2.1,a.2.2.2.1)) λl=>Ab (W0 c (b.2.2.2.2,a.2.2.2.2)) λm=>Ac (((!a.1),Ak,Ak,l,m)))<|iB b.2.1 (iB b.2.2.1 (Ab (KT c (b.2.2.2.1,a.2.2.2.1)) λn=>Ab (W0 c (b.2.2.2.2,a.2.2.2.2)) λo=>Ac ((Ak,(!a.2.1),(!a.2.2.1),n,o)))<|Ab (KT c (b.2.2.2.1,a.2.2.2.1)) λp=>Ab (W0 c (b.2.2.2.2,a.2.2.2.2)) λq=>Ac ((Ak,(!a.2.1),Ak,p,q)))<|iB b.2.2.1 (Ab (KT c (b.2.2.2.1,a.2.2.2.1)) λr=>Ab (W0 c (b.2.2.2.2,a.2.2.2.2)) λs=>Ac ((Ak,Ak,(!a.2.2.1),r,s)))<|Ab (KT c (b.2.2.2.1,a.2.2.2.1)) λt=>Ab (W0 c (b.2.2.2.2,a.2.2.2.2)) λu=>Ac (Ak,Ak,Ak,t,u)
def B327:=bQ [B31,zK,zA] Tryz.func152 [y8,y8] [y8] jM
def dX(a:Nat):Ff×Ff->Option Bool|(b,c)=>Ab (jM a (b,c)) λd=>Ab (dY a d) Ac
def zy:=bQ [zJ,B327] Tryz.func109 [y8,y8] [.bool] dX
def Yz(e:Nat):BT×Int->Option (AH×Bool)|(a,b)=>iF (b<0) (Ac (((Vl.mk Ak (Ak,Ak,Ak,([],[]),[]) [] [],Vl.mk Ak (Ak,Ak,Ak,([],[]),[]) [] []),Ak)))<|iF (b<(a.1.length:Int)) (Ab (idx a.1 b) λc=>Ac ((c,Br)))<|iF ((0:Int)<a.2.length) (Ab (idx a.2 0) λd=>Ac ((d,Br)))<|some ((Vl.mk Ak (Ak,Ak,Ak,([],[]),[]) [] [],Vl.mk Ak (Ak,Ak,Ak,([],[]),[]) [] []),Ak)
def B329:=bQ [] Tryz.func101 [BW,Am] [A_, .bool] Yz
def jL(a:Nat):A4×A4->Option A4|(b,c)=>Ab (F29 a (b,c,38)) Ac
def B330:=bQ [B30] Tryz.func108 [y3,y3] [y3] jL
def ti(b:Nat)(a:A4):Option Bool:=Ac (Ds ((a.length:Int)=0))
def B331:=bQ [] Tryz.func107 [y3] [.bool] ti
abbrev nZ:Type:=EM 102 [A_,A_] [.bool]×EM 74 [BW,BW] [.bool]×EM 106 [BL,BL, .str] [.bool]×EM 77 [BL,BL] [.bool]×EM 145 [Ba,Ba] [.bool]
def TB(n:Nat):nZ:=Nat.rec (motive:=λ_=>nZ) (tQ Tryz.func102,tQ Tryz.func74,tQ Tryz.func106,tQ Tryz.func77,tQ Tryz.func145) (λfu ⟨g0,g1,g2,g3,g4⟩=>(sQ [BI g4] fu Tryz.func102 [A_,A_] [.bool],sQ (BI g0::bs [B329] fu) fu Tryz.func74 [BW,BW] [.bool] (la:=lk [(4,⟨[.nat],(kp [2,3] [(5, .AB 0 400)]),[(1, .c 0),(0, .c 0)],2⟩)]),sQ (BI g0::bs [zQ] fu) fu Tryz.func106 [BL,BL, .str] [.bool],sQ (BI g0::BI g2::bs [B331,B330] fu) fu Tryz.func77 [BL,BL] [.bool] (la:=lk [(2,⟨[.nat],(kp [2,3] [(5, .AB 0 200)]),[(1, .c 0),(0, .c 0)],2⟩),(7,⟨[.nat],(kp [2,3] [(6, .AB 0 700)]),[(1, .c 0),(0, .c 0)],2⟩),(12,⟨[.nat],(kp [2,3] [(7, .AB 0 1200)]),[(1, .c 0),(0, .c 0)],2⟩),(15,⟨[.nat],(kp [2,3,7] [(8, .AB 0 1500)]),[(1, .c 0),(0, .c 0)],2⟩)]),sQ (BI g1::BI g3::bs [zy] fu) fu Tryz.func145 [Ba,Ba] [.bool] (la:=lk [(6,⟨[.nat],(kp [2,3] [(5, .AB 0 600)]),[(1, .c 0),(0, .c 0)],2⟩),(10,⟨[.Ae .bool, .nat],(kp [2,3,5] [(6, .v 0 .bool),(7, .AB 1 1001)]),[(1, .c 0),(0, .c 0)],2⟩),(16,⟨[.nat],(kp [2,3] [(8, .AB 0 1600)]),[(1, .c 0),(0, .c 0)],2⟩),(20,⟨[.Ae .bool, .nat],(kp [2,3,8] [(9, .v 0 .bool),(10, .AB 1 2001)]),[(1, .c 0),(0, .c 0)],2⟩)]))) n
abbrev Nw(fu:Nat)(x:AH×AH):Option Bool:=(TB fu).1.1 x
def B333(fu:Nat):=BI (TB fu).2.1
abbrev TF(fu:Nat)(x:BT×BT):Option Bool:=(TB fu).2.1.1 x
abbrev dU(fu:Nat)(x:BE×BE×Ay):Option Bool:=(TB fu).2.2.1.1 x
def B335(fu:Nat):=BI (TB fu).2.2.2.1
abbrev TE(fu:Nat)(x:BE×BE):Option Bool:=(TB fu).2.2.2.1.1 x
def B336(fu:Nat):=BI (TB fu).2.2.2.2
abbrev TD(fu:Nat)(x:(Vl)×(Vl)):Option Bool:=(TB fu).2.2.2.2.1 x
def zb(a:Nat)(b:AH)(c:AH):Option Bool:=Ab (TD a (b.1,c.1)) λd=>iB d (Ab (TD a (b.2,c.2)) Ac)<|some Ak
theorem d309(fu x0 x1):Nw (fu+1) (x0,x1)=zb fu x0 x1:=by kernel_rfl
def za(b:Nat)(a:BT)(c:BT):Option Bool:=iF ((a.1.length:Int)<c.1.length) (Ac Ak)<|iF ((c.2.length:Int)=0) (iF ((c.1.length:Int)<a.1.length) (Ac Ak)<|iF ((0:Int)<a.2.length) (Ac Ak)<|Ad b (λ(d:Nat) f=>iF ((d:Int)<a.1.length) (Ab (Yz b (c,(d:Int))) λg=>Ab (idx a.1 d) λh=>Ab (Nw b (h,g.1)) λi=>iB (!i) (Ac Ak)<|f (d+1))<|iF ((a.2.length:Int)=0) (Ac Br)<|Ab (idx a.2 0) λj=>Ab (idx c.2 0) λk=>Ab (Nw b (j,k)) Ac) (0))<|Ad b (λ(e:Nat) m=>iF ((e:Int)<a.1.length) (Ab (Yz b (c,(e:Int))) λn=>Ab (idx a.1 e) λo=>Ab (Nw b (o,n.1)) λp=>iB (!p) (Ac Ak)<|m (e+1))<|iF ((a.2.length:Int)=0) (Ac Br)<|Ab (idx a.2 0) λq=>Ab (idx c.2 0) λr=>Ab (Nw b (q,r)) Ac) (0)
theorem d310(fu x0 x1):TF (fu+1) (x0,x1)=za fu x0 x1:=by kernel_rfl
def y_(a:Nat)(e:BE)(f:BE)(b:Ay):Option Bool:=Ab (dV a (e,b)) λc=>Ab (dV a (f,b)) λd=>iF (c.2<=d.2) (Ab (Nw a (c.1,d.1)) Ac)<|some Ak
theorem d311(fu x0 x1 x2):dU (fu+1) (x0,x1,x2)=y_ fu x0 x1 x2:=by kernel_rfl
def yZ(a:Nat)(b:BE)(c:BE):Option Bool:=Ad a (λ(f:Nat) i=>iF ((f:Int)<b.1.length) (Ab (idx b.1 f) λj=>Ab (dU a (b,c,j.1)) λk=>iB (!k) (Ac Ak)<|i (f+1))<|Ad a (λ(g:Nat) l=>iF ((g:Int)<c.1.length) (Ab (idx c.1 g) λm=>Ab (dU a (b,c,m.1)) λn=>iB (!n) (Ac Ak)<|l (g+1))<|Ad a (λ(e:Nat) o=>iF ((e:Int)<b.2.length) (Ad a (λ(d:Nat) h=>iF ((d:Int)<c.2.length) (Ab (idx b.2 e) λp=>Ab (idx c.2 d) λq=>Ab (jL a (p.1,q.1)) λr=>Ab (ti a r) λs=>iB (!s) (Ab (idx b.2 e) λt=>Ab (idx c.2 d) λu=>Ab (Nw a (t.2,u.2)) λv=>iB (!v) (Ac Ak)<|h (d+1))<|h (d+1))<|o (e+1)) (0))<|some Br) (0)) (0)) (0)
theorem d312(fu x0 x1):TE (fu+1) (x0,x1)=yZ fu x0 x1:=by kernel_rfl
def yY(b:Nat)(c:Vl)(a:Vl):Option Bool:=iB (Vl.any c) (Ac (Vl.any a))<|iB (Vl.any a) (Ac (Vl.any a))<|Ab (dX b (Vl.sc c,Vl.sc a)) λj=>iB (!j) (Ac Ak)<|Ad b (λ(f:Nat) h=>iF ((f:Int)<(Vl.lists c).length) (Ad b (λ(d:Bool×Nat) k=>iF ((d.2:Int)<(Vl.lists a).length) (iB (!d.1) (Ab (idx (Vl.lists c) (f:Int)) λl=>Ab (idx (Vl.lists a) (d.2:Int)) λm=>Ab (TF b (l,m)) λn=>k (n,d.2+1))<|iB (!d.1) (Ac Ak)<|h (f+1))<|iB (!d.1) (Ac Ak)<|h (f+1)) ((Ak,0)))<|Ad b (λ(g:Nat) i=>iF ((g:Int)<(Vl.structs c).length) (Ad b (λ(e:Bool×Nat) o=>iF ((e.2:Int)<(Vl.structs a).length) (iB (!e.1) (Ab (idx (Vl.structs c) (g:Int)) λp=>Ab (idx (Vl.structs a) (e.2:Int)) λq=>Ab (TE b (p,q)) λr=>o (r,e.2+1))<|iB (!e.1) (Ac Ak)<|i (g+1))<|iB (!e.1) (Ac Ak)<|i (g+1)) ((Ak,0)))<|some Br) (0)) (0)
theorem d313(fu x0 x1):TD (fu+1) (x0,x1)=yY fu x0 x1:=by kernel_rfl
def jK(b:Nat)(a:BT):Option Vl:=Ac (Vl.mk Ak (Ak,Ak,Ak,([],[]),[]) [a] [])
def B337:=bQ [] Tryz.func73 [BW] [Ba] jK (pt:=lg [(1,[.NC 2 7])])
def dT(c:Nat):Bool×Bool->Option Int|(a,b)=>iB (a==b) (Ac 0)<|iB a (Ac ((-1:Int)))<|some 1
def B338:=bQ [] Tryz.func193 [.bool, .bool] [Am] dT
def tg(c:Nat):Int×Int->Option Bool|(a,b)=>Aa .i64 ((0:Int)-a)<|Aa .i64 (if(0:Int)-a>a then(0:Int)-a else a)<|Aa .i64 ((0:Int)-b)<|Aa .i64 (if(0:Int)-b>b then(0:Int)-b else b)<|iF ((if(0:Int)-a>a then(0:Int)-a else a)<if(0:Int)-b>b then(0:Int)-b else b) (Ac Br)<|iF ((if(0:Int)-a>a then(0:Int)-a else a)=if(0:Int)-b>b then(0:Int)-b else b) (Ac (Ds (b<a)))<|some Ak
def B339:=bQ [] Tryz.func307 [Am,Am] [.bool] tg
def jJ(f:Nat)(l:Be):Option (Int×Bool):=Ab (QZ f l) λg=>Ad f (λ(e:List Int×Nat) k=>iF ((e.2:Int)<g.1.length) (Ab (idx g.1 e.2) λc=>iF (c.1<=0) (iF ((0:Int)<=c.2) (Ac ((0,Br)))<|Aa .i64 (c.1*10000)<|Aa .i64 (c.2*10000)<|Ah (FB e.1+2<=Aj)<|k ((e.1++[(c.1*10000),(c.2*10000)]),e.2+1))<|Aa .i64 (c.1*10000)<|Aa .i64 (c.2*10000)<|Ah (FB e.1+2<=Aj)<|k ((e.1++[(c.1*10000),(c.2*10000)]),e.2+1))<|Ad f (λ(a:List Int×Nat) h=>iF ((a.2:Int)<g.2.length) (Ab (idx g.2 a.2) λd=>Ah (FB a.1+2<=Aj)<|iF (d.1<0) (iF ((0:Int)<d.2) (Ah (FB (a.1++[d.1,d.2])+1<=Aj)<|h (((a.1++[d.1,d.2])++[(1:Int)]),a.2+1))<|h ((a.1++[d.1,d.2]),a.2+1))<|h ((a.1++[d.1,d.2]),a.2+1))<|Ad f (λ(b:Int×Bool×Nat) i=>iF ((b.2.2:Int)<a.1.length) (Ab (idx a.1 b.2.2) λj=>iB (!b.2.1) (i (j,Br,b.2.2+1))<|Ab (tg f (j,b.1)) λm=>iB m (i (j,Br,b.2.2+1))<|i (b.1,b.2.1,b.2.2+1))<|some ((b.1,b.2.1))) ((0,Ak,0))) ((e.1,0))) (([],0))
def B340:=bQ [kO,B339] Tryz.func249 [BR] [Am, .bool] jJ (la:=lk [(4,⟨[.Ae Ej, .nat],[(4, .Al),(5, .AE 2),(17, .Al),(18, .Al),(19, .AB 1 401)],[(1, .c 0),(2, .row 2 0)],3⟩),(11,⟨[.Ae Ej, .nat],[(5, .AE 2),(42, .Al),(43, .Al),(44, .AB 1 1101)],[(2, .row 2 0)],3⟩),(19,⟨[.Ae Am, .Ae .bool, .nat],[(10, .v 0 Am),(11, .v 1 .bool),(67, .Al),(68, .Al),(69, .AB 2 1902)],[(2, .c 0)],3⟩)]) (pt:=lg [(3,[.own 5 2 Am])])
def jI(b:Nat)(a:Int):Option Bool:=iF ((-1000000000000000:Int)<=a) (Ac (Ds (a<=1000000000000000)))<|some Ak
def B341:=bQ [] Tryz.func308 [Am] [.bool] jI
def tf(b:Nat):Be×Int->Option Bool|(c,a)=>Ab (jI b a) λj=>iB (!j) (Ac Ak)<|Ab (U_ b a) λk=>iB k (Ah ((10000:Int)≠0)<|Aa .i64 (iY a (10000:Int))<|Ad b (λ(d:Nat) f=>iF ((d:Int)<c.1.length) (Ab (idx c.1 d) λg=>iF (g.1<=iY a (10000:Int)) (iF (iY a (10000:Int)<=g.2) (Ac Br)<|f (d+1))<|f (d+1))<|some Ak) (0))<|Ad b (λ(e:Nat) h=>iF ((e:Int)<c.2.length) (Ab (idx c.2 e) λi=>iF (i.1<=a) (iF (a<=i.2) (Ac Br)<|h (e+1))<|h (e+1))<|some Ak) (0)
def B342:=bQ [zN,B341] Tryz.func251 [BR,Am] [.bool] tf (la:=lk [(7,⟨[.nat],(kp [6,21,22] [(23, .AB 0 700)]),[],1⟩)])
def U9(a:Nat):Be×Be->Option Int|(b,c)=>Ab (KT a (b,c)) λe=>Ab (KT a (c,b)) λf=>Ab (jN a (e,f)) λg=>Ab (jJ a g) λd=>iB (!d.2) (Ac 0)<|Ab (tf a (b,d.1)) λh=>iB h (Ac ((-1:Int)))<|some 1
def B343:=bQ [zA,B340,zB,B342] Tryz.func194 [BR,BR] [Am] U9
def jH(h:Nat):A4×Int->Option (List (List Bool))|(f,e)=>Ah (FB f<=Aj)<|Ad h (λ(a:List (Bool×List Bool)×Nat) p=>iF ((a.2:Int)<f.length) (Aa .i64 (e+1)<|Ah ((0:Int)<=e+1)<|Ah (ae (e+1)<=Aj)<|Ah ((0:Int)<=a.2/\(a.2:Int)<a.1.length)<|Ah (ae (a.2:Int)<FB a.1)<|Ah ((0:Int)<=a.2/\(a.2:Int)<((lh a.1 a.2 (Br,(T9 (ae (e+1)) Ak))).length:Int))<|Ab (idx (lh a.1 a.2 (Br,(T9 (ae (e+1)) Ak))) (a.2:Int)) λq=>Ah (q.1=Br)<|Ab (idx f a.2) λr=>Ab (idx (lh a.1 a.2 (Br,(T9 (ae (e+1)) Ak))) (a.2:Int)) λk=>Ah (k.1=Br/\(0:Int)<=0/\(0:Int)<k.2.length)<|Ab (idx (lh a.1 a.2 (Br,(T9 (ae (e+1)) Ak))) (a.2:Int)) λi=>Ah (i.1=Br/\ae (0:Int)<FB i.2)<|p (((lh a.1 a.2 (Br,(T9 (ae (e+1)) Ak))).set a.2 (Br,lh i.2 (ae (0:Int)) r.1)),a.2+1))<|Ad h (λ(c:List (Bool×List Bool)×Int) s=>iF (c.2<=e) (Ad h (λ(d:List (Bool×List Bool)×Nat) t=>iF ((d.2:Int)<f.length) (Ad h (λ(b:List (Bool×List Bool)×Nat) l=>Ab (idx f d.2) λu=>iF ((b.2:Int)<u.2.length) (Ab (idx f d.2) λv=>Ab (idx v.2 b.2) λg=>Ah ((0:Int)<=g.2.2/\g.2.2<(b.1.length:Int))<|Ab (idx b.1 (↑(ae g.2.2):Int)) λw=>Ah (w.1=Br)<|Aa .i64 (c.2-1)<|Ab (idx b.1 (↑(ae g.2.2):Int)) λm=>Ah (m.1=Br/\(0:Int)<=c.2-1/\c.2-1<m.2.length)<|Ab (idx b.1 (↑(ae g.2.2):Int)) λn=>Ah (n.1=Br)<|Ab (idx n.2 (↑(ae (c.2-1)):Int)) λy=>iB y (Ah ((0:Int)<=d.2/\(d.2:Int)<b.1.length)<|Ab (idx b.1 d.2) λz=>Ah (z.1=Br)<|Ab (idx b.1 d.2) λo=>Ah (o.1=Br/\(0:Int)<=c.2/\c.2<(o.2.length:Int))<|Ab (idx b.1 d.2) λj=>Ah (j.1=Br/\ae c.2<FB j.2)<|l ((b.1.set d.2 (Br,lh j.2 (ae c.2) Br)),b.2+1))<|l (b.1,b.2+1))<|t ((b.1,d.2+1))) ((d.1,0)))<|Aa .i64 (c.2+1)<|s ((d.1,(c.2+1)))) ((c.1,0)))<|Ah ((List.all c.1 λx=>x.1)=Br)<|some ((List.map (λx=>x.2) c.1))) ((a.1,(1:Int)))) (((T9 (FB (T9 (FB f) ([]:List Bool))) (Ak,[])),0))
def B344:=bQ [] Tryz.func254 [y3,Am] [vL] jH (la:=lk [(3,⟨[.Ae (.sl (.pr .bool Ek)), .nat],(kp [1,2,5] [(6, .AB 1 301)]),[(1, .Cr 148 4 3 0),(0, .c 0)],4⟩),(8,⟨[.Ae (.sl (.pr .bool Ek)), .Ae Am],(kp [1,2,5] [(7, .v 1 Am)]),[(1, .Cr 148 4 4 0),(0, .c 0)],5⟩),(11,⟨[.Ae (.sl (.pr .bool Ek)), .nat],(kp [1,2,5,7] [(8, .AB 1 1101)]),[(1, .Cr 148 4 5 0),(0, .c 0)],6⟩),(14,⟨[.Ae (.sl (.pr .bool Ek)), .nat],(kp [1,2,5,7,8] [(9, .AB 1 1401)]),[(1, .Cr 148 4 6 0),(0, .c 0)],7⟩)]) (pt:=lg [(1,[.fm 5 4]),(18,[.fz 4])])
abbrev nY:Type:=EM 255 [y3,vL,Am,Am,Am, .str] [Rb]
def yc(n:Nat):nY:=Nat.rec (motive:=λ_=>nY) (tQ Tryz.func255) (λfu g0=>sQ [BI g0] fu Tryz.func255 [y3,vL,Am,Am,Am, .str] [Rb] (la:=lk [(7,⟨[.Ae Rb, .nat],(kp [1,2,3,4,5,6] [(13, .AE 1),(14, .AB 1 701)]),[(0, .c 0),(1, .row 9 0)],2⟩),(11,⟨[.Ae Rb, .Ae Am],(kp [1,2,3,4,5,6] [(13, .AE 1),(14, .Al),(15, .Al),(16, .v 1 Am)]),[(2, .c 0),(1, .row 9 0),(0, .c 0)],3⟩)]) (pt:=lg [(4,[.fz 12]),(6,[.own 13 9 .str]),(14,[.fz 12])])) n
def B345(fu:Nat):=BI (yc fu)
abbrev Yy(fu:Nat)(x:A4×(List (List Bool))×(Int)×(Int)×(Int)×Ay):Option (List Ay):=(yc fu).1 x
def yX(e:Nat)(f:A4)(j:List (List Bool))(g:Int)(d:Int)(c:Int)(h:Ay):Option (List Ay):=Ab (idx j g) λm=>Ab (idx m d) λn=>iB (!n) (Ac [])<|iF (c<=0) (Ac [])<|iF (d=0) (Ac ([h]))<|Ad e (λ(b:List Ay×Nat) k=>Ab (idx f g) λo=>iF ((b.2:Int)<o.2.length) (iF ((b.1.length:Int)<c) (Ab (idx f g) λp=>Ab (idx p.2 b.2) λi=>Ad e (λ(a:List Ay×Int) q=>iF (a.2<=i.2.1) (iF ((a.1.length:Int)<c) (Aa .i64 (d-1)<|Aa .i64 (c-(a.1.length:Int))<|Aa .u8 a.2<|Ah (FB h+FB (UInt8.ofNat (ae a.2)::[])<=1099511627776)<|Ab (Yy e (f,j,i.2.2,(d-1),(c-(a.1.length:Int)),(h++(UInt8.ofNat (ae a.2)::[])))) λl=>Ah (FB a.1+FB l<=Aj)<|Aa .i64 (a.2+1)<|q ((a.1++l),(a.2+1)))<|k (a.1,b.2+1))<|k ((a.1,b.2+1))) ((b.1,i.1)))<|some b.1)<|some b.1) (([],0))
theorem d322(fu x0 x1 x2 x3 x4 x5):Yy (fu+1) (x0,x1,x2,x3,x4,x5)=yX fu x0 x1 x2 x3 x4 x5:=by kernel_rfl
def jG(d:Nat):A4×Int->Option (List Ay)|(f,a)=>Ab (yA d f) λc=>iF ((c.length:Int)=0) (Ac [])<|Aa .i64 (if(1000:Int)<a then(1000:Int)else a)<|Aa .i64 ((c.length:Int)+1)<|Aa .i64 (if(0:Int)>if(1000:Int)<a then(1000:Int)else a then(0:Int)else if(1000:Int)<a then(1000:Int)else a)<|Aa .i64 ((if(0:Int)>if(1000:Int)<a then(1000:Int)else a then(0:Int)else if(1000:Int)<a then(1000:Int)else a)+1)<|Aa .i64 (((c.length:Int)+1)*((if(0:Int)>if(1000:Int)<a then(1000:Int)else a then(0:Int)else if(1000:Int)<a then(1000:Int)else a)+1))<|Ab (jH d (c,(((c.length:Int)+1)*((if(0:Int)>if(1000:Int)<a then(1000:Int)else a then(0:Int)else if(1000:Int)<a then(1000:Int)else a)+1)))) λg=>Ad d (λ(b:List Ay×Int) h=>iF (b.2<=((c.length:Int)+1)*((if(0:Int)>if(1000:Int)<a then(1000:Int)else a then(0:Int)else if(1000:Int)<a then(1000:Int)else a)+1)) (iF ((b.1.length:Int)<if(1000:Int)<a then(1000:Int)else a) (Aa .i64 ((if(1000:Int)<a then(1000:Int)else a)-(b.1.length:Int))<|Ab (Yy d (c,g,0,b.2,((if(1000:Int)<a then(1000:Int)else a)-(b.1.length:Int)),[])) λe=>Ah (FB b.1+FB e<=Aj)<|Aa .i64 (b.2+1)<|h ((b.1++e),(b.2+1)))<|some b.1)<|some b.1) (([],0))
def B346:=bQ [B23,B344,B345] Tryz.func198 [y3,Am] [Rb] jG (la:=lk [(9,⟨[.Ae Rb, .Ae Am],(kp [5,6,7,8] [(9, .AE 2),(10, .v 1 Am)]),[(1, .c 0),(2, .row 9 0)],3⟩)]) (pt:=lg [(8,[.own 9 9 .str]),(12,[.fz 4])])
def Yx(b:Nat)(c:A4):Option (Ay×Bool):=Ab (jG b (c,1)) λa=>iF ((a.length:Int)=0) (Ac (([],Ak)))<|Ab (idx a 0) λd=>Ac (d,Br)
def zx:=bQ [B346] Tryz.func150 [y3] [.str, .bool] Yx
def dS(c:Nat):Ay×Ay->Option Int|(a,b)=>iF ((a.length:Int)≠b.length) (iF ((a.length:Int)<b.length) (Ac ((-1:Int)))<|some 1)<|iB (fX a b) (Ac ((-1:Int)))<|iB (!(fX a b||decide (a=b))) (Ac 1)<|some 0
def B348:=bQ [] Tryz.func252 [.str, .str] [Am] dS
def dR(a:Nat):A4×A4->Option Int|(d,e)=>Ab (W0 a (d,e)) λf=>Ab (Yx a f) λb=>Ab (W0 a (e,d)) λg=>Ab (Yx a g) λc=>iB (!b.2) (iB (!c.2) (Ac 0)<|iB b.2 (iB (!c.2) (Ac ((-1:Int)))<|Ab (dS a (b.1,c.1)) λh=>iF (h<0) (Ac ((-1:Int)))<|some 1)<|some 1)<|iB b.2 (iB (!c.2) (Ac ((-1:Int)))<|Ab (dS a (b.1,c.1)) λi=>iF (i<0) (Ac ((-1:Int)))<|some 1)<|some 1
def zw:=bQ [B31,zx,B348] Tryz.func195 [y3,y3] [Am] dR
def Yw(a:Nat):Ff×Ff->Option Int|(b,c)=>Ab (NW a b) λf=>iB (!f) (Ac 0)<|Ab (NW a c) λg=>iB (!g) (Ac 0)<|Ab (dT a (b.1,c.1)) λh=>Ab (dT a (b.2.1,c.2.1)) λi=>Ab (dT a (b.2.2.1,c.2.2.1)) λj=>Ab (U9 a (b.2.2.2.1,c.2.2.2.1)) λk=>Ab (dR a (b.2.2.2.2,c.2.2.2.2)) λl=>Ad a (λ(d:Nat) m=>iF ((d:Int)< ↑(5)) (Ab (idx [h,i,j,k,l] (d:Int)) λe=>iF (e≠0) (Ac e)<|m (d+1))<|some 0) (0)
def B350:=bQ [kN,B338,B343,zw] Tryz.func146 [y8,y8] [Am] Yw (la:=lk [(4,⟨[.nat],(kp [40,41] [(42, .AB 0 400)]),[(2, .c 0)],3⟩)])
def G3(c:Nat):Int×Int->Option Int|(a,b)=>iF (a<b) (Ac ((-1:Int)))<|iF (b<a) (Ac 1)<|some 0
def kM:=bQ [] Tryz.func148 [Am,Am] [Am] G3
def jF(c:Nat):Ay×Ay->Option Int|(a,b)=>iB (fX a b) (Ac ((-1:Int)))<|iB (!(fX a b||decide (a=b))) (Ac 1)<|some 0
def B352:=bQ [] Tryz.func253 [.str, .str] [Am] jF
abbrev nX:Type:=EM 151 [A_,A_] [Am]×EM 147 [BW,BW] [Am]×EM 196 [ED,ED] [Am]×EM 197 [E',E'] [Am]×EM 149 [BL,BL] [Am]×EM 100 [Ba,Ba] [Am]
def TA(n:Nat):nX:=Nat.rec (motive:=λ_=>nX) (tQ Tryz.func151,tQ Tryz.func147,tQ Tryz.func196,tQ Tryz.func197,tQ Tryz.func149,tQ Tryz.func100) (λfu ⟨g0,g1,g2,g3,g4,g5⟩=>(sQ [BI g5] fu Tryz.func151 [A_,A_] [Am],sQ (BI g0::bs [kM] fu) fu Tryz.func147 [BW,BW] [Am] (la:=lk [(6,⟨[.nat],(kp [2,3] [(5, .AB 0 600)]),[(1, .c 0),(0, .c 0)],2⟩),(12,⟨[.nat],(kp [2,3] [(7, .AB 0 1200)]),[(1, .c 0),(0, .c 0)],2⟩)]),sQ (BI g0::bs [kM,B352] fu) fu Tryz.func196 [ED,ED] [Am],sQ (BI g0::bs [zw] fu) fu Tryz.func197 [E',E'] [Am],sQ (BI g2::BI g3::bs [kM] fu) fu Tryz.func149 [BL,BL] [Am] (la:=lk [(2,⟨[.nat],(kp [2,3] [(5, .AB 0 200)]),[(1, .c 0),(0, .c 0)],2⟩),(10,⟨[.nat],(kp [2,3] [(7, .AB 0 1000)]),[(1, .c 0),(0, .c 0)],2⟩)]),sQ (BI g1::BI g4::bs [B350,kM] fu) fu Tryz.func100 [Ba,Ba] [Am] (la:=lk [(9,⟨[.nat],(kp [2,3] [(6, .AB 0 900)]),[(1, .c 0),(0, .c 0)],2⟩),(17,⟨[.nat],(kp [2,3] [(8, .AB 0 1700)]),[(1, .c 0),(0, .c 0)],2⟩)]))) n
def B353(fu:Nat):=BI (TA fu).1
abbrev QY(fu:Nat)(x:AH×AH):Option Int:=(TA fu).1.1 x
abbrev jE(fu:Nat)(x:BT×BT):Option Int:=(TA fu).2.1.1 x
abbrev jD(fu:Nat)(x:(Ay×Int×AH)×(Ay×Int×AH)):Option Int:=(TA fu).2.2.1.1 x
abbrev dQ(fu:Nat)(x:(A4×AH)×(A4×AH)):Option Int:=(TA fu).2.2.2.1.1 x
abbrev dP(fu:Nat)(x:BE×BE):Option Int:=(TA fu).2.2.2.2.1.1 x
def B358(fu:Nat):=BI (TA fu).2.2.2.2.2
abbrev TC(fu:Nat)(x:(Vl)×(Vl)):Option Int:=(TA fu).2.2.2.2.2.1 x
def yW(a:Nat)(b:AH)(c:AH):Option Int:=Ab (TC a (b.1,c.1)) λd=>iF (d≠0) (Ac d)<|Ab (TC a (b.2,c.2)) Ac
theorem d330(fu x0 x1):QY (fu+1) (x0,x1)=yW fu x0 x1:=by kernel_rfl
def yV(b:Nat)(a:BT)(c:BT):Option Int:=iF ((a.1.length:Int)≠c.1.length) (Ab (G3 b ((a.1.length:Int),(c.1.length:Int))) Ac)<|iF ((a.2.length:Int)≠c.2.length) (Ab (G3 b ((c.2.length:Int),(a.2.length:Int))) Ac)<|Ad b (λ(d:Nat) j=>iF ((d:Int)<a.1.length) (Ab (idx a.1 d) λk=>Ab (idx c.1 d) λl=>Ab (QY b (k,l)) λf=>iF (f≠0) (Ac f)<|j (d+1))<|Ad b (λ(e:Nat) m=>iF ((e:Int)<a.2.length) (Ab (idx a.2 e) λn=>Ab (idx c.2 e) λo=>Ab (QY b (n,o)) λg=>iF (g≠0) (Ac g)<|m (e+1))<|some 0) (0)) (0)
theorem d331(fu x0 x1):jE (fu+1) (x0,x1)=yV fu x0 x1:=by kernel_rfl
def yU(a:Nat)(b:Ay×Int×AH)(c:Ay×Int×AH):Option Int:=Ab (jF a (b.1,c.1)) λd=>iF (d≠0) (Ac d)<|Ab (G3 a (b.2.1,c.2.1)) λe=>iF (e≠0) (Ac e)<|Ab (QY a (b.2.2,c.2.2)) Ac
theorem d332(fu x0 x1):jD (fu+1) (x0,x1)=yU fu x0 x1:=by kernel_rfl
def yT(a:Nat)(b:A4×AH)(c:A4×AH):Option Int:=Ab (dR a (b.1,c.1)) λd=>iF (d≠0) (Ac d)<|Ab (QY a (b.2,c.2)) Ac
theorem d333(fu x0 x1):dQ (fu+1) (x0,x1)=yT fu x0 x1:=by kernel_rfl
def yS(c:Nat)(a:BE)(b:BE):Option Int:=Ad c (λ(d:Nat) j=>iF ((d:Int)<a.1.length) (iF ((d:Int)<b.1.length) (Ab (idx a.1 d) λk=>Ab (idx b.1 d) λl=>Ab (jD c (k,l)) λg=>iF (g≠0) (Ac g)<|j (d+1))<|iF ((a.1.length:Int)≠b.1.length) (Ab (G3 c ((a.1.length:Int),(b.1.length:Int))) Ac)<|Ad c (λ(e:Nat) n=>iF ((e:Int)<a.2.length) (iF ((e:Int)<b.2.length) (Ab (idx a.2 e) λo=>Ab (idx b.2 e) λp=>Ab (dQ c (o,p)) λh=>iF (h≠0) (Ac h)<|n (e+1))<|Ab (G3 c ((a.2.length:Int),(b.2.length:Int))) Ac)<|Ab (G3 c ((a.2.length:Int),(b.2.length:Int))) Ac) (0))<|iF ((a.1.length:Int)≠b.1.length) (Ab (G3 c ((a.1.length:Int),(b.1.length:Int))) Ac)<|Ad c (λ(f:Nat) t=>iF ((f:Int)<a.2.length) (iF ((f:Int)<b.2.length) (Ab (idx a.2 f) λu=>Ab (idx b.2 f) λv=>Ab (dQ c (u,v)) λi=>iF (i≠0) (Ac i)<|t (f+1))<|Ab (G3 c ((a.2.length:Int),(b.2.length:Int))) Ac)<|Ab (G3 c ((a.2.length:Int),(b.2.length:Int))) Ac) (0)) (0)
theorem d334(fu x0 x1):dP (fu+1) (x0,x1)=yS fu x0 x1:=by kernel_rfl
def yR(c:Nat)(a:Vl)(b:Vl):Option Int:=iB (!Vl.any a==Vl.any b) (iB (Vl.any a) (Ac ((-1:Int)))<|some 1)<|Ab (Yw c (Vl.sc a,Vl.sc b)) λg=>iF (g≠0) (Ac g)<|Ad c (λ(d:Nat) k=>iF ((d:Int)<(Vl.lists a).length) (iF ((d:Int)<(Vl.lists b).length) (Ab (idx (Vl.lists a) (d:Int)) λl=>Ab (idx (Vl.lists b) (d:Int)) λm=>Ab (jE c (l,m)) λh=>iF (h≠0) (Ac h)<|k (d+1))<|iF (((Vl.lists a).length:Int)≠((Vl.lists b).length:Int)) (Ab (G3 c (((Vl.lists a).length:Int),((Vl.lists b).length:Int))) Ac)<|Ad c (λ(e:Nat) o=>iF ((e:Int)<(Vl.structs a).length) (iF ((e:Int)<(Vl.structs b).length) (Ab (idx (Vl.structs a) (e:Int)) λp=>Ab (idx (Vl.structs b) (e:Int)) λq=>Ab (dP c (p,q)) λi=>iF (i≠0) (Ac i)<|o (e+1))<|Ab (G3 c (((Vl.structs a).length:Int),((Vl.structs b).length:Int))) Ac)<|Ab (G3 c (((Vl.structs a).length:Int),((Vl.structs b).length:Int))) Ac) (0))<|iF (((Vl.lists a).length:Int)≠((Vl.lists b).length:Int)) (Ab (G3 c (((Vl.lists a).length:Int),((Vl.lists b).length:Int))) Ac)<|Ad c (λ(f:Nat) u=>iF ((f:Int)<(Vl.structs a).length) (iF ((f:Int)<(Vl.structs b).length) (Ab (idx (Vl.structs a) (f:Int)) λv=>Ab (idx (Vl.structs b) (f:Int)) λw=>Ab (dP c (v,w)) λj=>iF (j≠0) (Ac j)<|u (f+1))<|Ab (G3 c (((Vl.structs a).length:Int),((Vl.structs b).length:Int))) Ac)<|Ab (G3 c (((Vl.structs a).length:Int),((Vl.structs b).length:Int))) Ac) (0)) (0)
theorem d335(fu x0 x1):TC (fu+1) (x0,x1)=yR fu x0 x1:=by kernel_rfl
def U8(a:Nat):Vl×Vl->Option Int|(b,c)=>Ab (TH a b) λd=>iB (!d) (Ac 0)<|Ab (TH a c) λe=>iB (!e) (Ac 0)<|Ab (TC a (b,c)) Ac
def B359:=bQ [zF,B358] Tryz.func72 [Ba,Ba] [Am] U8
def U7(a:Nat)(b:A4):Option Ay:=Ab (Yx a b) λc=>Ac c.1
def B360:=bQ [zx] Tryz.func104 [y3] [.str] U7
def dO(c:Nat):Ay×Ay->Option Bool|(a,b)=>iF ((a.length:Int)<b.length) (Ac Br)<|iF ((a.length:Int)=b.length) (Ac ((Op.bytesLess a b)))<|some Ak
def B361:=bQ [] Tryz.func103 [.str, .str] [.bool] dO
def Yv(a:Nat):AH×AH->Option Bool|(b,c)=>Ab (YC a b) λd=>iB d (Ab (YC a c) λe=>iB e (Ab (QY a (b,c)) λf=>Ac (Ds (f=0)))<|some Ak)<|some Ak
def B362:=bQ [zE,B353] Tryz.func105 [A_,A_] [.bool] Yv
def jC(b:Nat)(a:BE):Option Vl:=Ac (Vl.mk Ak (Ak,Ak,Ak,([],[]),[]) [] [a])
def B363:=bQ [] Tryz.func76 [BL] [Ba] jC (pt:=lg [(1,[.NC 2 8])])
def yu(a:Nat)(_:Unit):Option Be:=Ac ([((-100000000000:Int),100000000000)],[((-999999999999999:Int),999999999999999)])
def B364:=bQ [] Tryz.func153 [] [BR] yu (pt:=lg [(1,[.NC 0 0, .NC 0 1])])
def jB(a:Nat)(_:Unit):Option Ff:=Ab (yu a ()) λb=>Ab (F8 a ()) λc=>Ac (Br,Br,Br,b,c)
def B365:=bQ [B9,B364] Tryz.func110 [] [y8] jB
def jA(b:Nat)(a:Vl):Option Bool:=iB (Vl.any a) (Ac Ak)<|iF (((Vl.lists a).length:Int)≠1) (Ac Ak)<|iF (((Vl.structs a).length:Int)≠1) (Ac Ak)<|Ab (jB b ()) λe=>Ab (dX b (e,Vl.sc a)) λf=>iB (!f) (Ac Ak)<|Ab (idx (Vl.lists a) (0:Int)) λc=>Ab (idx (Vl.structs a) (0:Int)) λd=>iF ((0:Int)<c.1.length) (Ac Ak)<|iF ((c.2.length:Int)≠1) (Ac Ak)<|iF ((0:Int)<d.1.length) (Ac Ak)<|iF ((d.2.length:Int)≠1) (Ac Ak)<|Ab (idx c.2 0) λg=>Ab (U6 b g) λh=>iB h (Ab (idx d.2 0) λi=>Ab (U6 b i.2) Ac)<|some Ak
def B366:=bQ [u_,zy,B365] Tryz.func78 [Ba] [.bool] jA
abbrev nW:Type:=EM 99 [A_] [.bool]×EM 71 [BW] [.bool]×EM 75 [BL] [.bool]×EM 45 [Ba] [.bool]
def dE(n:Nat):nW:=Nat.rec (motive:=λ_=>nW) (tQ Tryz.func99,tQ Tryz.func71,tQ Tryz.func75,tQ Tryz.func45) (λfu ⟨g0,g1,g2,g3⟩=>(sQ (BI g3::bs [B336] fu) fu Tryz.func99 [A_] [.bool],sQ (BI g0::bs [zD] fu) fu Tryz.func71 [BW] [.bool] (la:=lk [(2,⟨[.nat],[(1, .Al),(3, .AB 0 200)],[(0, .c 0)],1⟩)]),sQ (BI g0::bs [zD,B361,B360,B362] fu) fu Tryz.func75 [BL] [.bool] (la:=lk [(2,⟨[.nat],[(1, .Al),(3, .AB 0 200)],[(0, .c 0)],1⟩),(7,⟨[.nat],[(1, .Al),(4, .AB 0 700)],[(0, .c 0)],1⟩),(12,⟨[.Ae Am],(kp [1,4] [(5, .v 0 Am)]),[(0, .c 0)],1⟩)]),sQ (BI g1::BI g2::bs [B359,B337,B333,B363,B335,B366] fu) fu Tryz.func45 [Ba] [.bool] (la:=lk [(2,⟨[.nat],[(1, .Al),(3, .AB 0 200)],[(0, .c 0)],1⟩),(7,⟨[.nat],(kp [1,3] [(4, .AB 0 700)]),[(0, .c 0)],1⟩),(12,⟨[.nat],[(1, .Al),(5, .AB 0 1200)],[(0, .c 0)],1⟩),(17,⟨[.nat],(kp [1,5] [(6, .AB 0 1700)]),[(0, .c 0)],1⟩)]))) n
abbrev U5(fu:Nat)(x:AH):Option Bool:=(dE fu).1.1 x
abbrev dN(fu:Nat)(x:BT):Option Bool:=(dE fu).2.1.1 x
abbrev dM(fu:Nat)(x:BE):Option Bool:=(dE fu).2.2.1.1 x
def B370(fu:Nat):=BI (dE fu).2.2.2
abbrev QX(fu:Nat)(x:(Vl)):Option Bool:=(dE fu).2.2.2.1 x
def yQ(b:Nat)(a:AH):Option Bool:=Ab (QX b a.1) λc=>iB c (Ab (QX b a.2) λd=>iB d (Ab (TD b (a.2,a.1)) Ac)<|some Ak)<|some Ak
theorem d345(fu x0):U5 (fu+1) x0=yQ fu x0:=by kernel_rfl
def yP(b:Nat)(a:BT):Option Bool:=Ad b (λ(c:Nat) d=>iF ((c:Int)<a.1.length) (Ab (idx a.1 c) λe=>Ab (YA b e.1) λf=>iB f (Ac Ak)<|Ab (idx a.1 c) λg=>Ab (U5 b g) λh=>iB (!h) (Ac Ak)<|d (c+1))<|iF ((a.2.length:Int)=0) (Ac Br)<|Ab (idx a.2 0) λi=>Ab (YA b i.1) λj=>iB (!j) (Ab (idx a.2 0) λk=>Ab (U5 b k) Ac)<|some Ak) (0)
theorem d346(fu x0):dN (fu+1) x0=yP fu x0:=by kernel_rfl
def yO(a:Nat)(c:BE):Option Bool:=Ad a (λ(d:Nat) h=>iF ((d:Int)<c.1.length) (Ab (idx c.1 d) λi=>Ab (YA a i.2.2.1) λj=>iB j (Ac Ak)<|Ab (idx c.1 d) λk=>Ab (U5 a k.2.2) λl=>iB (!l) (Ac Ak)<|h (d+1))<|Ad a (λ(b:Nat) g=>iF ((b:Int)<c.2.length) (Ab (idx c.2 b) λm=>Ab (U5 a m.2) λn=>iB (!n) (Ac Ak)<|iF ((0:Int)<b) (Aa .i64 ((b:Int)-1)<|Ab (idx c.2 ((b:Int)-1)) λo=>Ab (U7 a o.1) λp=>Ab (idx c.2 b) λq=>Ab (U7 a q.1) λr=>Ab (dO a (p,r)) λs=>iB (!s) (Ac Ak)<|Ad a (λ(e:Int) t=>iF (e<(b:Int)) (Ab (idx c.2 b) λu=>Ab (idx c.2 e) λv=>Ab (Yv a (u.2,v.2)) λw=>iB w (Ac Ak)<|Aa .i64 (e+1)<|t (e+1))<|g (b+1)) ((0:Int)))<|Ad a (λ(f:Int) x=>iF (f<(b:Int)) (Ab (idx c.2 b) λy=>Ab (idx c.2 f) λz=>Ab (Yv a (y.2,z.2)) λA=>iB A (Ac Ak)<|Aa .i64 (f+1)<|x (f+1))<|g (b+1)) ((0:Int)))<|some Br) (0)) (0)
theorem d347(fu x0):dM (fu+1) x0=yO fu x0:=by kernel_rfl
def yN(b:Nat)(a:Vl):Option Bool:=Ad b (λ(c:Nat) i=>iF ((c:Int)<(Vl.lists a).length) (Ab (idx (Vl.lists a) (c:Int)) λo=>Ab (dN b o) λp=>iB (!p) (Ac Ak)<|iF ((0:Int)<c) (Aa .i64 ((c:Int)-1)<|Ab (idx (Vl.lists a) ((c:Int)-1)) λq=>Ab (jK b q) λr=>Ab (idx (Vl.lists a) (c:Int)) λs=>Ab (jK b s) λt=>Ab (U8 b (r,t)) λu=>iF ((0:Int)<=u) (Ac Ak)<|Ad b (λ(e:Nat) j=>iF ((e:Int)<(Vl.lists a).length) (iF ((c:Int)≠e) (Ab (idx (Vl.lists a) (c:Int)) λv=>Ab (idx (Vl.lists a) (e:Int)) λw=>Ab (TF b (v,w)) λx=>iB x (Ac Ak)<|j (e+1))<|j (e+1))<|i (c+1)) (0))<|Ad b (λ(f:Nat) k=>iF ((f:Int)<(Vl.lists a).length) (iF ((c:Int)≠f) (Ab (idx (Vl.lists a) (c:Int)) λy=>Ab (idx (Vl.lists a) (f:Int)) λz=>Ab (TF b (y,z)) λA=>iB A (Ac Ak)<|k (f+1))<|k (f+1))<|i (c+1)) (0))<|Ad b (λ(d:Nat) l=>iF ((d:Int)<(Vl.structs a).length) (Ab (idx (Vl.structs a) (d:Int)) λB=>Ab (dM b B) λE=>iB (!E) (Ac Ak)<|iF ((0:Int)<d) (Aa .i64 ((d:Int)-1)<|Ab (idx (Vl.structs a) ((d:Int)-1)) λG=>Ab (jC b G) λH=>Ab (idx (Vl.structs a) (d:Int)) λI=>Ab (jC b I) λJ=>Ab (U8 b (H,J)) λK=>iF ((0:Int)<=K) (Ac Ak)<|Ad b (λ(g:Nat) m=>iF ((g:Int)<(Vl.structs a).length) (iF ((d:Int)≠g) (Ab (idx (Vl.structs a) (d:Int)) λL=>Ab (idx (Vl.structs a) (g:Int)) λM=>Ab (TE b (L,M)) λO=>iB O (Ac Ak)<|m (g+1))<|m (g+1))<|l (d+1)) (0))<|Ad b (λ(h:Nat) n=>iF ((h:Int)<(Vl.structs a).length) (iF ((d:Int)≠h) (Ab (idx (Vl.structs a) (d:Int)) λQ=>Ab (idx (Vl.structs a) (h:Int)) λS=>Ab (TE b (Q,S)) λU=>iB U (Ac Ak)<|n (h+1))<|n (h+1))<|l (d+1)) (0))<|Ab (jA b a) λV=>Ac ((!V))) (0)) (0)
theorem d348(fu x0):QX (fu+1) x0=yN fu x0:=by kernel_rfl
def jz(a:Nat)(b:Vl):Option Bool:=Ab (YC a (b,Vl.mk Ak (Ak,Ak,Ak,([],[]),[]) [] [])) λc=>iB c (Ab (QX a b) Ac)<|some Ak
def B371:=bQ [zE,B370] Tryz.func21 [Ba] [.bool] jz
abbrev nU:Type:=EM 22 [Ba] [.bool]
def yb(n:Nat):nU:=Nat.rec (motive:=λ_=>nU) (tQ Tryz.func22) (λfu g0=>sQ (BI g0::bs [u_,zG] fu) fu Tryz.func22 [Ba] [.bool] (la:=lk [(2,⟨[.nat],(kp [1,10,11] [(12, .AB 0 200)]),[(0, .c 0)],1⟩),(5,⟨[.nat],(kp [1,10,11,12,17,18] [(19, .AB 0 500)]),[(0, .c 0)],2⟩),(12,⟨[.nat],(kp [29,30] [(31, .AB 0 1200)]),[],1⟩)])) n
def B372(fu:Nat):=BI (yb fu)
abbrev yg(fu:Nat)(x:Vl):Option Bool:=(yb fu).1 x
def DRc(a:Nat)(b:Vl):Option Bool:=Ad a (λ(c:Nat) i=>iF ((c:Int)<(Vl.structs b).length) (Ab (idx (Vl.structs b) (c:Int)) λf=>Ad a (λ(d:Nat) j=>iF ((d:Int)<f.2.length) (Ab (idx f.2 d) λk=>Ab (U6 a k.2) λl=>iB l (Ac Ak)<|j (d+1))<|i (c+1)) (0))<|Ab (YD a b) λg=>Ad a (λ(e:Nat) m=>iF ((e:Int)<g.length) (Ab (idx g e) λh=>Ab (yg a h.1) λn=>iB (!n) (Ac Ak)<|Ab (yg a h.2) λo=>iB (!o) (Ac Ak)<|m (e+1))<|some Br) (0)) (0)
theorem dRc(fu x0):yg (fu+1) x0=DRc fu x0:=by kernel_rfl
def FRd(b:Nat)(a:Vl):Option Bool:=Ab (jz b a) λc=>iB c (iB (!Vl.any a) (Ab (yg b a) Ac)<|some Ak)<|some Ak
def B373:=bQ [B371,B372] Tryz.func7 [Ba] [.bool] FRd
abbrev FAv(_:Nat)(_:Unit):Option Bool:=Ac Br
def FCl(a:Nat)(b:Vl):Option Bool:=Ab (F4 a b) λc=>iB (!c) (Ab (FAv a ()) Ac)<|Ab (FCd a b) λe=>Ab (FRd a b) λf=>iB (e==f) (Ab (FAv a ()) Ac)<|some Ak
end
end Go.GV
namespace Go.GL
open Go.GK
def Ok{α:Type}(x:Option α)(P:α->Prop):Prop:= ∃r,x=Ac r/\P r
section
variable {α β X R : Type} {P Q : R -> Prop}
section
variable{x y:Option R}{p:Prop}{S:Type}{fu:Nat}{k:α->Option R}{b:Bool}{n:Nat}{s:S}{l:List α}
theorem MI{r:R}(h:P r):Ok (Ac r) P:=⟨r,rfl,h⟩
theorem Ok.mono(h:Ok x P)(k:∀r,P r->Q r):Ok x Q:=by obtain⟨r,e,h⟩:=h;exact⟨r,e,k r h⟩
theorem Ok.eq{r:R}(h:Ok x (λa=>a=r)):x= .some r:=by obtain⟨_,e,rfl⟩:=h;omega
theorem PC[Decidable p](a:p)(h:Ok x P):Ok (Ah p x) P:=by grind[GK.Ah]
theorem Oz{x:Option α}{Q:α->Prop}{k:α->Option R}(h:Ok x Q)(b:∀a,Q a->Ok (k a) P):Ok (Ab x k) P:=by obtain⟨r,rfl,h⟩:=h;exact b r h
theorem BY{x:Option α}{a:α}(h:x= .some a)(b:Ok (k a) P):Ok (GK.Ab x k) P:=by subst h;exact b
theorem PY(ht:b=Br->Ok x P)(a:b=Ak->Ok y P):Ok (bif b then x else y) P:=by grind
theorem N7[Decidable p](ht:p->Ok x P)(a:¬p->Ok y P):Ok (bif Ds p then x else y) P:=
 PY (λh=>ht (of_decide_eq_true h)) (λh=>a (of_decide_eq_false h))
theorem VX(h:b=Br)(a:Ok x P):Ok (bif b then x else y) P:=by grind
theorem P6(h:b=Ak)(a:Ok y P):Ok (bif b then x else y) P:=by grind
theorem VB[Decidable p](h:p)(a:Ok x P):Ok (bif Ds p then x else y) P:=VX (decide_eq_true h) a
theorem Qb[Decidable p](h:¬p)(a:Ok y P):Ok (bif Ds p then x else y) P:=P6 (decide_eq_false h) a
theorem P2[Decidable p](hx:Ok x P)(h:p:=by first|omega|(dsimp only;omega)):Ok (bif Ds p then x else y) P:=VB h hx
theorem P3[Decidable p](hy:Ok y P)(h:¬p:=by first|omega|(dsimp only;omega)):Ok (bif Ds p then x else y) P:=Qb h hy
theorem Abw{p:Prop} [Decidable p]{x:Option R}(h:Ok x P)(hp:p:=by first|omega|(dsimp only;omega)):Ok (GK.Ah p x) P:=PC hp h
theorem Bl{l:List α}{n:Nat}(h:n<l.length):idx l (n:Int)= .some l[n]:=by simp[idx]
theorem Fp{l:List α}{i:Int}(h0:0<=i)(h1:i<(l.length:Nat)):idx l i= .some (l[i.toNat]'(by omega)):=by grind[idx]
theorem Aah(h:n<l.length)(a:Ok (k l[n]) P):Ok (GK.Ab (idx l (n:Int)) k) P:=BY (Bl h) a
theorem Adq{i:Int}(h0:0<=i)(h1:i<(l.length:Nat))(a:Ok (k (l[i.toNat]'(by omega))) P):Ok (GK.Ab (idx l i) k) P:=BY (Fp h0 h1) a
theorem MR{s:Ay}(h:n<s.length):Ey s (n:Int)= .some ((s[n].toNat:Nat):Int):=by grind[Ey]
theorem Zr{s:Ay}{k:Int->Option R}(h:n<s.length)(a:Ok (k ((s[n].toNat:Nat):Int)) P):Ok (GK.Ab (Ey s (n:Int)) k) P:=BY (MR h) a
theorem Xn{b:X->(X->Option R)->Option R}(I:X->Prop)(m:X->Nat):∀ {fu:Nat} {x:X},I x->m x<fu->
  (∀x nx,I x->m x<fu->(∀a,I a->m a<m x->Ok (nx a) P)->Ok (b x nx) P)->Ok (Ad fu b x) P
 |0,_,_,h,_=>by omega
 |fu+1,x,d,e,step=>by refine step x _ d e λa c f=>Xn I m c (by omega) λy nx i g h=>step y nx i (by omega) h
theorem SA{b:S×Nat->(S×Nat->Option R)->Option R}(J:Nat->S->Prop)(n:Nat)(h0:J 0 s)(f:n<fu)
  (step:∀k s nx,k<n->J k s->(∀a,J (k+1) a->Ok (nx (a,k+1)) P)->Ok (b (s,k) nx) P)
  (stop:∀s nx,J n s->Ok (b (s,n) nx) P):Ok (Ad fu b (s,0)) P:=by
 refine Xn (λx=>x.2<=n/\J x.2 x.1) (λx=>n-x.2) ⟨by simp,h0⟩ (by omega) λx nx e _ g=>?_;grind
theorem Zm{S:Type}(mk:S->Nat->X){b:X->(X->Option R)->Option R}(J:Nat->S->Prop)(n:Nat)
  (step:∀k s nx,k<n->J k s->(∀a,J (k+1) a->Ok (nx (mk a (k+1))) P)->Ok (b (mk s k) nx) P)
  (stop:∀s nx,J n s->Ok (b (mk s n) nx) P):∀(fu k:Nat) (s:S),J k s->k<=n->n-k<fu->Ok (Ad fu b (mk s k)) P
 |0,_,_,_,_,h=>by omega
 |fu+1,k,s,c,f,e=>by
  show Ok (b (mk s k) (Ad fu b)) P;rcases Aal k n with h|h;· exact step k s _ h c λa d=>Zm mk J n step stop fu (k+1) a d h (by omega)
  grind
theorem XJ{T:Type}{b:S×T×Nat->(S×T×Nat->Option R)->Option R}(J:Nat->S->T->Prop)(n:Nat){t:T}(h0:J 0 s t)(g:n<fu)
  (step:∀k s t nx,k<n->J k s t->(∀a c,J (k+1) a c->Ok (nx (a,c,k+1)) P)->Ok (b (s,t,k) nx) P)
  (stop:∀s t nx,J n s t->Ok (b (s,t,n) nx) P):Ok (Ad fu b (s,t,0)) P:=
 Zm (λ(s:S×T) k=>(s.1,s.2,k)) (λk s=>J k s.1 s.2) n (λk s nx e d f=>step k s.1 s.2 nx e d λa c h=>f (a,c) h) (λs nx d=>stop s.1 s.2 nx d) fu 0 (s,t) h0 (by omega) (by omega)
theorem Z6{T U:Type}{b:S×T×U×Nat->(S×T×U×Nat->Option R)->Option R}(J:Nat->S->T->U->Prop)(n:Nat){t:T}{u:U}(h0:J 0 s t u)(i:n<fu)
  (step:∀k s t u nx,k<n->J k s t u->(∀a c d,J (k+1) a c d->Ok (nx (a,c,d,k+1)) P)->Ok (b (s,t,u,k) nx) P)
  (stop:∀s t u nx,J n s t u->Ok (b (s,t,u,n) nx) P):Ok (Ad fu b (s,t,u,0)) P:=
 Zm (λ(s:S×T×U) k=>(s.1,s.2.1,s.2.2,k)) (λk s=>J k s.1 s.2.1 s.2.2) n (λk s nx f e g=>step k s.1 s.2.1 s.2.2 nx f e λa c d h=>g (a,c,d) h) (λs nx e=>stop s.1 s.2.1 s.2.2 nx e) fu 0 (s,t,u) h0 (by omega) (by omega)
theorem TV{b:Nat->(Nat->Option R)->Option R}(J:Nat->Prop)(n:Nat)(h0:J 0)(d:n<fu)
  (step:∀k nx,k<n->J k->(J (k+1)->Ok (nx (k+1)) P)->Ok (b k nx) P)
  (stop:∀nx,J n->Ok (b n nx) P):Ok (Ad fu b 0) P:=by
 refine Xn (λx=>x<=n/\J x) (λx=>n-x) ⟨by simp,h0⟩ (by omega) λk nx c _ e=>?_;grind
end
end
end Go.GL
namespace Go.GL
open Go Go.GV Go.GK
section
variable{R:Type}{x:Option R}
theorem nL{p:Prop} [Decidable p](h:p):GK.Ah p x=x:=by grind[GK.Ah]
theorem Abx{P:R->Prop}{i:Int}(h: -9223372036854775808<=i/\i<=9223372036854775807)(a:Ok x P):Ok (Aa Lm.i64 i x) P:=by show Ok (GK.Ah (GK.DY i) x) P;simp_all[GK.DY,PC]
theorem Aaq{R:Type}{P:R->Prop}{i:Int}{x:Option R}(hx:Ok x P)(h: -9223372036854775808<=i/\i<=9223372036854775807:=by first|omega|(dsimp only;omega)):Ok (Aa Lm.i64 i x) P:=Abx h hx
theorem gT{α:Type}{cmp:α->α->Option Int}{le:α->α->Prop}(tot:∀x y,le x y\/le y x)(tr:∀x y z,le x y->le y z->le x z){l:List α}
  (hc:∀x∈l,∀y∈l,Ok (cmp x y) λc=>c<0↔¬le y x) {fu:Nat} (hn:l.length<1099511627776) (hf:l.length+1<fu):
  Ok (So cmp fu 0 l.length l) λr=>r.Perm l/\r.Pairwise le:=by
 refine Xn (λz:List α×Int=>z.1.Perm l/\1<=z.2/\∃A C,z.1=A++C/\A.Pairwise le/\((A.length:Int)=z.2\/(C=[]/\A.length<z.2))) (λz=>l.length+1-z.2.toNat) ?_ (by omega) ?_;· refine⟨.refl _,by omega,?_⟩;cases l with
  |nil=>exact⟨[],[],rfl, .nil, .inr ⟨rfl,by simp⟩⟩
  |cons x l=>exact⟨[x],l,rfl,Acg .., .inl (by simp)⟩
 ·rintro⟨
      m,i⟩ nx ⟨k,X,A,C,e,t,n⟩ W M;have D:m.length=l.length:=k.length_eq;refine N7 (λc=>?_) (λc=>?_)
  ·have w:(A.length:Int)=i:=by
    grind
   obtain⟨q,C,rfl⟩:∃q S,C=q::S:=by
    cases C with
    |nil=>grind
    |cons q C=>simp
   refine Xn (λz:List α×Int=>z.1.Perm l/\∃A q B C,z.1=A++q::(B++C)/\(A.length:Int)=z.2/\(A++B).Pairwise le/\(∀b∈B,le q b)/\(A.length:Int)+B.length=i) (λz=>z.2.toNat) ⟨k,A,q,[],C,e,w,by grind,by simp,by trivial⟩ (by omega) ?_;rintro⟨m,j⟩ nx' ⟨k,A,q,B,C,e,K,t,I,J⟩ _ E;dsimp only at k e K;have out:(A++q::B).Pairwise le->Ok (nx (m,i+1)) (λr=>r.Perm l/\r.Pairwise le):=λZ=>
    M (m,i+1) ⟨k,by omega,A++q::B,C,by simp[e],Z, .inl (by simp only[Aab,Abo];omega)⟩ (by omega);refine N7 (λc=>?_) (λc=>?_)
   ·obtain⟨A,p,rfl⟩:∃G p,A=G++[p]:=by
     rcases Aek A with h|⟨G,p,h⟩;· subst h;simp at K;omega
     ·exact⟨G,p,by simpa using h⟩
    have g:m=A++p::q::(B++C):=by simp[e]
    simp only[Aab,Abo,Ado]at K J;have H:idx m j=Ac q:=by unfold idx;rw[if_pos (by omega),g,Aac (by omega)];rw[show j.toNat-A.length=1 by omega];rfl
    have O:idx m (j-1)=Ac p:=by unfold idx;rw[if_pos (by omega),g,Aac (by omega)];rw[show(j-1).toNat-A.length=0 by omega];rfl
    refine BY H (Aaq (BY O (Oz (hc q (k.mem_iff.1 (by simp[e])) p (k.mem_iff.1 (by simp[e]))) λr P=>?_)));have F:=Abb.1 t;have N:=Abb.1 F.1;refine N7 (λd=>?_) (λd=>?_)
    ·have d:=P.1 d;have T:le q p:=(tot p q).resolve_left d;refine Aaq (Aaq (BY O (BY H (BY H ?_))));have Q:m.set j.toNat p=A++p::p::(B++C):=by
      rw[g,Acx _ _ (by omega),show j.toNat-A.length=1 by omega];rfl
     have R:(m.set j.toNat p).set (j-1).toNat q=A++q::p::(B++C):=by rw[Q,Acx _ _ (by omega),show(j-1).toNat-A.length=0 by omega];rfl
     have U:idx (m.set j.toNat p) (j-1)=Ac p:=by unfold idx;rw[if_pos (by omega),Q,Aac (by omega)];rw[show(j-1).toNat-A.length=0 by omega];rfl
     refine BY U (Abx (by omega) ?_);refine E _ ⟨?_,A,q,p::B,C,?_,?_,?_,?_,?_⟩ (by show(j-1).toNat<j.toNat;omega);· show((m.set j.toNat p).set (j-1).toNat q).Perm l;rw[R];refine List.Perm.trans ?_ k;rw[g];exact List.Perm.append_left _ (List.Perm.swap ..)
     ·show(m.set j.toNat p).set (j-1).toNat q=_;rw[R];simp
     ·show(A.length:Int)=j-1;omega
     ·simpa using t
     ·intro b v;rcases Aao.1 v with rfl|v;· exact T
      ·exact I b v
     ·simp only[Abo];omega
    ·have d:le p q:=IS λh=>d (P.2 h);refine Aaq (out ?_);refine Abb.2 ⟨F.1,Abj.2 ⟨I,F.2.1⟩,λa u b v=>?_⟩;rcases Aao.1 v with rfl|v
     ·rcases AT.1 u with u|u;· exact tr _ _ _ (N.2.2 a u p (by simp)) d
      ·simp at u;subst u;exact d
     ·exact F.2.2 a u b v
   ·have c:¬0<j:=c;obtain rfl:A=[]:=OF.1 (by omega);refine Aaq (out ?_);simp at t;simpa using⟨I,t⟩
  grind[MI,List.length_eq_zero_iff]
end
end Go.GL
namespace Go.GL
abbrev Sp:=Int×Int
section
variable{s:Sp}{l:List Sp}{n:Int}
def A0(l:List Sp)(n:Int):Prop:= ∃s∈l,s.1<=n/\n<=s.2
theorem Bc{n:Int} :¬A0 [] n:=λ⟨_,h,_⟩=>by grind
theorem AJ{s:Sp}{l:List Sp}{n:Int} :A0 (s::l) n↔(s.1<=n/\n<=s.2)\/A0 l n:=by simp[A0]
theorem Eo{l m:List Sp}{n:Int} :A0 (l++m) n↔A0 l n\/A0 m n:=by simp_all[A0,AT,or_and_right,exists_or]
theorem Ot{l m:List Sp}(h:l.Perm m){n:Int} :A0 l n↔A0 m n:=by grind[A0]
structure Nf(l:List Sp):Prop where
 ne:∀s∈l,s.1<=s.2
 ord:l.Pairwise λs t=>s.2+1<t.1
theorem Nf.nil:Nf []:=⟨λ_ h=>(by grind), .nil⟩
theorem Nf.tail(h:Nf (s::l)):Nf l:=⟨λt a=>h.ne t (Aag _ a),(Abj.1 h.ord).2⟩
theorem Nf.head(h:Nf (s::l)):s.1<=s.2:=h.ne s (Aas ..)
theorem Nf.gt(h:Nf (s::l))(k:A0 l n):s.2+1<n:=by obtain⟨t,a,b,c⟩:=k;have:=(Abj.1 h.ord).1 t a;omega
theorem Nf.unique:∀ {l m:List Sp},Nf l->Nf m->(∀n,A0 l n↔A0 m n)->l=m
 | [],[],_,_,_=>rfl
 | [],t::m,_,d,h=>absurd ((h t.1).2 (AJ.2 (.inl ⟨Abn _,d.head⟩))) Bc
 |s::l,[],a,_,h=>absurd ((h s.1).1 (AJ.2 (.inl ⟨Abn _,a.head⟩))) Bc
 |s::l,t::m,a,d,h=>by
  have i:=(h s.1).1 (AJ.2 (.inl ⟨Abn _,a.head⟩));have j:=(h t.1).2 (AJ.2 (.inl ⟨Abn _,d.head⟩));have r:=a.head;have u:=d.head;have o:s.1=t.1:=by
   rcases AJ.1 i with e|e<;>rcases AJ.1 j with f|f;· omega
   ·have:=a.gt f;omega
   ·have:=d.gt e;omega
   ·have:=a.gt f;have:=d.gt e;omega
  have p:s.2=t.2:=by
   rcases Int.lt_trichotomy s.2 t.2 with c|c|c
   ·rcases AJ.1 ((h (s.2+1)).2 (AJ.2 (.inl ⟨by omega,by omega⟩)))with b|b;· omega
    ·have:=a.gt b;omega
   ·omega
   ·rcases AJ.1 ((h (t.2+1)).1 (AJ.2 (.inl ⟨by omega,by omega⟩)))with b|b;· omega
    ·have:=d.gt b;omega
  have q:s=t:=Aby o p;subst q;rw[Nf.unique a.tail d.tail λn=>?_];constructor
  ·intro k;have g:=a.gt k;rcases AJ.1 ((h n).1 (AJ.2 (.inr k)))with b|b;all_goals omega
  ·intro k;have g:=d.gt k;rcases AJ.1 ((h n).2 (AJ.2 (.inr k)))with b|b;all_goals omega
def Ho:List Sp->List Sp->List Sp
 |a,[]=>a
 |a,s::l=>match a.getLast? with
  |none=>Ho [s] l
  |some t=>if s.1<=t.2+1 then Ho (a.dropLast++[(t.1,max t.2 s.2)]) l else Ho (a++[s]) l
theorem E1:∀(l b:List Sp),Nf b->(∀s∈l,s.1<=s.2)->l.Pairwise (λs t=>s.1<=t.1)->(∀t∈b.getLast?,∀s∈l,t.1<=s.1)->Nf (Ho b l)/\∀n,A0 (Ho b l) n↔A0 b n\/A0 l n
 | [],b,h,_,_,_=>⟨h,λn=>⟨.inl,λk=>k.elim id λk=>absurd k Bc⟩⟩
 |s::l,b,h,v,D,C=>by
  have y:=v s (Aas ..);have j:∀s∈l,s.1<=s.2:=λt i=>v t (Aag _ i);have f:=Abj.1 D;unfold Ho;split;· next e=>
   have:b=[]:=by simp_all
   subst this;obtain⟨q,r⟩:=E1 l [s] ⟨λt i=>by grind,Acg ..⟩ j f.2 (λt i u a=>by grind);grind[AJ,Bc]
  ·next t e=>
   obtain⟨o,rfl⟩:∃o,b=o++[t]:=List.getLast?_eq_some_iff.1 e;have w:Nf o:=⟨λu a=>h.ne u (Abt _ a),(Abb.1 h.ord).1⟩;have p:∀u∈o,u.2+1<t.1:=λu a=>(Abb.1 h.ord).2.2 u a t (by simp);have E:t.1<=s.1:=C t (by simp) s (Aas ..);have A:∀(x:Sp) (n:Int),A0 (o++[x]) n↔A0 o n\/(x.1<=n/\n<=x.2):=λx n=>by simp_all[Eo,AJ,Bc]
   split;
      · next c=>
    have B:(o++[t]).dropLast=o:=by simp
    rw[B];obtain⟨q,r⟩:=E1 l (o++[(t.1,max t.2 s.2)]) ⟨λu a=>by
     rcases AT.1 a with a|a;· exact w.ne u a
     ·simp at a;subst a;omega,Abb.2 ⟨w.ord,Acg ..,λu a x g=>by simp at g;subst g;exact p u a⟩⟩ j f.2 (λx g u a=>by simp at g;subst g;have:=f.1 u a;omega);refine⟨q,λn=>?_⟩;rw[r,A,A,AJ];constructor
    ·rintro((k|⟨k,z⟩)|k);· exact .inl (.inl k)
     ·by_cases d:n<=t.2;· exact .inl (.inr ⟨k,d⟩)
      ·exact .inr (.inl ⟨by omega,by omega⟩)
     ·exact .inr (.inr k)
    ·rintro((k|k)|k|k);· exact .inl (.inl k)
     ·exact .inl (.inr ⟨k.1,show n<=max t.2 s.2 by omega⟩)
     ·exact .inl (.inr ⟨show t.1<=n by omega,show n<=max t.2 s.2 by omega⟩)
     ·exact .inr k
   ·next c=>
    obtain⟨q,r⟩:=E1 l (o++[t]++[s]) ⟨λu a=>by
     rcases AT.1 a with a|a;· exact h.ne u a
     ·simp at a;subst a;exact y,Abb.2 ⟨h.ord,Acg ..,λu a x g=>by
      simp at g;subst g;rcases AT.1 a with a|a;· have:=p u a;omega
      ·simp at a;subst a;omega⟩⟩ j f.2 (λx g u a=>by simp at g;subst g;exact f.1 u a);refine⟨q,λn=>?_⟩;rw[r,Eo,AJ,AJ (l:=l)];simp[@Bc n,or_assoc]
def Fc:Sp->List Sp->List Sp
 |s,[]=>[s]
 |s,x::l=>if x.2+1<s.1 then x::Fc s l else if s.2+1<x.1 then s::x::l else Fc (min s.1 x.1,max s.2 x.2) l
theorem KP:∀(l:List Sp) (s:Sp),Nf l->s.1<=s.2->Nf (Fc s l)/\(∀n,A0 (Fc s l) n↔(s.1<=n/\n<=s.2)\/A0 l n)
 | [],s,_,i=>⟨⟨λt f=>by grind[Fc],Acg ..⟩,λn=>AJ⟩
 |x::l,s,h,i=>by
  have o:=h.head;unfold Fc;split;· next c=>
   obtain⟨g,j⟩:=KP l s h.tail i;refine⟨⟨λt f=>?_,Abj.2 ⟨λt f=>?_,g.ord⟩⟩,λn=>?_⟩
   ·rcases Aao.1 f with rfl|f;· omega
    ·exact g.ne t f
   ·have m:=g.ne t f;rcases(j t.1).1 ⟨t,f,Abn _,m⟩with e|e;· omega
    ·have:=h.gt e;omega
   grind[AJ]
  ·split;· next c d=>
    refine⟨⟨λt f=>?_,Abj.2 ⟨λt f=>?_,h.ord⟩⟩,λn=>AJ⟩
    ·rcases Aao.1 f with rfl|f;· omega
     ·exact h.ne t f
    ·rcases Aao.1 f with rfl|f;· omega
     ·have:=(Abj.1 h.ord).1 t f;omega
   ·next c d=>
    obtain⟨g,j⟩:=KP l (min s.1 x.1,max s.2 x.2) h.tail (show min s.1 x.1<=max s.2 x.2 by omega);grind[min,max,AJ]
def DU:Int->Int->List Sp->List Sp
 |b,a,[]=>if b<=a then [(b,a)]else []
 |b,a,s::l=>if b<s.1 then(b,s.1-1)::DU (s.2+1) a l else DU (s.2+1) a l
theorem Gd:∀(l:List Sp) (lo hi:Int),Nf l->(∀s∈l,lo<=s.1/\s.2<=hi)->Nf (DU lo hi l)/\(∀n,A0 (DU lo hi l) n↔(lo<=n/\n<=hi)/\¬A0 l n)
 | [],lo,hi,_,_=>by
  unfold DU;split;· next c=>exact⟨⟨λt f=>by grind,Acg ..⟩,λn=>by grind[AJ,Bc]⟩
  grind[absurd,Bc]
 |s::l,lo,hi,h,j=>by
  have o:=h.head;have m:=j s (Aas ..);obtain⟨g,i⟩:=Gd l (s.2+1) hi h.tail λt f=>⟨by have:=(Abj.1 h.ord).1 t f;omega,(j t (Aag _ f)).2⟩;unfold DU;split;· next c=>
   refine⟨⟨λt f=>?_,Abj.2 ⟨λt f=>?_,g.ord⟩⟩,λn=>?_⟩
   ·rcases Aao.1 f with rfl|f;· omega
    ·exact g.ne t f
   ·have:=((i t.1).1 ⟨t,f,Abn _,g.ne t f⟩).1;omega
   ·rw[AJ,i,AJ];constructor
    ·rintro(⟨a,b⟩|⟨a,b⟩)
     ·refine⟨⟨a,by omega⟩,λk=>?_⟩;rcases k with k|k;· omega
      ·have:=h.gt k;omega
     ·exact⟨⟨by omega,a.2⟩,λk=>k.elim (λk=>by omega) b⟩
    grind
  grind[AJ]
def EI(a b:List Sp):List Sp:=a.flatMap λx=>b.filterMap λy=>if max x.1 y.1<=min x.2 y.2 then Ac (max x.1 y.1,min x.2 y.2)else Dc
theorem S2{a b:List Sp} :A0 (EI a b) n↔A0 a n/\A0 b n:=by
 simp only[A0,EI,Pe,Aer];constructor
 ·grind
 ·rintro⟨⟨x,c,h,i⟩,⟨y,d,j,k⟩⟩;exact⟨(max x.1 y.1,min x.2 y.2),⟨x,c,y,d,if_pos (by omega)⟩,show max x.1 y.1<=n by omega,show n<=min x.2 y.2 by omega⟩
end
end Go.GL
namespace Go.GL
open Go Go.GV Go.GK Go.Proofs
section
variable{fu:Nat}{x:List Sp×List Sp}{l:List Sp}{r:List Sp×List Sp}{b y:Int}{a:List Sp}{I F:Int->Prop}{gu:Nat}{c:Int}{x0 s:Sp}{n:Nat}{g:Int->Int}{lo hi:Int}{m:List Sp}{v d:Int}
theorem Fw:4294967296<=Aj:=by decide
theorem aH(fu:Nat):((aO 13).all λn=>(DY fu (n:Int)).isSome)=Br:=by kernel_rfl
theorem GJ(h:n<=12):Ok (td fu n) λ_=>True:=by
 rw[td];have k:=IT.1 (aH fu) n (Abf.2 (by omega));cases h:DY fu n with
 |none=>grind
 |some r=>exact⟨r,rfl,trivial⟩
theorem cN{a:Int} :F67 fu (a,b)=Ac (if a<b then-1 else if b<a then 1 else 0):=by rw[F67];have e (x:Int):F66 fu x=Ac Ak:=(by show(Ac (Ds (x≠x)):Option Bool)=Ac Ak;simp);simp only[e];show(bif Ds (a<b)then _ else bif Ds (b<a)then _ else _)=_;grind
theorem K1(h:l.length<=12)(a:20<fu):Ok (yn fu l) λr=>r.Perm l/\r.Pairwise λs t=>s.1<=t.1:=by
 rw[yn];have e:(Int.ofNat (l.length %Int.natAbs (18446744073709551616:Int)))=(l.length:Nat):=by grind
 rw[e];refine Oz (GJ h) λr _=>?_;rw[F70];obtain⟨f,rfl⟩:∃f,fu=f+1:=⟨fu-1,by omega⟩;refine Oz (Q:=λr:List Sp=>r.Perm l/\r.Pairwise λs t=>s.1<=t.1) ?_ λr h=>MI h;refine Aaq (VB (by omega) ?_);refine Oz (Q:=λr:List Sp=>r.Perm l/\r.Pairwise λs t=>s.1<=t.1) ?_ λr h=>MI h;have e:F69 (f+1) (0,(l.length:Int),l)=D69 (f+1) 0 l.length l:=d69 (f+1) 0 l.length l;refine gT (l:=l) (le:=λs t:Sp=>s.1<=t.1) (λx y=>Int.le_total ..) (λx y z h k=>Int.le_trans h k) (λx _ y _=>?_) (by omega) (by omega);rw[F68];rw[cN];refine⟨_,rfl,?_⟩;omega
def EC(g:Int->Int):List Sp->List Sp->List Sp
 |out,[]=>out
 |out,s::l=>match out.getLast? with
  |none=>EC g [s] l
  |some t=>if s.1<=g t.2 then EC g (out.dropLast++[(t.1,max t.2 s.2)]) l else EC g (out++[s]) l
theorem LN:∀(l out:List Sp),EC (· +1) out l=Ho out l
 | [],_=>rfl
 |s::l,out=>by
  unfold EC Ho;cases out.getLast? with
  |none=>exact LN l _
  |some t=>dsimp only;rw[LN l,LN l]
noncomputable def wT(e:Int->Option Int)(fu:Nat)(f:List Sp):Option (List Sp):=
 Ad fu (λ(a:List (Int×Int)×Nat) b=>
  bif Ds ((↑a.2:Int)<(↑(FB f):Int))then
   Ab (idx f (↑a.2:Int)) λc=>
   bif Ds ((0:Int)<(↑(FB a.1):Int))then
    Aa (Lm.i64) ((↑(FB a.1):Int)-(1:Int))<|
    Ab (idx a.1 ((↑(FB a.1):Int)-(1:Int))) λg=>
    Ab (e g.2) λh=>
    bif Ds (c.1<=h)then
     Aa (Lm.i64) ((↑(FB a.1):Int)-(1:Int))<|
     Aa (Lm.i64) ((↑(FB a.1):Int)-(1:Int))<|
     Ab (idx a.1 ((↑(FB a.1):Int)-(1:Int))) λd=>
     Aa (Lm.i64) (if c.2>d.2 then c.2 else d.2)<|
     Ab (idx a.1 ((↑(FB a.1):Int)-(1:Int))) λi=>
     b (((a.1.set (ae ((↑(FB a.1):Int)-(1:Int))) (i.1,(if d.2<c.2 then c.2 else d.2))),a.2+1))
    else
     Ah (FB a.1+1<=Aj)<|
     b (((a.1++[c]),a.2+1))
   else
    Ah (FB a.1+1<=Aj)<|
    b (((a.1++[c]),a.2+1))
  else
   Ac (a.1)) (([],0))
def Cg(b:Int)(s:Sp):Prop:= -b<=s.1/\s.1<=b/\ -b<=s.2/\s.2<=b
theorem Sk{p:Int->Option Int}(D:b<=2000000000000000)(B:∀x, -b<=x->x<=b->p x=Ac (g x))(C:∀s∈l,Cg b s)(E:l.length<4294967296)(A:l.length<fu):
  Ok (wT p fu l) λr=>r=EC g [] l:=by
 refine SA (λk out=>EC g out (l.drop k)=EC g [] l/\out.length<=k/\∀s∈out,Cg b s) l.length ⟨rf,by simp,by simp⟩ A ?_ ?_
 ·intro k out nx v ⟨h,q,u⟩ n;have w:l.drop k=l[k]::l.drop (k+1):=Aar v;have j:=C l[k] (AN v);refine VB (by omega) (Aah v ?_);have app:out.getLast?=Dc\/(∃t,out.getLast?=Ac t/\¬l[k].1<=g t.2)->Ok (Ah (out.length+1<=Aj) (nx (out++[l[k]],k+1))) (λr=>r=EC g [] l):=λc=>by
   refine PC (by grind) (n _ ⟨?_,by grind,?_⟩)
   ·rw[<-h,w];conv=>rhs;unfold EC
    rcases c with c|⟨t,c,d⟩
    ·have:out=[]:=by simpa using c
     subst this;rfl
    grind
   grind
  refine N7 (λc=>?_) (λc=>?_)
  ·obtain⟨
       o,t,rfl⟩:∃o t,out=o++[t]:=by
    rcases Aek out with e|⟨o,t,e⟩;· subst e;simp at c
    ·exact⟨o,t,by simpa using e⟩
   have m:=u t (by simp);have e:idx (o++[t]) (((o++[t]).length:Int)-1)=Ac t:=by unfold idx;simp only[Aab,Abo,Ado];simp
   have i:(o++[t]).length=o.length+1:=by simp
   refine Abx (by simp only[i]at q⊢;omega) (BY e (BY (B _ m.2.2.1 m.2.2.2) (N7 (λd=>?_) (λd=>?_))))
   ·refine Abx (by simp only[i]at q⊢;omega) (Abx (by simp only[i]at q⊢;omega) (BY e (Abx ?_ (BY e ?_))));· have:=j.2.2;have:=m.2.2;dsimp only;split<;>omega
    ·have y:(if t.2<l[k].2 then l[k].2 else t.2)=max t.2 l[k].2:=by split<;>omega
     have z:(o++[t]).set (((o++[t]).length:Int)-1).toNat (t.1,if t.2<l[k].2 then l[k].2 else t.2)=o++[(t.1,max t.2 l[k].2)]:=by rw[y,i,show(((o.length+1:Nat):Int)-1).toNat=o.length by omega,Acx _ _ (by omega)];simp
     have:Ok (nx (o++[(t.1,max t.2 l[k].2)],k+1)) (λr=>r=EC g [] l):=by
      refine n _ ⟨?_,by simpa [i]using Nat.le_succ_of_le q,?_⟩
      ·rw[<-h,w];conv=>rhs;unfold EC
       simp only[List.getLast?_append,All,Option.some_or];have d:l[k].1<=g t.2:=d;rw[if_pos d];simp
      ·intro s f;rcases AT.1 f with f|f;· exact u s (by simp[f])
       ·simp at f;subst f;refine⟨m.1,m.2.1,?_,?_⟩;· show-b<=max t.2 l[k].2;have:=m.2.2;omega
        ·show max t.2 l[k].2<=b;have:=m.2.2;have:=j.2.2;omega
     rw[<-z]at this;exact this
   ·exact app (.inr ⟨t,by simp,d⟩)
  grind
 simp_all[nx,EC,Qb,MI]
theorem Rp(i:b<=2000000000000000)(hi:∀s∈l,Cg b s)(f:∀s∈l,s.1<=s.2)(h:l.length<=12)(j:20<fu):
  Ok (F73 fu l) λr=>Nf r/\∀n,A0 r n↔A0 l n:=by
 have c:=Fw;have e:List.take (min l.length (T9 l.length ((0:Int),(0:Int))).length) l++List.drop (min l.length (T9 l.length ((0:Int),(0:Int))).length) (T9 l.length ((0:Int),(0:Int)))=l:=by simp
 refine Abw (PC (by omega) ?_);rw[e];refine Oz (K1 h j) λr ⟨d,k⟩=>?_;have t:=d.length_eq;refine(Sk (g:=(· +1)) (b:=b) i (λx p q=>?_) (λs f=>hi s (d.mem_iff.1 f)) (by omega) (by omega)).mono λu e=>?_;· exact(Abx (P:=λr=>r=x+1) (by omega) (MI rf)).eq
 ·subst e;rw[LN];obtain⟨m,o⟩:=E1 r [] .nil (λs h=>f s (d.mem_iff.1 h)) k (by simp);grind[Ot,Bc]
noncomputable def addT(fu:Nat)(f:List (Int×Int))(e:Int×Int)(d:List (Int×Int)->Option (List (Int×Int))):Option (List (Int×Int)):=
 Ad fu (
      λ(a:List (Int×Int)×Int×Int×Bool×Nat) c=>
  bif Ds ((↑a.2.2.2.2:Int)<(↑(FB f):Int))then
   Ab (idx f (↑a.2.2.2.2:Int)) λb=>
   Aa (Lm.i64) (b.2+(1:Int))<|
   bif Ds (b.2+(1:Int)<a.2.1)then
    Ah (FB a.1+1<=Aj)<|
    c (((a.1++[b]),a.2.1,a.2.2.1,a.2.2.2.1,a.2.2.2.2+1))
   else
    Aa (Lm.i64) (a.2.2.1+(1:Int))<|
    bif Ds (a.2.2.1+(1:Int)<b.1)then
     bif !a.2.2.2.1 then
      Ah (FB a.1+1<=Aj)<|
      Ah (FB (a.1++[(a.2.1,a.2.2.1)])+1<=Aj)<|
      c ((((a.1++[(a.2.1,a.2.2.1)])++[b]),a.2.1,a.2.2.1,Br,a.2.2.2.2+1))
     else
      Ah (FB a.1+1<=Aj)<|
      c (((a.1++[b]),a.2.1,a.2.2.1,a.2.2.2.1,a.2.2.2.2+1))
    else
     Aa (Lm.i64) (if b.1<a.2.1 then b.1 else a.2.1)<|
     Aa (Lm.i64) (if b.2>a.2.2.1 then b.2 else a.2.2.1)<|
     c ((a.1,(if b.1<a.2.1 then b.1 else a.2.1),(if a.2.2.1<b.2 then b.2 else a.2.2.1),a.2.2.2.1,a.2.2.2.2+1))
  else
   bif !a.2.2.2.1 then
    Ah (FB a.1+1<=Aj)<|
    d ((a.1++[(a.2.1,a.2.2.1)]))
   else
    d (a.1)) (([],e.1,e.2,Ak,0))
theorem Nq:∀(l:List Sp) (s:Sp),(Fc s l).length<=l.length+1
 | [],_=>by simp[Fc]
 |x::l,s=>by
  unfold Fc;split;· have:=Nq l s;grind
  ·split;· simp
   ·have:=Nq l (min s.1 x.1,max s.2 x.2);grind
theorem QP{b:Int} :∀(l:List Sp) (s:Sp),Cg b s->(∀x∈l,Cg b x)->∀x∈Fc s l,Cg b x
 | [],s,h,_=>by grind[Fc]
 |y::l,s,h,d=>by
  have e:=d y (by simp);have c:∀x∈l,Cg b x:=λx a=>d x (by grind);unfold Fc;split
  ·intro x a;rcases Aao.1 a with rfl|a;· omega
   ·exact QP l s h c x a
  ·split
   ·grind
   ·exact QP l _ (by unfold Cg at*;dsimp only;omega) c
theorem jq{nx:List Sp->Option (List Sp)}{P:List Sp->Prop}(L:b<=2000000000000000)(H:∀x∈l,Cg b x)(C:Cg b s)(D:s.1<=s.2)(B:Nf l)(N:l.length<1000000000)(M:l.length<fu)
  (u:Ok (nx (Fc s l)) P):Ok (addT fu l s nx) P:=by
 refine Zm (λ(s:List Sp×Int×Int×Bool) k=>(s.1,s.2.1,s.2.2.1,s.2.2.2,k))
  (λk z=>z.2.1<=z.2.2.1/\Cg b (z.2.1,z.2.2.1)/\z.1.length<=k+1/\(z.2.2.2=Ak->z.1.length<=k/\z.1++Fc (z.2.1,z.2.2.1) (l.drop k)=Fc s l)/\(z.2.2.2=Br->z.1++l.drop k=Fc s l/\∀x∈l.drop k,z.2.2.1+1<x.1)) l.length ?_ ?_ fu 0 ([],s.1,s.2,Ak) ⟨D,C,by simp,λ_=>⟨by simp,rfl⟩,λh=>(by grind)⟩ (by omega) (by omega)
 ·rintro k ⟨
       out,f,a,r⟩ E w ⟨p,i,A,j,n⟩ g;dsimp only at p i A j n⊢;have o:l.drop k=l[k]::l.drop (k+1):=Aar w;have q:=H l[k] (AN w);have J:=B.ne l[k] (AN w);have y:=Fw;refine VB (by omega) (Aah w (Abx (by grind[Cg]) ?_));have v:l[k]∈l.drop k:=by grind
  refine N7 (λc=>?_) (λc=>?_)
  ·have I:r=Ak:=by
    cases r with
    |false=>rfl
    |true=>have:=(n rfl).2 _ v;omega
   subst I;have K:=(j rfl).1;refine Abw (g (out++[l[k]],f,a,Ak) ⟨p,i,by simp;omega,λ_=>⟨by simp;omega,?_⟩,λe=>(by cases e)⟩);grind[Fc]
  ·refine Abx (by unfold Cg at i;omega) ?_;refine N7 (λd=>?_) (λd=>?_);· cases r with
    |false=>
     have K:=(j rfl).1
     ·refine Abw (PC (by simp;omega) (g ((out++[(f,a)])++[l[k]],f,a,Br) ⟨p,i,by simp;omega,λe=>(by cases e),λ_=>⟨?_,λx q=>?_⟩⟩))
      ·rw[<-(j rfl).2,o];conv=>rhs;unfold Fc
       rw[if_neg c,if_pos d];simp
      ·have t:Nf (l.drop k):=⟨λs C=>B.ne s (List.mem_of_mem_drop C),B.ord.sublist (List.drop_sublist ..)⟩;rw[o]at t;have:=(Abj.1 t.ord).1 x q;show a+1<x.1;omega
    |true=>
     refine P6 rfl (Abw (g (out++[l[k]],f,a,Br) ⟨p,i,by simp;omega,λe=>(by cases e),λ_=>⟨?_,λx q=>(n rfl).2 x (by rw[o];exact Aag _ q)⟩⟩));show(out++[l[k]])++l.drop (k+1)=_;rw[<-(n rfl).1,o];simp
   ·have d:¬a+1<l[k].1:=d;have F:(if l[k].1<f then l[k].1 else f)=min f l[k].1:=by split<;>omega
    have G:(if a<l[k].2 then l[k].2 else a)=max a l[k].2:=by split<;>omega
    unfold Cg at i q;dsimp only at i;refine Abx (by split<;>omega) (Abx (by split<;>omega) ?_);rw[F,G];refine g (out,min f l[k].1,max a l[k].2,r) ⟨by show min f l[k].1<=max a l[k].2;omega,by unfold Cg;dsimp only;omega,by show out.length<=k+1+1;omega,λe=>⟨by have:=(j e).1;show out.length<=k+1;omega,?_⟩,λe=>?_⟩
    ·show out++Fc (min f l[k].1,max a l[k].2) (l.drop (k+1))=_;rw[<-(j e).2,o];conv=>rhs;unfold Fc
     rw[if_neg c,if_neg d]
    ·have:=(n e).2 l[k] v;omega
 ·rintro⟨out,f,a,r⟩ E ⟨p,i,A,j,n⟩;dsimp only at p i A j n⊢;have y:=Fw;refine Qb (by show¬(l.length:Int)<l.length;omega) ?_;cases r with
  |false=>
   refine VX rf (PC (by omega) ?_);have:=(j rf).2;simp[Fc]at this;rw[this];exact u
  |true=>
   refine P6 rf ?_;have:=(n rf).1;simp at this;rw[this];exact u
theorem Oi(v:b<=2000000000000000)(hi:∀s∈l,s.1<=s.2->Cg b s)(x:l.length<1000000000)(w:l.length<fu):
  Ok (jY fu l) λr=>Nf r/\(∀n,A0 r n↔A0 l n)/\r.length<=l.length/\∀s∈r,Cg b s:=by
 have mt (k:Nat) (a:k<l.length) (n:Int):A0 (l.take (k+1)) n↔A0 (l.take k) n\/(l[k].1<=n/\n<=l[k].2):=by grind[cu,Eo,AJ,Bc]
 refine SA (λk r=>Nf r/\(∀n,A0 r n↔A0 (l.take k) n)/\r.length<=k/\∀s∈r,Cg b s) l.length ⟨.nil,λn=>by simp,by simp,by simp⟩ w ?_ ?_
 ·intro k r nx a ⟨d,i,j,f⟩ g;refine VB (by omega) (Aah a ?_);refine N7 (λc=>?_) (λc=>?_)
  ·have c:l[k].2<l[k].1:=c;refine g r ⟨d,λn=>?_,by omega,f⟩;rw[mt k a,i];constructor;· exact .inl
   ·rintro(h|h);· exact h
    ·omega
  ·have c:¬l[k].2<l[k].1:=c;have m:=hi l[k] (AN a) (by omega);obtain⟨p,q⟩:=KP r l[k] d (by omega);have t:r.length<1000000000:=Afr j (by omega);have u:r.length<fu:=Afr j (by omega);refine jq (nx:=λo=>nx (o,k+1)) v f m (by omega) d t u ?_;refine g (Fc l[k] r) ⟨p,λn=>?_,by have:=Nq r l[k];omega,QP r l[k] m f⟩;rw[q,mt k a,i];exact Or.comm
 simp_all[nx,Qb,MI]
def C8(b:Int)(s:Sp):Sp:=(max (-b) s.1,min b s.2)
theorem S'{b:Int}{s:Sp}(h:(C8 b s).1<=(C8 b s).2):Cg b (C8 b s):=by grind[Cg,C8]
theorem Oq{n:Int} :A0 (l.map (C8 b)) n↔A0 l n/\ -b<=n/\n<=b:=by simp only[A0,By,C8];grind
def Es(s:Sp):Prop:=GK.DY s.1/\GK.DY s.2
theorem V7(v:∀s∈x.1,Es s)(y:x.1.length<1000000000)(u:x.1.length<fu):
  Ok (jX fu x) λr=>Nf r/\(∀n,A0 r n↔A0 x.1 n/\ -100000000000<=n/\n<=100000000000)/\r.length<=x.1.length/\∀s∈r,Cg 100000000000 s:=by
 have i:=Fw;refine SA (λk r=>r=(x.1.take k).map (C8 100000000000)) x.1.length (by simp) u ?_ ?_
 ·intro k r nx c h d;have f:=v _ (AN c);unfold Es GK.DY at f;have w:r.length=k:=by grind
  refine VB (by omega) (Aah c ?_);refine Abx (by dsimp only;split<;>omega) (Abx (by dsimp only;split<;>omega) (PC (by dsimp only;omega) ?_));refine d _ ?_;rw[GB c,Aan,h];have j:(if x.1[k].1< -100000000000 then-100000000000 else x.1[k].1)=max (-100000000000) x.1[k].1:=by split<;>omega
  have l:(if 100000000000<x.1[k].2 then 100000000000 else x.1[k].2)=min 100000000000 x.1[k].2:=by split<;>omega
  dsimp only;rw[j,l];rfl
 ·intro r nx h;refine Qb (by omega) ?_;subst h;refine Oz (Oi (b:=100000000000) (by omega) (λs f h=>?_) (by simp;omega) (by simp;omega)) λr ⟨m,o,p,q⟩=>MI ⟨m,λn=>?_,by simpa using p,q⟩;· obtain⟨t,_,rfl⟩:=By.1 f;exact S' h
  ·rw[o,Aav,Oq]
def rk(x:Int):Int:=(x/10000)*9999+x %10000-1
def ur(y:Int):Int:=(y/9999)*10000+y %9999+1
theorem Im{x:Int}(h:x %10000≠0):ur (rk x)=x:=by grind[ur,rk]
theorem ZL{y:Int} :rk (ur y)=y:=by grind[ur,rk]
theorem Vm{y:Int} :ur y %10000≠0:=by grind[ur]
theorem Ir{x:Int}(a:x %10000≠0)(b:y %10000≠0):rk x<rk y↔x<y:=by grind[rk]
theorem oC(x:Int):x=10000*iY x 10000+ji x 10000/\(0<=x->0<=ji x 10000/\ji x 10000<10000)/\(x<=0->ji x 10000<=0/\ -10000<ji x 10000):=by grind
theorem VD{x:Int}(h: -1000000000000001<=x/\x<=1000000000000001):Lx fu x=Ac (rk x):=by
 have d:jW fu x=Ac (x/10000):=by
  obtain⟨f,t2,t3⟩:=oC x;have:Ok (jW fu x) (λr=>r=x/10000):=by
   refine Abw (Aaq (Abw (Aaq (N7 (λc=>Aaq (MI (by omega))) (λc=>MI ?_)))));refine Eq.trans (b:=iY x 10000) ?_ (by omega);cases x with
   |ofNat a=>rfl
   |negSucc a=>
    show(Nat.rec (0:Int) (λn _=>Int.negSucc n) ((a+1)/10000):Int)= -(((a+1)/10000:Nat):Int);cases(a+1)/10000<;>rfl
  exact this.eq
 refine(BY d (Aaq (Aaq (Aaq (Aaq (Aaq (MI (P:=λr=>r=rk x) ?_))))))).eq;grind[rk]
def NN(s:Sp):Int:=let a:=max (-1000000000000000) s.1;if a %10000=0 then a+1 else a
def NA(s:Sp):Int:=let a:=min 1000000000000000 s.2;if a %10000=0 then a-1 else a
theorem Up(s:Sp):NN s=if max (-1000000000000000) s.1 %10000=0 then max (-1000000000000000) s.1+1 else max (-1000000000000000) s.1:=rfl
theorem Uw(s:Sp):NA s=if min 1000000000000000 s.2 %10000=0 then min 1000000000000000 s.2-1 else min 1000000000000000 s.2:=rfl
def SE(s:Sp):List Sp:=if NN s<=NA s then [(NN s,NA s)]else []
def G4(s:Sp):Sp:=(rk s.1,rk s.2)
def KZ(s:Sp):Sp:=(ur s.1,ur s.2)
def xp(s:Sp):Prop:=(NN s %10000≠0/\ -1000000000000000<=NN s)/\(NA s %10000≠0/\NA s<=1000000000000000)
theorem JK(s:Sp):xp s:=by grind[xp,NN,NA]
theorem PU:A0 ((l.flatMap SE).map G4) y↔A0 l (ur y)/\ -1000000000000000<=ur y/\ur y<=1000000000000000:=by
 have g:= @Vm y;have key:∀s:Sp,(rk (NN s)<=y↔NN s<=ur y)/\(y<=rk (NA s)↔ur y<=NA s):=λs=>by obtain⟨⟨c,_⟩,d,_⟩:=JK s;have a:=Ir g c;have b:=Ir d g;grind[ZL]
 simp only[A0,By,Pe];constructor
 ·rintro⟨_,⟨t,⟨s,f,e⟩,rfl⟩,c,d⟩;unfold SE at e;split at e;· simp at e;subst e;have c:=(key s).1.1 c;have d:=(key s).2.1 d;rw[Up]at c;rw[Uw]at d;exact⟨⟨s,f,by omega,by omega⟩,by omega,by omega⟩
  grind
 ·rintro⟨⟨s,f,c,d⟩,j,k⟩;have h:NN s<=ur y:=by rw[Up];omega
  have i:ur y<=NA s:=by rw[Uw];omega
  exact⟨_,⟨(NN s,NA s),⟨s,f,by unfold SE;rw[if_pos (by omega)];simp⟩,rf⟩,(key s).1.2 h,(key s).2.2 i⟩
theorem Jc{x:Int}(h:GK.DY x):U_ fu x=Ac (Ds (x %10000=0)):=by refine Ok.eq ?_;rw[U_];grind[Abw,Aaq,MI]
theorem JJ(l:List Sp):(l.flatMap SE).length<=l.length:=by
 induction l with
 |nil=>simp
 |cons s l b=>
  grind[SE]
theorem SC(O:∀s∈x.2,Es s)(V:x.2.length<1000000000)(L:x.2.length<fu):
  Ok (jV fu x) λr=>Nf r/\(∀y,A0 r y↔A0 x.2 (ur y)/\ -1000000000000000<=ur y/\ur y<=1000000000000000)/\r.length<=x.2.length/\∀s∈r,Cg 1000000000000000 s:=by
 have A:=Fw;refine SA (λk r=>r=((x.2.take k).flatMap SE).map G4) x.2.length (by simp) L ?_ ?_
 ·intro k r nx q h l;have v:=O _ (AN q);unfold Es GK.DY at v;have N:r.length<=k:=by grind[Alv,JJ,List.length_take]
  refine VB (by omega) (Aah q ?_);have o:=JK x.2[k];have B:(if x.2[k].1< -1000000000000000 then-1000000000000000 else x.2[k].1)=max (-1000000000000000) x.2[k].1:=by split<;>omega
  have C:(if 1000000000000000<x.2[k].2 then 1000000000000000 else x.2[k].2)=min 1000000000000000 x.2[k].2:=by split<;>omega
  have st:((x.2.take (k+1)).flatMap SE).map G4=r++(SE x.2[k]).map G4:=by rw[GB q,Acn,Aan,h];simp
  have S:NN x.2[k]=if max (-1000000000000000) x.2[k].1 %10000=0 then max (-1000000000000000) x.2[k].1+1 else max (-1000000000000000) x.2[k].1:=rfl;have T:NA x.2[k]=if min 1000000000000000 x.2[k].2 %10000=0 then min 1000000000000000 x.2[k].2-1 else min 1000000000000000 x.2[k].2:=rfl;have w:SE x.2[k]=if NN x.2[k]<=NA x.2[k]then [(NN x.2[k],NA x.2[k])]else []:=rfl;rw[w]at st;have no:¬NN x.2[k]<=NA x.2[k]->Ok (nx (r,k+1)) (λr=>Nf r/\(∀y,A0 r y↔A0 x.2 (ur y)/\ -1000000000000000<=ur y/\ur y<=1000000000000000)/\r.length<=x.2.length/\∀s∈r,Cg 1000000000000000 s):=λc=>l r (by rw[st,if_neg c];simp);have yes:∀a b,a=NN x.2[k]->b=NA x.2[k]->a<=b->Ok (Ab (Lx fu a) λQ=>Ab (Lx fu b) λR=>Ah (r.length+1<=Aj) (nx (r++[(Q,R)],k+1))) (λr=>Nf r/\(∀y,A0 r y↔A0 x.2 (ur y)/\ -1000000000000000<=ur y/\ur y<=1000000000000000)/\r.length<=x.2.length/\∀s∈r,Cg 1000000000000000 s):=λa b J p K=>by unfold xp at o;refine BY (VD (by omega)) (BY (VD (by omega)) (Abw (l _ ?_)));rw[st,if_pos (by omega),J,p];rfl
  generalize NN x.2[k]=P at*;simp only[gt_iff_lt,B,C];refine Aaq (Aaq (N7 (λc=>no (by omega)) (λc=>BY (Jc (by unfold GK.DY;omega)) (N7 (λz=>Aaq (BY (Jc (by unfold GK.DY;omega)) (N7 (λm=>Aaq (N7 (λf=>yes _ _ (by omega) (by omega) f) (λf=>no (by omega)))) (λm=>N7 (λf=>yes _ _ (by omega) (by omega) f) (λf=>no (by omega)))))) (λz=>BY (Jc (by unfold GK.DY;omega)) (N7 (λm=>Aaq (N7 (λf=>yes _ _ (by omega) (by omega) f) (λf=>no (by omega)))) (λm=>N7 (λf=>yes _ _ (by omega) (by omega) f) (λf=>no (by omega)))))))))
 ·intro r nx h;refine Qb (by show¬(x.2.length:Int)<x.2.length;omega) ?_;subst h;have N:=JJ x.2;rw[Aav];refine Oz (Oi (b:=1000000000000000) (by omega) (λs v h=>?_) (by simp only[Aap];omega) (by simp only[Aap];omega)) λr ⟨F,G,H,I⟩=>MI ⟨F,λn=>?_,by simp only[Aap]at H;omega,I⟩
  ·obtain⟨t,j,rfl⟩:=By.1 v;obtain⟨u,_,j⟩:=Pe.1 j;have o:=JK u;unfold SE at j;split at j;· simp at j;subst j;unfold xp at o;unfold Cg G4 rk;dsimp only;omega
   ·simp at j
  ·rw[G,PU]
theorem N6(h: -1000000000000001<=y/\y<=1000000000000001):jU fu y=Ac (ur y):=by
 have t:y=9999*iY y 9999+ji y 9999/\(0<=y->0<=ji y 9999/\ji y 9999<9999)/\(y<=0->ji y 9999<=0/\ -9999<ji y 9999):=by
  have h:=Int.mul_tdiv_add_tmod y 9999;have e:ji y 9999= -ji (-y) 9999:=by rw[Int.neg_tmod];omega
  grind
 obtain⟨g,t2,t3⟩:=t;refine Ok.eq ?_;unfold ur;refine Abw (Aaq (Abw (Aaq (N7 (λc=>?_) (λc=>?_)))));· exact Aaq (Aaq (Aaq (Aaq (Aaq (Aaq (MI (by omega)))))))
 grind[Aaq,MI]
theorem nq(i:∀s∈l,Cg 1000000000000000 s)(m:l.length<1000000000)(g:l.length<fu):jT fu (a,l)=Ac (a,l.map KZ):=by
 refine Ok.eq ?_;have f:=Fw;refine SA (λk r=>r=(l.take k).map KZ) l.length (by simp) g ?_ ?_
 ·intro k r nx b h c;have j:=i _ (AN b);unfold Cg at j;have d:r.length=k:=by grind
  refine VB (by omega) (Aah b (BY (N6 (y:=l[k].1) (by omega)) (BY (N6 (y:=l[k].2) (by omega)) (Abw (c _ ?_)))));rw[GB b,Aan,h];rfl
 simp_all[nx,Qb,MI]
def A8(r:List Sp×List Sp)(n:Int):Prop:=A0 r.1 n/\ -100000000000<=n/\n<=100000000000
def A6(r:List Sp×List Sp)(y:Int):Prop:=A0 r.2 (ur y)/\ -1000000000000000<=ur y/\ur y<=1000000000000000
theorem MH(h1:∀s∈x.1,Es s)(h2:∀s∈x.2,Es s)(p:x.1.length<1000000000)(q:x.2.length<1000000000)(l:x.1.length<fu)(o:x.2.length<fu):
  Ok (QZ fu x) λr=> ∃m,r.2=m.map KZ/\Nf r.1/\(∀s∈r.1,Cg 100000000000 s)/\Nf m/\(∀s∈m,Cg 1000000000000000 s)/\(∀n,A0 r.1 n↔A8 x n)/\(∀y,A0 m y↔A6 x y)/\r.1.length<=x.1.length/\m.length<=x.2.length:=by
 refine Oz (V7 h1 p l) λa ⟨d,f,g,h⟩=>Oz (SC h2 q o) λm ⟨i,j,k,c⟩=>?_;refine BY (nq c (by omega) (by omega)) (MI ⟨m,rf,d,h,i,c,f,j,g,k⟩)
def Ol(s:Sp):Prop:=s.1 %10000≠0/\s.2 %10000≠0
def Lj(x:Int):Int:=if(x+1) %10000=0 then x+2 else x+1
theorem dv{x:Int}(a:x %10000≠0):Lj x %10000≠0:=by grind[Lj]
theorem ZN{x:Int}(h:x %10000≠0):rk (Lj x)=rk x+1:=by grind[Lj,rk]
theorem oT{x:Int}(a:x %10000≠0)(b:y %10000≠0):rk (max x y)=max (rk x) (rk y):=by have:=Ir a b;grind
theorem JA:∀(l out:List Sp),(∀s∈l,Ol s)->(∀s∈out,Ol s)->(EC Lj out l).map G4=Ho (out.map G4) (l.map G4)/\∀s∈EC Lj out l,Ol s
 | [],out,_,d=>⟨rfl,d⟩
 |s::l,out,g,d=>by
  have e:=g s (by simp);have b:∀s∈l,Ol s:=λt h=>g t (by grind);rcases Aek out with rfl|⟨o,t,rfl⟩;· exact JA l [s] b (by grind)
  ·rw[List.concat_eq_append]at d⊢;have f:=d t (by simp);have i:=Ir (dv f.2) e.1;rw[ZN f.2]at i;unfold EC Ho;simp only[Aat,Aan,Aee,List.getLast?_append,All,Option.some_or,List.dropLast_concat]
   by_cases c:s.1<=Lj t.2;· rw[if_pos c,if_pos (show(G4 s).1<=(G4 t).2+1 by unfold G4;omega)];have:=JA l (o++[(t.1,max t.2 s.2)]) b (λu a=>by
     rcases AT.1 a with a|a;· exact d u (by simp[a])
     ·simp at a;subst a;exact⟨f.1,by have:=f.2;have:=e.2;omega⟩);simp only[Aan,Aat,Aee]at this;rw[show G4 (t.1,max t.2 s.2)=((G4 t).1,max (G4 t).2 (G4 s).2)from by unfold G4;rw[oT f.2 e.2]]at this;exact this
   ·rw[if_neg c,if_neg (show¬(G4 s).1<=(G4 t).2+1 by unfold G4;omega)];have:=JA l (o++[t]++[s]) b (λu a=>by
     rcases AT.1 a with a|a;· exact d u a
     ·simp at a;subst a;exact e);simpa only[Aan,Aat,Aee]using this
theorem W_(h:∀s∈l,Ol s):(l.map G4).map KZ=l:=by rw[Aaj];refine(Abr λs a=>?_).trans (Afi l);have:=h s a;show(ur (rk s.1),ur (rk s.2))=s;rw[Im this.1,Im this.2]
theorem SD(hi:∀s∈l,Cg 1000000000000000 s)(j:∀s∈l,s.1<=s.2)(q:∀s∈l,Ol s)(h:l.length<=12)(p:20<fu):
  Ok (F75 fu l) λr=> ∃m,r=m.map KZ/\Nf m/\∀y,A0 m y↔A0 (l.map G4) y:=by
 have c:=Fw;have e:List.take (min l.length (T9 l.length ((0:Int),(0:Int))).length) l++List.drop (min l.length (T9 l.length ((0:Int),(0:Int))).length) (T9 l.length ((0:Int),(0:Int)))=l:=by simp
 refine Abw (PC (by omega) ?_);rw[e];refine Oz (K1 h p) λr ⟨i,u⟩=>?_;have D:=i.length_eq;refine(Sk (g:=Lj) (b:=1000000000000000) (by omega) (λx B C=>?_) (λs j=>hi s (i.mem_iff.1 j)) (by omega) (by omega)).mono λE e=>?_;· obtain⟨F,t2,t3⟩:=oC (x+1);refine Ok.eq ?_;unfold Lj;exact Aaq (Abw (Aaq (N7 (λc=>Aaq (MI (by omega))) (λc=>Aaq (MI (by omega))))))
 ·subst e;have d:∀s∈r,Ol s:=λs h=>q s (i.mem_iff.1 h);obtain⟨v,w⟩:=JA r [] d (by simp);obtain⟨z,A⟩:=E1 (r.map G4) [] .nil (λs h=>by
   obtain⟨t,k,rfl⟩:=By.1 h;have a:=d t k;have b:=j t (i.mem_iff.1 k);have:=Ir a.2 a.1;show rk t.1<=rk t.2;omega) (by
   rw[Adl];refine u.imp_of_mem λ{a b} n o h=>?_;have:=Ir (d b o).1 (d a n).1;show rk a.1<=rk b.1;omega) (by simp);refine⟨Ho [] (r.map G4),?_,z,λy=>?_⟩;· have:=W_ w;rw[v]at this;exact this.symm
  grind[G4,Ot,Bc]
def YX(s:Sp):List Sp:=if(C8 100000000000 s).1<=(C8 100000000000 s).2 then [C8 100000000000 s]else []
theorem VT{n:Int} :A0 (l.flatMap YX) n↔A0 l n/\ -100000000000<=n/\n<=100000000000:=by
 rw[<-Oq];simp only[A0,Pe,By];constructor
 ·grind[YX]
 ·rintro⟨_,⟨s,d,rfl⟩,b,c⟩;exact⟨_,⟨s,d,by grind[YX]⟩,b,c⟩
theorem P9(l:List Sp):(l.flatMap YX).length<=l.length:=by
 induction l with
 |nil=>simp
 |cons s l b=>
  grind[YX]
theorem bm:∀s∈l.flatMap YX,s.1<=s.2/\Cg 100000000000 s:=λs b=>by grind[YX,S']
theorem Uz:∀s∈l.flatMap SE,s.1<=s.2/\Ol s/\Cg 1000000000000000 s:=λs d=>by
 obtain⟨u,_,a⟩:=Pe.1 d;have b:=JK u;unfold xp at b;unfold SE at a;split at a;· next c=>simp at a;subst a;exact⟨c,⟨b.1.1,b.2.1⟩,by unfold Cg;omega⟩
 grind
theorem RY(h1:∀s∈x.1,Es s)(h2:∀s∈x.2,Es s)(V:x.1.length<=12)(W:x.2.length<=12)(C:20<fu):
  Ok (WZ fu x) λr=> ∃m,r.2=m.map KZ/\Nf r.1/\Nf m/\(∀n,A0 r.1 n↔A8 x n)/\(∀y,A0 m y↔A6 x y):=by
 have G:=Fw;refine SA (λk r=>r=(x.1.take k).flatMap YX) x.1.length (by simp) (by omega) ?_ ?_
 ·intro k r nx o h j;have v:=h1 _ (AN o);unfold Es GK.DY at v;have N:r.length<=k:=by rw[h];have:=P9 (x.1.take k);simp only[Abh]at this;omega
  refine VB (by show(k:Int)<x.1.length;omega) (Aah o ?_);have q:(if x.1[k].1< -100000000000 then-100000000000 else x.1[k].1)=(C8 100000000000 x.1[k]).1:=by unfold C8;dsimp only;split<;>omega
  have t:(if 100000000000<x.1[k].2 then 100000000000 else x.1[k].2)=(C8 100000000000 x.1[k]).2:=by unfold C8;dsimp only;split<;>omega
  have st:(x.1.take (k+1)).flatMap YX=r++YX x.1[k]:=by rw[GB o,Acn,h];simp
  have l:YX x.1[k]=if(C8 100000000000 x.1[k]).1<=(C8 100000000000 x.1[k]).2 then [C8 100000000000 x.1[k]]else []:=rfl;refine Abx (by dsimp only;split<;>omega) (Abx (by dsimp only;split<;>omega) ?_);dsimp only;rw[q,t];refine N7 (λc=>Abw (j _ ?_)) (λc=>j _ ?_);all_goals simp_all
 ·intro A nx w;refine Qb (by show¬(x.1.length:Int)<x.1.length;omega) ?_;rw[Aav]at w;refine SA (λk r=>r=(x.2.take k).flatMap SE) x.2.length (by simp) (by omega) ?_ ?_
  ·intro k r nx o h j;have v:=h2 _ (AN o);unfold Es GK.DY at v;have N:r.length<=k:=by rw[h];have:=JJ (x.2.take k);simp only[Abh]at this;omega
   refine VB (by show(k:Int)<x.2.length;omega) (Aah o ?_);have Z:=JK x.2[k];have q:(if x.2[k].1< -1000000000000000 then-1000000000000000 else x.2[k].1)=max (-1000000000000000) x.2[k].1:=by split<;>omega
   have t:(if 1000000000000000<x.2[k].2 then 1000000000000000 else x.2[k].2)=min 1000000000000000 x.2[k].2:=by split<;>omega
   have st:(x.2.take (k+1)).flatMap SE=r++SE x.2[k]:=by rw[GB o,Acn,h];simp
   have X:=Up x.2[k];have Y:=Uw x.2[k];have l:SE x.2[k]=if NN x.2[k]<=NA x.2[k]then [(NN x.2[k],NA x.2[k])]else []:=rfl;rw[l]at st;have no:¬NN x.2[k]<=NA x.2[k]->Ok (nx (r,k+1)) (λr=> ∃m,r.2=m.map KZ/\Nf r.1/\Nf m/\(∀n,A0 r.1 n↔A8 x n)/\(∀y,A0 m y↔A6 x y)):=λc=>j r (by rw[st,if_neg c];simp);have yes:∀a b,a=NN x.2[k]->b=NA x.2[k]->a<=b->Ok (Ah (r.length+1<=Aj) (nx (r++[(a,b)],k+1))) (λr=> ∃m,r.2=m.map KZ/\Nf r.1/\Nf m/\(∀n,A0 r.1 n↔A8 x n)/\(∀y,A0 m y↔A6 x y)):=λa b J u K=>by refine Abw (j _ ?_);rw[st,if_pos (by omega),J,u]
   generalize NN x.2[k]=R at*;generalize NA x.2[k]=M at*;simp only[gt_iff_lt,q,t];generalize I:max (-1000000000000000) x.2[k].1=Q at*;generalize H:min 1000000000000000 x.2[k].2=L at*;have t1:=oC Q;have t2:=oC L;refine Aaq (Aaq (Abw (Aaq (N7 (λF=>Aaq (Abw (Aaq (N7 (λp=>Aaq (N7 (λi=>yes _ _ (by omega) (by omega) i) (λi=>no (by omega)))) (λp=>N7 (λi=>yes _ _ (by omega) (by omega) i) (λi=>no (by omega))))))) (λF=>Abw (Aaq (N7 (λp=>Aaq (N7 (λi=>yes _ _ (by omega) (by omega) i) (λi=>no (by omega)))) (λp=>N7 (λi=>yes _ _ (by omega) (by omega) i) (λi=>no (by omega))))))))))
  ·intro B nx z;refine Qb (by show¬(x.2.length:Int)<x.2.length;omega) ?_;rw[Aav]at z;subst w z;have O:=P9 x.1;have P:=JJ x.2;refine Oz (Rp (b:=100000000000) (by omega) (λs h=>(bm s h).2) (λs h=>(bm s h).1) (Aam O V) C) λa ⟨D,E⟩=>?_;refine Oz (SD (λs h=>(Uz s h).2.2) (λs h=>(Uz s h).1) (λs h=>(Uz s h).2.1) (Aam P W) C) λr ⟨m,S,T,U⟩=>?_;exact MI ⟨m,S,D,T,λn=>by rw[E,VT];rfl,λy=>by rw[U,PU];rfl⟩
theorem gC(h1:∀s∈x.1,Es s)(h2:∀s∈x.2,Es s)(z:x.1.length<=12)(A:x.2.length<=12)(o:20<fu)(B:20<gu):
  Ok (QZ gu x) λr=>WZ fu x=Ac r/\∃m,r.2=m.map KZ/\Nf r.1/\(∀s∈r.1,Cg 100000000000 s)/\Nf m/\(∀s∈m,Cg 1000000000000000 s)/\(∀n,A0 r.1 n↔A8 x n)/\(∀y,A0 m y↔A6 x y)/\r.1.length<=x.1.length/\m.length<=x.2.length:=by
 obtain⟨r,e,m,h⟩:=MH (fu:=gu) h1 h2 (by omega) (by omega) (by omega) (by omega);refine⟨r,e,?_,m,h⟩;obtain⟨d,f,w,p,q,t,u,v⟩:=RY (fu:=fu) h1 h2 z A o;grind[trans,Nf.unique,Prod.ext]
def Ei(r:List Sp×List Sp)(I F:Int->Prop):Prop:= ∃m,r.2=m.map KZ/\Nf r.1/\(∀s∈r.1,Cg 100000000000 s)/\Nf m/\(∀s∈m,Cg 1000000000000000 s)/\(∀n,A0 r.1 n↔I n)/\(∀y,A0 m y↔F y)
theorem Ei.unique{s:List Sp×List Sp} :Ei r I F->Ei s I F->r=s:=by rintro⟨m,c,d,_,e,_,f,g⟩ ⟨k,h,i,_,j,_,l,o⟩;grind[trans,Nf.unique,Prod.ext]
theorem Nf.aG{r:List Sp}(h:Nf r)(D:∀n,A0 r n↔A0 l n):r.length<=l.length:=by
 have E:∀s∈r,∃t∈l,t.1<=s.1/\s.1<=t.2:=λs g=>by obtain⟨t,b,k,m⟩:=(D s.1).1 ⟨s,g,Abn _,h.ne s g⟩;grind
 have key:∀(q:List Sp) (l:List Sp),q.Pairwise (λs t=>s.2+1<t.1)->(∀s∈q,s.1<=s.2)->(∀s∈q,∃t∈l,t.1<=s.1/\s.1<=t.2)->(∀s∈q,∀t∈l,t.1<=s.1->s.1<=t.2->t.2<=s.2)->q.length<=l.length:=by
  intro q;induction q with
  |nil=>simp
  |cons s q I=>
   intro l G e c d;obtain⟨t,b,k,m⟩:=c s (Aas ..);have f:=Abj.1 G;have:=I (l.erase t) f.2 (λu a=>e u (Aag _ a)) (λu a=>by
    obtain⟨v,A,o,p⟩:=c u (Aag _ a);have B:v≠t:=by grind
    exact⟨v,(Agw B).2 A,o,p⟩) (λu a v A o p=>d u (Aag _ a) v (List.mem_of_mem_erase A) o p);grind
 refine key r l h.ord h.ne E λs g t b k m=>?_;refine Agn.1 λF=>?_;have e:=h.ne s g;obtain⟨u,a,o,p⟩:=(D (s.2+1)).2 ⟨t,b,by omega,by omega⟩;have z:u≠s:=by rintro rfl;omega
 obtain⟨i,C,rfl⟩:=Aau g;obtain⟨j,y,rfl⟩:=Aau a;have x:i≠j:=by rintro rfl;exact z rfl
 rcases Nat.lt_or_gt_of_ne x with w|w;· have:=Aaw.1 h.ord i j C y w;omega
 ·have:=Aaw.1 h.ord j i y C w;omega
theorem Mg{b:List Sp}(g:a.length<fu):Ok (tc fu (a,b)) λr=>r=Ds (a=b):=by
 refine N7 (λc=>MI ?_) (λc=>?_);· grind
 ·refine TV (λk=>a.take k=b.take k) a.length (by simp) g ?_ ?_
  ·intro k nx f h e;refine P2 (Aah f (Aah (show k<b.length by omega) (PY (λd=>MI ?_) (λd=>e ?_))));all_goals grind[Prod.ext,cu]
  ·intro nx h;refine P3 (MI ?_);grind
theorem eqP{b:List Sp}(c:a.length<fu):tc fu (a,b)=Ac (Ds (a=b)):=(Mg c).eq
theorem vr{b:List Sp}(c:a.length<fu):jS fu (a,b)=Ac (Ds (a=b)):=(Mg c).eq
theorem v_{a b:List Sp×List Sp}(h1:a.1.length<fu)(h2:a.2.length<fu):F78 fu (a,b)=Ac (Ds (a=b)):=by refine(Ok.eq ?_);refine BY (eqP h1) (N7 (λc=>BY (eqP h2) (MI ?_)) (λc=>MI ?_));all_goals grind
theorem v8{a b:List Sp×List Sp}(h1:a.1.length<fu)(h2:a.2.length<fu):tv fu (a,b)=Ac (Ds (a=b)):=by refine(Ok.eq ?_);refine BY (vr h1) (N7 (λc=>BY (vr h2) (MI ?_)) (λc=>MI ?_));all_goals grind
structure Lw(x:List Sp×List Sp):Prop where
 f1:∀s∈x.1,Es s
 f2:∀s∈x.2,Es s
 n1:x.1.length<=12
 n2:x.2.length<=12
theorem Ep(h:Lw x)(q:20<fu):
  ∃r,WZ fu x=Ac r/\Ei r (A8 x) (A6 x)/\r.1.length<=x.1.length/\r.2.length<=x.2.length:=by
 obtain⟨r,e,m,p,k,o,i,j⟩:=RY (fu:=fu) h.f1 h.f2 h.n1 h.n2 q;refine⟨r,e,⟨m,p,k,λs f=>?_,o,λs f=>?_,i,j⟩,?_,?_⟩;· have g:=k.ne s f;have a:=((i s.1).1 ⟨s,f,Abn _,g⟩).2;have b:=((i s.2).1 ⟨s,f,g,Abn _⟩).2;grind[Cg]
 ·have g:=o.ne s f;have a:=((j s.1).1 ⟨s,f,Abn _,g⟩).2;have b:=((j s.2).1 ⟨s,f,g,Abn _⟩).2;grind[ur,Cg]
 ·exact Aam (k.aG (l:=x.1.flatMap YX) λn=>(i n).trans VT.symm) (P9 _)
 ·rw[p,Aap];refine Aam (o.aG (l:=(x.2.flatMap SE).map G4) λn=>(j n).trans PU.symm) ?_;grind[Alv,JJ]
theorem PV(h:Lw x)(o:20<fu)(p:20<gu):
  ∃r,QZ gu x=Ac r/\WZ fu x=Ac r/\Ei r (A8 x) (A6 x)/\r.1.length<=x.1.length/\r.2.length<=x.2.length:=by
 obtain⟨r,e,c,m,b,d,f,g,i,j,k,l,n⟩:=gC (fu:=fu) (gu:=gu) h.f1 h.f2 h.n1 h.n2 o p;exact⟨r,e,c,⟨m,b,d,f,g,i,j,k⟩,l,by grind⟩
theorem Ge:∀(l:List Sp) (lo hi:Int),(DU lo hi l).length<=l.length+1
 | [],lo,hi=>by grind[DU]
 |s::l,lo,hi=>by have:=Ge l (s.2+1) hi;grind[DU]
theorem Sy(p:b<=2000000000000000)(n:∀s∈l,Cg b s)(r:l.length<1000000000)(q:l.length<fu):jO fu (l,lo,hi)=Ac (DU lo hi l):=by
 refine(Ok.eq ?_);have i:=Fw;generalize j:DU lo hi l=G;refine Zm (λ(s:List Sp×Int) k=>(s.1,s.2,k)) (λk s=>s.1.length<=k/\s.1++DU s.2 hi (l.drop k)=G) l.length ?_ ?_ fu 0 ([],lo) ⟨by simp,j⟩ (by omega) (by omega)
 ·rintro k ⟨out,d⟩ nx h ⟨g,a⟩ e;dsimp only at g a⊢;have m:l.drop k=l[k]::l.drop (k+1):=Aar h;have o:=n l[k] (AN h);unfold Cg at o;have eq:=a;rw[m]at eq;unfold DU at eq;refine P2 (Aah h (N7 (λc=>?_) (λc=>?_)));· refine Aaq (Abw (Aaq (e (out++[(d,l[k].1-1)],l[k].2+1) ⟨by grind,?_⟩)));grind
  ·rw[if_neg c]at eq;exact Aaq (e (out,l[k].2+1) ⟨by show out.length<=k+1;omega,eq⟩)
 ·rintro⟨out,d⟩ nx ⟨g,a⟩;dsimp only at g a⊢;rw[Aec]at a;unfold DU at a;refine P3 (N7 (λc=>Abw (MI ?_)) (λc=>MI ?_));· rw[if_pos c]at a;exact a
  ·rw[if_neg c]at a;simpa using a
def Uj(I:Int->Prop)(n:Int):Prop:=(-100000000000<=n/\n<=100000000000)/\¬I n
def Xz(F:Int->Prop)(y:Int):Prop:=(-999900000000000<=y/\y<=999899999999999)/\¬F y
theorem Qe:∀(l:List Sp),lo>= -b->hi<=b->Nf (DU lo hi l)->(∀n,A0 (DU lo hi l) n->lo<=n/\n<=hi)->∀s∈DU lo hi l,Cg b s:=λl f g e d s c=>by have h:=e.ne s c;have a:=d s.1 ⟨s,c,Abn _,h⟩;have b:=d s.2 ⟨s,c,h,Abn _⟩;grind[Cg]
structure jv(x:List Sp×List Sp)(fu:Nat):Prop where
 f1:∀s∈x.1,Es s
 f2:∀s∈x.2,Es s
 n1:x.1.length<100000000/\x.1.length+2<fu
 n2:x.2.length<100000000/\x.2.length+2<fu
theorem Lw.lg(h:Lw x)(a:20<fu):jv x fu:=by have:=h.n1;have:=h.n2;exact⟨h.f1,h.f2,by omega,by omega⟩
theorem Jq(h:jv x fu):
  ∃r,TG fu x=Ac r/\Ei r (Uj (A8 x)) (Xz (A6 x))/\r.1.length<=x.1.length+1/\r.2.length<=x.2.length+1:=by
 have F:=h.n1;have G:=h.n2;have:Ok (TG fu x) (λr=>Ei r (Uj (A8 x)) (Xz (A6 x))/\r.1.length<=x.1.length+1/\r.2.length<=x.2.length+1):=by
  refine Oz (V7 h.f1 (by omega) (by omega)) λa ⟨v,w,B,i⟩=>BY (Sy (b:=100000000000) (by omega) i (by omega) (by omega)) (Oz (SC h.f2 (by omega) (by omega)) λm ⟨j,f,C,z⟩=>BY (Sy (b:=1000000000000000) (by omega) z (by omega) (by omega)) ?_);have A:∀s∈a, -100000000000<=s.1/\s.2<=100000000000:=λs d=>by grind[Cg]
  have kb:∀s∈m, -999900000000000<=s.1/\s.2<=999899999999999:=λs d=>by have h:=j.ne s d;have p:=((f s.1).1 ⟨s,d,Abn _,h⟩).2;have q:=((f s.2).1 ⟨s,d,h,Abn _⟩).2;grind[ur]
  obtain⟨k,l⟩:=Gd a (-100000000000) 100000000000 v A;obtain⟨o,t⟩:=Gd m (-999900000000000) 999899999999999 j kb;have D:=Ge a (-100000000000) 100000000000;have E:=Ge m (-999900000000000) 999899999999999;have u:=Qe (b:=1000000000000000) m (by omega) (by omega) o (λn g=>((t n).1 g).1);refine BY (nq u (by omega) (by omega)) (MI ⟨⟨_,rfl,k,Qe a (by omega) (by omega) k (λn g=>((l n).1 g).1),o,u,λn=>?_,λy=>?_⟩,by dsimp only;omega,by rw[Aap];omega⟩);· rw[l,w];rfl
  ·rw[t,f];rfl
 trivial
def Gf(g p:Int->Int):Int->Int->List Sp->List Sp
 |b,a,[]=>if b<=a then [(b,a)]else []
 |b,a,s::l=>if b<=p s.1 then(b,p s.1)::Gf g p (g s.2) a l else Gf g p (g s.2) a l
theorem bB:∀(l:List Sp) (lo hi:Int),Gf (· +1) (· -1) lo hi l=DU lo hi l
 | [],_,_=>rfl
 |s::l,lo,hi=>by unfold Gf DU;rw[bB l];grind
def Q3(x:Int):Int:=if(x-1) %10000=0 then x-2 else x-1
theorem de{x:Int}(a:x %10000≠0):Q3 x %10000≠0:=by grind[Q3]
theorem ZM{x:Int}(h:x %10000≠0):rk (Q3 x)=rk x-1:=by grind[Q3,rk]
theorem Wa:∀(l:List Sp) (lo hi:Int),lo %10000≠0->hi %10000≠0->(∀s∈l,Ol s)->(Gf Lj Q3 lo hi l).map G4=DU (rk lo) (rk hi) (l.map G4)/\∀s∈Gf Lj Q3 lo hi l,Ol s
 | [],lo,hi,b,d,_=>by
  have:=Ir d b;unfold Gf DU;by_cases c:lo<=hi;· simp only[Aee];rw[if_pos c,if_pos (by omega)];exact⟨rfl,λs a=>by simp at a;subst a;trivial⟩
  grind
 |s::l,lo,hi,b,d,g=>by
  have a:=g s (by simp);obtain⟨f,i⟩:=Wa l (Lj s.2) hi (dv a.2) d λt h=>g t (by grind);have:=Ir (de a.1) b;rw[ZM a.1]at this;rw[ZN a.2]at f;unfold Gf;simp only[Aat];unfold DU;by_cases c:lo<=Q3 s.1
  ·rw[if_pos c,if_pos (show rk lo<(G4 s).1 by show rk lo<rk s.1;omega)];refine⟨?_,λt e=>?_⟩;· rw[Aat,f];show(rk lo,rk (Q3 s.1))::_=_;rw[ZM a.1];rfl
   ·rcases Aao.1 e with rfl|e;· exact⟨b,de a.1⟩
    simp_all
  grind[rk,G4]
theorem Qd{nb na:Int->Option Int}{g p:Int->Int}{x0:Sp}{l:List Sp}(h1:∀s∈l,nb s.1=Ac (p s.1))(h2:∀s∈l,na s.2=Ac (g s.2)):∀(d fu k:Nat) (b:Int),k+d=l.length->d<fu->
  Ok (Ad fu (λ(e:Int×Nat) f=>
  bif Ds ((↑e.2:Int)<(↑(FB l):Int))then
   Ab (idx l (↑e.2:Int)) λi=>
   Ab (nb i.1) λm=>
   bif Ds (e.1<=m)then
    IC ((e.1,m)) (
     Ac (([],Br))) (
     Ab (na i.2) λt=>
     f ((t,e.2+1)))
   else
    Ab (na i.2) λu=>
    f ((u,e.2+1))
  else
   bif Ds (e.1<=x0.2)then
    IC ((e.1,x0.2)) (
     Ac (([],Br))) (
     Ac (([],Br)))
   else
    Ac (([],Br))) ((b,k))) λr=>r=(Gf g p b x0.2 (l.drop k),Br)
 |_,0,_,_,_,o=>by omega
 |0,fu+1,k,b,q,_=>by
  obtain rfl:k=l.length:=by omega
  rw[Aec];unfold Gf;refine Qb (by omega) (N7 (λc=>MI ?_) (λc=>MI ?_));all_goals grind
 |d+1,fu+1,k,b,q,o=>by
  have a:k<l.length:=by omega
  rw[Aar a];unfold Gf;have n:=h1 _ (AN a);have j:=h2 _ (AN a);have h:=Qd (x0:=x0) h1 h2 d fu (k+1) (g l[k].2) (by omega) (by omega);refine VB (by omega) (Aah a (BY n (N7 (λc=>?_) (λc=>?_))));· rw[if_pos c];have h:=h.eq;refine⟨_,?_,rfl⟩;rw[j];show IC _ _ (Ad fu _ (g l[k].2,k+1))=_;rw[h];rfl
  simp_all[if_neg,BY]
theorem KD{x0:Sp}{b:List Sp} :∀(l o:List Sp),o.length+l.length<4294967296->Iy (λ(e:Int×Int) (c:List (Int×Int)) a=>Ah (FB c+1<=Aj)<|a ((c++[e]))) (λf=>Re Br<|some ((f,x0,b))) l o=Ac (o++l,x0,b)
 | [],o,_=>by simp[Iy,Re]
 |y::l,o,h=>by have d:=Fw;rw[Iy,nL (show o.length+1<=Aj by omega)];rw[KD l (o++[y]) (by grind)];simp
theorem MX(g p:Int->Int):∀(l:List Sp) (lo hi:Int),(Gf g p lo hi l).length<=l.length+1
 | [],lo,hi=>by grind[Gf]
 |s::l,lo,hi=>by have:=MX g p l (g s.2) hi;grind[Gf]
theorem bz(b:∀s∈l,Cg 100000000000 s)(f:l.length<1000000000)(e:l.length<fu):uD fu (x0,l)=Ac (DU x0.1 x0.2 l,x0,l):=by
 refine(Ok.eq ?_);have c:uF fu (x0,l)=Ac (DU x0.1 x0.2 l,Br):=by
  refine(Ok.eq ?_);have:=Qd (nb:=λx=>uG fu x) (na:=λx=>ym fu x) (g:=(· +1)) (p:=(· -1)) (x0:=x0) (l:=l) (λs a=>by
   refine(Ok.eq ?_);have:=b s a;unfold Cg at this;exact Aaq (MI rf)) (λs a=>by
   refine(Ok.eq ?_);have:=b s a;unfold Cg at this;exact Aaq (MI rf)) l.length fu 0 x0.1 (by omega) e;rw[bB]at this;trivial
 have h:=Ge l x0.1 x0.2;have d:uE fu (x0,l)=Ac (DU x0.1 x0.2 l,x0,l):=by refine(Ok.eq ?_);exact BY c ⟨_,(KD _ [] (by grind)),rf⟩
 exact BY d (MI rf)
theorem bx(b:∀s∈l,Cg 1000000000000000 s)(i:l.length<1000000000)(f:l.length<fu):uy fu (x0,l)=Ac (Gf Lj Q3 x0.1 x0.2 l,x0,l):=by
 refine(Ok.eq ?_);have d:uA fu (x0,l)=Ac (Gf Lj Q3 x0.1 x0.2 l,Br):=by
  refine(Ok.eq ?_);exact Qd (nb:=λx=>uB fu x) (na:=λx=>yk fu x) (g:=Lj) (p:=Q3) (x0:=x0) (l:=l) (λs a=>by
   refine(Ok.eq ?_);unfold Q3;have:=b s a;unfold Cg at this;obtain⟨h,t2,t3⟩:=oC (s.1-1);exact Aaq (Abw (Aaq (N7 (λc=>Aaq (MI (by omega))) (λc=>Aaq (MI (by omega))))))) (λs a=>by
   refine(Ok.eq ?_);unfold Lj;have:=b s a;unfold Cg at this;obtain⟨h,t2,t3⟩:=oC (s.2+1);exact Aaq (Abw (Aaq (N7 (λc=>Aaq (MI (by omega))) (λc=>Aaq (MI (by omega))))))) l.length fu 0 x0.1 (by omega) f
 have j:=MX Lj Q3 l x0.1 x0.2;have e:uz fu (x0,l)=Ac (Gf Lj Q3 x0.1 x0.2 l,x0,l):=by refine(Ok.eq ?_);exact BY d ⟨_,(KD _ [] (by simp;omega)),rf⟩
 exact BY e (MI rf)
theorem Ei.congr{b a:Int->Prop}(h:Ei r I F)(hi:∀n,I n↔b n)(k:∀y,F y↔a y):Ei r b a:=by obtain⟨m,c,d,e,f,g,i,j⟩:=h;exact⟨m,c,d,e,f,g,λn=>(i n).trans (hi n),λy=>(j y).trans (k y)⟩
theorem MF(h:∀s∈l,Ol s) :A0 l (ur y)↔A0 (l.map G4) y:=by
 have d:= @Vm y;have key:∀s∈l,(s.1<=ur y/\ur y<=s.2)↔((G4 s).1<=y/\y<=(G4 s).2):=λs c=>by have a:=Ir d (h s c).1;have b:=Ir (h s c).2 d;rw[ZL]at a b;show _↔(rk s.1<=y/\y<=rk s.2);omega
 grind[A0]
theorem FT:(m.map KZ).map G4=m:=by rw[Aaj];refine(Abr λs _=>?_).trans (Afi m);show(rk (ur s.1),rk (ur s.2))=s;grind[ZL]
theorem J'{m:List Sp} :∀s∈m.map KZ,Ol s:=λs a=>by obtain⟨t,_,rfl⟩:=By.1 a;exact⟨Vm,Vm⟩
theorem VM(h:Lw x)(Z:x.1.length<=11)(n2:x.2.length<=11)(B:20<fu):
  ∃r,kG fu x=Ac r/\Ei r (Uj (A8 x)) (Xz (A6 x))/\r.1.length<=x.1.length+1/\r.2.length<=x.2.length+1:=by
 obtain⟨a,e,⟨m,g,D,w,z,V,E,i⟩,W,am⟩:=Ep h B;have Q:∀s∈a.1, -100000000000<=s.1/\s.2<=100000000000:=λs d=>by grind[Cg]
 have ends:∀s∈m,(-1000000000000000<=ur s.1/\ur s.1<=1000000000000000)/\(-1000000000000000<=ur s.2/\ur s.2<=1000000000000000):=λs d=>by have h:=z.ne s d;exact⟨((i s.1).1 ⟨s,d,Abn _,h⟩).2,((i s.2).1 ⟨s,d,h,Abn _⟩).2⟩
 have kb:∀s∈m, -999900000000000<=s.1/\s.2<=999899999999999:=λs d=>by grind[ur]
 have nm:∀s∈a.2,Ol s:=by grind[J']
 have P:∀s∈a.2,Cg 1000000000000000 s:=λs d=>by rw[g]at d;grind[Cg,KZ]
 obtain⟨K,A⟩:=Gd a.1 (-100000000000) 100000000000 D Q;obtain⟨O,l⟩:=Gd m (-999900000000000) 999899999999999 z kb;have X:=Ge a.1 (-100000000000) 100000000000;have Y:=MX Lj Q3 a.2 (-999999999999999) 999999999999999;obtain⟨v,C⟩:=Wa a.2 (-999999999999999) 999999999999999 (by omega) (by omega) nm;rw[g,FT,<-g,show rk (-999999999999999)= -999900000000000 from by decide,show rk 999999999999999=999899999999999 from by decide]at v;have L:=Qe (b:=100000000000) a.1 (by omega) (by omega) K (λn M=>((A n).1 M).1);have R:∀y,A0 (Gf Lj Q3 (-999999999999999) 999999999999999 a.2) (ur y)↔Xz (A6 x) y:=λy=>by rw[MF C,v,l,i];rfl
 have J:∀s∈Gf Lj Q3 (-999999999999999) 999999999999999 a.2,Cg 1000000000000000 s:=λs d=>by
  have f:G4 s∈DU (-999900000000000) 999899999999999 m:=by rw[<-v];exact By.2 ⟨s,d,rfl⟩
  have h:=O.ne _ f;have p:=((l _).1 ⟨_,f,Abn _,h⟩).1;have q:=((l _).1 ⟨_,f,h,Abn _⟩).1;have n:=C s d;unfold G4 rk at p q;unfold Cg;omega
 have S:Lw (DU (-100000000000) 100000000000 a.1,Gf Lj Q3 (-999999999999999) 999999999999999 a.2):=⟨λs d=>by
  have:=L s d;unfold Cg at this;unfold Es GK.DY;omega,λs d=>by
  have:=J s d;unfold Cg at this;unfold Es GK.DY;omega,by dsimp only;omega,by dsimp only;omega⟩;obtain⟨r,I,f,T,U⟩:=Ep S B;refine⟨r,?_,f.congr (λn=>?_) (λy=>?_),?_,?_⟩
 ·refine(Ok.eq ?_);have F:Vc fu () =Ac ([((-100000000000:Int),(100000000000:Int))],[((-999999999999999:Int),(999999999999999:Int))]):=by
   refine(Ok.eq ?_);rw[Vc];exact BY (rf) (MI rf)
  have G:uH fu (a.1,(-100000000000,100000000000))=Ac ((-100000000000,100000000000),a.1):=(rfl);have H:uC fu (a.2,(-999999999999999,999999999999999))=Ac ((-999999999999999,999999999999999),a.2):=(rfl);have o:a.1.length<1000000000:=by omega
  have u:a.2.length<1000000000:=by omega
  have j:a.1.length<fu:=by omega
  have k:a.2.length<fu:=by omega
  refine BY e (BY F (BY (show idx _ _=Ac (-100000000000,100000000000)from rfl) (BY G (BY (bz w o j) (BY (show idx _ _=Ac (-999999999999999,999999999999999)from rfl) (BY H (BY (bx P u k) (BY I (MI rf)))))))))
 ·show(A0 (DU (-100000000000) 100000000000 a.1) n/\ -100000000000<=n/\n<=100000000000)↔_;rw[A,E];unfold Uj;exact⟨Air,λh=>⟨h,h.1⟩⟩
 ·show(A0 _ (ur y)/\ -1000000000000000<=ur y/\ur y<=1000000000000000)↔_;rw[R];exact⟨Air,λh=>⟨h,by have:=h.1;unfold ur;omega⟩⟩
 ·dsimp only at T;have:=Ge a.1 (-100000000000) 100000000000;omega
 grind
theorem gp(h:Lw x)(j:x.1.length<=11)(k:x.2.length<=11)(g:20<fu)(i:20<gu):
  ∃r,TG gu x=Ac r/\kG fu x=Ac r/\Ei r (Uj (A8 x)) (Xz (A6 x))/\r.1.length<=x.1.length+1/\r.2.length<=x.2.length+1:=by
 obtain⟨r,e,b,d⟩:=Jq (fu:=gu) (h.lg i);obtain⟨s,c,f,_⟩:=VM (fu:=fu) h j k g;exact⟨r,e,by rw[c,f.unique b],b,d⟩
theorem Ei.lg(h:Ei r I F)(g:r.1.length<100000000/\r.1.length+2<fu)(i:r.2.length<100000000/\r.2.length+2<fu):jv r fu:=by
 obtain⟨m,c,j,d,k,e,_,_⟩:=h;refine⟨λs b=>?_,λs b=>?_,g,i⟩;· have:=d s b;unfold Cg at this;unfold Es GK.DY;omega
 ·rw[c]at b;obtain⟨t,f,rfl⟩:=By.1 b;have:=e t f;unfold Cg at this;unfold Es GK.DY KZ ur;omega
theorem Ei.A8(h:Ei r I F)(n:Int):A8 r n↔I n/\ -100000000000<=n/\n<=100000000000:=by obtain⟨m,b,c,d,e,f,a,_⟩:=h;grind[GL.A8]
theorem Ei.A6(h:Ei r I F)(y:Int):A6 r y↔F y/\ -1000000000000000<=ur y/\ur y<=1000000000000000:=by
 obtain⟨m,a,c,d,f,g,i,b⟩:=h;have e:m=r.2.map G4:=by rw[a,FT]
 have nm:∀s∈r.2,Ol s:=by grind[J']
 unfold GL.A6;rw[MF nm,<-e,b]
theorem JG(h:A6 x y): -999900000000000<=y/\y<=999899999999999:=by have:=h.2;grind[ur]
theorem ZY{y:List Sp×List Sp}(b:jv x fu)(c:jv y fu)(z:x.1.length+y.1.length<fu/\x.2.length+y.2.length<fu):
  ∃r,jN fu (x,y)=Ac r/\Ei r (λn=>A8 x n\/A8 y n) (λn=>A6 x n\/A6 y n)/\r.1.length<=x.1.length+y.1.length/\r.2.length<=x.2.length+y.2.length:=by
 have t:=b.n1;have u:=b.n2;have v:=c.n1;have w:=c.n2;have g:=Fw;obtain⟨r,e,m,f,h,i,j,k,l,o,p,q⟩:=MH (fu:=fu) (x:=(x.1++y.1,x.2++y.2)) (λs d=>(AT.1 d).elim (b.f1 s) (c.f1 s)) (λs d=>(AT.1 d).elim (b.f2 s) (c.f2 s)) (by grind) (by grind) (by grind) (by simp_all);refine⟨r,?_,⟨m,f,h,i,j,k,λn=>?_,λn=>?_⟩,by simpa using p,by rw[f];simpa using q⟩;· refine(Ok.eq ?_);exact Abw (PC (by simp;omega) (Abw (PC (by simp;omega) (BY e (MI rfl)))))
 all_goals simp_all[A8,A6,Eo,or_and_right]
theorem jk{y:List Sp×List Sp}(m:jv x fu)(s:jv y fu)(t:x.1.length+y.1.length+5<fu/\x.2.length+y.2.length+5<fu)(v:x.1.length+y.1.length+5<100000000/\x.2.length+y.2.length+5<100000000):
  ∃r,tj fu (x,y)=Ac r/\Ei r (λn=>A8 x n/\A8 y n) (λn=>A6 x n/\A6 y n)/\r.1.length<=x.1.length+y.1.length+3/\r.2.length<=x.2.length+y.2.length+3:=by
 obtain⟨p,i,f,A,B⟩:=Jq m;obtain⟨q,eq,g,C,D⟩:=Jq s;obtain⟨o,h,e,w,z⟩:=ZY (fu:=fu) (f.lg (by omega) (by omega)) (g.lg (by omega) (by omega)) (by omega);obtain⟨r,j,l,E,F⟩:=Jq (fu:=fu) (e.lg (by omega) (by omega));refine⟨r,?_,l.congr (λn=>?_) (λn=>?_),by omega,by omega⟩;· refine(Ok.eq ?_);exact BY i (BY eq (BY h (BY j (MI rfl))))
 ·unfold Uj;rw[e.A8,f.A8,g.A8];unfold Uj;constructor
  ·grind
  ·rintro⟨a,b⟩;exact⟨a.2,λ⟨k,_⟩=>k.elim (λk=>k.1.2 a) (λk=>k.1.2 b)⟩
 ·unfold Xz;rw[e.A6,f.A6,g.A6];constructor
  ·rintro⟨a,b⟩;have u: -1000000000000000<=ur n/\ur n<=1000000000000000:=by grind[ur]
   constructor;· exact IS λc=>b ⟨.inl ⟨⟨a,c⟩,u⟩,u⟩
   ·exact IS λc=>b ⟨.inr ⟨⟨a,c⟩,u⟩,u⟩
  ·rintro⟨a,b⟩;exact⟨JG a,λ⟨k,_⟩=>k.elim (λk=>k.1.2 a) (λk=>k.1.2 b)⟩
theorem XC{y:List Sp×List Sp}(e:jv x fu)(f:jv y fu)(g:x.1.length+y.1.length+8<fu/\x.2.length+y.2.length+8<fu)(i:x.1.length+y.1.length+8<100000000/\x.2.length+y.2.length+8<100000000):
  ∃r,KT fu (x,y)=Ac r/\Ei r (λn=>A8 x n/\¬A8 y n) (λn=>A6 x n/\¬A6 y n)/\r.1.length<=x.1.length+y.1.length+4/\r.2.length<=x.2.length+y.2.length+4:=by
 obtain⟨q,eq,b,j,k⟩:=Jq f;obtain⟨r,c,d,l,m⟩:=jk (fu:=fu) e (b.lg (by omega) (by omega)) (by omega) (by omega);refine⟨r,?_,d.congr (λn=>?_) (λn=>?_),by omega,by omega⟩;· refine(Ok.eq ?_);exact BY eq (BY c (MI rfl))
 ·rw[b.A8];exact⟨λh=>⟨h.1,h.2.1.2⟩,λh=>⟨h.1,⟨h.1.2,h.2⟩,h.1.2⟩⟩
 ·rw[b.A6];exact⟨λh=>⟨h.1,h.2.1.2⟩,λh=>⟨h.1,⟨JG h.1,h.2⟩,h.1.2⟩⟩
def Dg(x y:Sp):Option Sp:=if max x.1 y.1<=min x.2 y.2 then Ac (max x.1 y.1,min x.2 y.2)else Dc
theorem Gg{x:Sp}{b:List Sp} :EI (x::a) b=b.filterMap (Dg x)++EI a b:=rfl
theorem It(s:Sp):∀b:List Sp,Nf b->(b.filterMap (Dg s)).length+(b.filter λy=>Ds (s.2<y.2)).length<=b.length+1
 | [],_=>by simp
 |y::b,h=>by
  by_cases c:s.2<y.2
  ·have e:b.filterMap (Dg s)=[]:=List.filterMap_eq_nil_iff.2 λz d=>by
    have:=(Abj.1 h.ord).1 z d;unfold Dg;rw[if_neg (by omega)]
   have l:=List.length_filter_le (λy:Sp=>Ds (s.2<y.2)) b;rw[Adp,e,Aln (by simpa using c)];cases Dg s y<;>simp<;>omega
  ·have f:=It s b h.tail;rw[Adp,Alo (by simpa using c)];cases Dg s y<;>simp<;>omega
theorem K9{t:Int}{x:Sp}(h:t<x.1):∀b:List Sp,(b.filter λy=>Ds (t<y.2)).filterMap (Dg x)=b.filterMap (Dg x)
 | []=>rfl
 |y::b=>by
  have d:=K9 h b;by_cases c:t<y.2;· rw[Aln (by simpa using c),Adp,Adp,d]
  ·rw[Alo (by simpa using c),d,Adp];have:Dg x y=Dc:=by unfold Dg;rw[if_neg (by omega)]
   rw[this]
theorem Ld{t:Int} :∀ {a:List Sp},(∀x∈a,t<x.1)->∀b:List Sp,EI a (b.filter λy=>Ds (t<y.2))=EI a b
 | [],_,_=>rfl
 |x::a,h,b=>by rw[Gg,Gg,Ld (λy c=>h y (by simp[c])),K9 (h x (by simp))]
theorem M8:∀(a b:List Sp),Nf a->Nf b->(EI a b).length<=a.length+b.length
 | [],b,_,_=>by simp[EI]
 |s::a,b,f,d=>by have i:=It s b d;have g:Nf (b.filter λy=>Ds (s.2<y.2)):=⟨λx e=>d.ne x (Aax.1 e).1,d.ord.sublist Acp⟩;have h:=M8 a _ f.tail g;rw[Ld (λx e=>by have:=(Abj.1 f.ord).1 x e;omega)]at h;rw[Gg,Aab,Abo];omega
theorem HB(x:Sp)(b:List Sp):(b.filterMap (Dg x)).length<=b.length:=List.length_filterMap_le ..
theorem iL{b:List Sp}(hc:c<=2000000000000000)(y:∀s∈a,Cg c s)(z:∀s∈b,Cg c s)(n:a.length<=1000/\b.length<=1000)(u:a.length<fu/\b.length<fu):
  Ok (YI fu (a,b)) λr=>r=EI a b:=by
 rw[YI];have v:=Fw;refine SA (λk r=>r=EI (a.take k) b/\r.length<=k*1000) a.length ⟨by simp[EI],by simp⟩ u.1 ?_ ?_
 ·intro k r nx o ⟨h,C⟩ p;have A:=y _ (AN o);unfold Cg at A;have st:EI (a.take (k+1)) b=r++b.filterMap (Dg a[k]):=by
   rw[GB o,h];unfold EI;rw[Acn];simp;rfl
  refine VB (by show(k:Int)<a.length;omega) (Aah o ?_);refine SA (λj q=>q=r++(b.take j).filterMap (Dg a[k])) b.length (by simp) u.2 ?_ ?_
  ·intro j q t m g f;have B:=z _ (AN m);unfold Cg at B;have D:q.length<=k*1000+1000:=by
    rw[g,Aab];have:=HB a[k] (b.take j);rw[Abh]at this;omega
   have w:(if a[k].1<b[j].1 then b[j].1 else a[k].1)=max a[k].1 b[j].1:=by split<;>omega
   have x:(if b[j].2<a[k].2 then b[j].2 else a[k].2)=min a[k].2 b[j].2:=by split<;>omega
   have i:(b.take (j+1)).filterMap (Dg a[k])=(b.take j).filterMap (Dg a[k])++(Dg a[k] b[j]).toList:=by rw[GB m,List.filterMap_append,Adp];cases Dg a[k] b[j]<;>rfl
   refine VB (by show(j:Int)<b.length;omega) (Aah m (Abx (by dsimp only;split<;>omega) (Abx (by dsimp only;split<;>omega) ?_)));dsimp only;rw[w,x];refine N7 (λd=>Abw (f _ ?_)) (λd=>f _ ?_);· rw[i,g];unfold Dg;rw[if_pos d];simp
   ·rw[i,g];unfold Dg;rw[if_neg d];simp
  ·intro q t g;refine Qb (by show¬(b.length:Int)<b.length;omega) (p q ⟨?_,?_⟩);· rw[g,st,Aav]
   ·rw[g,Aab];have:=HB a[k] (b.take b.length);rw[Abh]at this;omega
 ·intro r nx ⟨h,_⟩;refine Qb (by show¬(a.length:Int)<a.length;omega) (MI ?_);rw[h,Aav]
theorem cw{b:List Sp}(hc:c<=2000000000000000)(d:∀s∈a,Cg c s)(e:∀s∈b,Cg c s)(n:a.length<=1000/\b.length<=1000)(f:a.length<fu/\b.length<fu):YI fu (a,b)=Ac (EI a b):=(iL hc d e n f).eq
theorem cv{b:List Sp}(e:∀s∈a,Cg c s)(f:∀s∈b,Cg c s):∀s∈EI a b,s.1<=s.2/\Cg c s:=λs g=>by obtain⟨x,i,h⟩:=Pe.1 g;grind[Cg]
theorem iK{b:List Sp} :EI (a.map KZ) (b.map KZ)=(EI a b).map KZ:=by
 have mono:∀x y:Int,ur x<=ur y↔x<=y:=λx y=>by grind[ur]
 have one:∀x y:Sp,Dg (KZ x) (KZ y)=(Dg x y).map KZ:=λx y=>by grind[Dg,KZ,max,min]
 induction a with
 |nil=>rfl
 |cons x a d=>
  rw[Aat,Gg,Gg,d,Aan];congr 1;rw[List.filterMap_map,List.map_filterMap];congr 1;grind
theorem WQ{y:List Sp×List Sp}(o:Lw x)(u:Lw y)(n:x.1.length+y.1.length<=12/\x.2.length+y.2.length<=12)(j:20<fu):
  ∃r,ux fu (x,y)=Ac r/\Ei r (λn=>A8 x n/\A8 y n) (λn=>A6 x n/\A6 y n)/\r.1.length<=x.1.length+y.1.length/\r.2.length<=x.2.length+y.2.length:=by
 obtain⟨a,T,H,al,N⟩:=Ep o j;obtain⟨b,U,I,bl,Q⟩:=Ep u j;obtain⟨m,f,L,A,B,a5,M,C⟩:=H;obtain⟨k,g,O,D,E,b5,P,F⟩:=I;have J:∀(m:List Sp) (z:List Sp×List Sp),Nf m->(∀y,A0 m y↔A6 z y)->∀s∈m.map KZ,Cg 1000000000000000 s:=λm z W G s e=>by obtain⟨t,l,rfl⟩:=By.1 e;have h:=W.ne t l;have p:=((G t.1).1 ⟨t,l,Abn _,h⟩).2;have q:=((G t.2).1 ⟨t,l,h,Abn _⟩).2;grind[Cg,KZ]
 have v:=J m x B C;have w:=J k y E F;rw[<-f]at v;rw[<-g]at w;have R:=cw (fu:=fu) (c:=100000000000) (by omega) A D (by omega) (by omega);have S:=cw (fu:=fu) (c:=1000000000000000) (by omega) v w (by omega) (by omega);have l1:=M8 a.1 b.1 L O;have l2:=M8 m k B E;have i:EI a.2 b.2=(EI m k).map KZ:=by rw[f,g,iK]
 have lm:m.length=a.2.length:=by rw[f,Aap]
 have lk:k.length=b.2.length:=by rw[g,Aap]
 have i1:=cv A D;have i2:=cv v w;have sm:Lw (EI a.1 b.1,EI a.2 b.2):=⟨λs e=>by
  have:=(i1 s e).2;unfold Cg at this;unfold Es GK.DY;omega,λs e=>by
  have:=(i2 s e).2;unfold Cg at this;unfold Es GK.DY;omega,by dsimp only;omega,by rw[i,Aap];omega⟩;obtain⟨r,V,X,z1,K⟩:=Ep sm j;dsimp only at z1 K;rw[i,Aap]at K;refine⟨r,?_,X.congr (λn=>?_) (λz=>?_),by omega,by omega⟩;· refine(Ok.eq ?_);exact BY T (BY U (BY R (BY S (BY V (MI rfl)))))
 ·show(A0 (EI a.1 b.1) n/\ -100000000000<=n/\n<=100000000000)↔_;rw[S2,M,P];exact⟨Air,λh=>⟨h,h.1.2⟩⟩
 ·show(A0 (EI a.2 b.2) (ur z)/\ -1000000000000000<=ur z/\ur z<=1000000000000000)↔_;have:A0 (EI a.2 b.2) (ur z)↔A6 x z/\A6 y z:=by
   rw[i,MF J',FT,S2,C,F]
  rw[this];exact⟨Air,λh=>⟨h,h.1.2⟩⟩
theorem Ei.sm(h:Ei r I F)(b:r.1.length<=12)(c:r.2.length<=12):Lw r:=by have:=h.lg (fu:=100) (by omega) (by omega);exact⟨this.f1,this.f2,b,c⟩
theorem Ga{y:List Sp×List Sp}(g:Lw x)(i:Lw y)(n:x.1.length+y.1.length<=11/\x.2.length+y.2.length<=11)(c:20<fu)(p:25<gu):
  ∃r,KT gu (x,y)=Ac r/\YH fu (x,y)=Ac r/\Ei r (λn=>A8 x n/\¬A8 y n) (λn=>A6 x n/\¬A6 y n)/\r.1.length<=x.1.length+y.1.length+1/\r.2.length<=x.2.length+y.2.length+1:=by
 obtain⟨r,e,f,o⟩:=XC (fu:=gu) (g.lg (by omega)) (i.lg (by omega)) (by omega) (by omega);obtain⟨q,eq,b,d,t,u⟩:=gp (fu:=fu) (gu:=fu) i (by omega) (by omega) c c;obtain⟨s,j,l,v,w⟩:=WQ (fu:=fu) g (d.sm (by omega) (by omega)) (by omega) c;have m:Ei s (λn=>A8 x n/\¬A8 y n) (λn=>A6 x n/\¬A6 y n):=by
  refine l.congr (λn=>?_) (λn=>?_);· rw[d.A8];exact⟨λh=>⟨h.1,h.2.1.2⟩,λh=>⟨h.1,⟨h.1.2,h.2⟩,h.1.2⟩⟩
  ·rw[d.A6];exact⟨λh=>⟨h.1,h.2.1.2⟩,λh=>⟨h.1,⟨JG h.1,h.2⟩,h.1.2⟩⟩
 have k:=m.unique f;subst k;refine⟨s,e,?_,f,by omega,by omega⟩;refine(Ok.eq ?_);exact BY b (BY j (MI rfl))
theorem ia(h:n<4294967296):F95 fu n=Ac []:=by refine(Ok.eq ?_);rw[F95];have a:=Fw;refine P3 (Aaq (Aaq (N7 (λc=>PC (by omega) ?_) (λ_=>MI rfl))));obtain⟨k,b⟩:∃k,ae ((n:Int)-((0:Int)-(0:Int)))=k+1:=⟨n-1,by omega⟩;rw[b];exact Abw (PC ⟨by omega,by omega⟩ (MI rfl))
theorem OY{fu:Nat}{L:List (List Sp)}(h:L.flatten.length<1000000000)(g:L.length<fu):vE fu L=Ac L.flatten:=by
 refine(Ok.eq ?_);have j:=Fw;have i (k:Nat) (b:k<L.length):(L.take (k+1)).flatten=(L.take k).flatten++L[k]:=by grind[cu,List.flatten_append]
 have le (k:Nat):(L.take k).flatten.length<=L.flatten.length:=by have:=congrArg FB (congrArg List.flatten (Ace k L));grind
 refine SA (λk (s:Int)=>s=((L.take k).flatten.length:Nat)) L.length (by simp) g ?_ ?_;· intro k s nx b e c;have t:=i k b;have l:=le (k+1);rw[t,Aab]at l;refine VB (by omega) (Aah b ?_);refine Aaq (P3 (c _ ?_));grind
 ·intro s nx e;refine Qb (by omega) ?_;rw[Aav]at e;rw[e];refine BY (ia (by omega)) ?_;refine SA (λk out=>out=(L.take k).flatten) L.length (by simp) g ?_ ?_
  ·intro k out nx b d c;have t:=i k b;have l:=le (k+1);rw[t,Aab]at l;have m:out.length+L[k].length<=Aj:=by rw[d];omega
   refine VB (by omega) (Aah b (PC m (c _ ?_)));rw[t,d]
  ·intro out nx d;refine Qb (by omega) (MI ?_);rw[d,Aav]
def ab(x:Int):Int:=max (0-x) x
def Cw(x y:Int):Prop:=ab x<ab y\/(ab x=ab y/\y<x)
instance(x y:Int):Decidable (Cw x y):=inferInstanceAs (Decidable (_\/_))
theorem VQ{x:Int}(g: -2000000000000000<=x/\x<=2000000000000000)(i: -2000000000000000<=y/\y<=2000000000000000):Ok (Vg fu (x,y)) λr=>r=Ds (Cw x y):=by
 rw[Vg];have a:(if(0:Int)-x>x then(0:Int)-x else x)=ab x:=by grind[ab]
 have b:(if(0:Int)-y>y then(0:Int)-y else y)=ab y:=by grind[ab]
 rw[a,b]
 refine Aaq (Aaq (Aaq (Aaq (N7 (λc=>MI ?_) (λc=>N7 (λd=>MI ?_) (λd=>MI ?_))))));all_goals grind[Cw,ab,absurd]
theorem VR{x:Int}(a: -2000000000000000<=x/\x<=2000000000000000)(b: -2000000000000000<=y/\y<=2000000000000000):Vg fu (x,y)=Ac (Ds (Cw x y)):=(VQ a b).eq
theorem wG{x:Int}(a: -2000000000000000<=x/\x<=2000000000000000)(b: -2000000000000000<=y/\y<=2000000000000000):tg fu (x,y)=Ac (Ds (Cw x y)):=(VQ (fu:=fu) a b).eq
theorem MB{x:Int}(h:¬Cw x y)(k:¬Cw y x):x=y:=by grind[Cw,ab]
theorem RT{x:Int} :¬Cw x x:=by simp[Cw,ab]
theorem Jr{x y z:Int}(h:¬Cw x y)(k:¬Cw y z):¬Cw x z:=by grind[Cw,ab]
def CJ(o:Bool×Int)(c:Int):Bool×Int:=if !o.1||decide (Cw c o.2)then(Br,c)else o
theorem WN{b:Bool}(hc: -2000000000000000<=c/\c<=2000000000000000)(a: -2000000000000000<=v/\v<=2000000000000000):eG fu (c,b,v)=Ac (CJ (b,v) c):=by
 refine(Ok.eq ?_);rw[eG];unfold CJ;cases b with
 |false=>exact VX rfl (MI rfl)
 |true=>
  refine P6 rf (BY (VR hc a) (N7 (λd=>MI ?_) (λd=>MI ?_)));all_goals grind
theorem O9:∀(l:List Int) (o:Bool×Int),(l.foldl CJ o).1=(o.1|| !l.isEmpty)/\((l.foldl CJ o).1=Br->((l.foldl CJ o).2∈l\/(o.1=Br/\(l.foldl CJ o).2=o.2))/\(∀c∈l,¬Cw c (l.foldl CJ o).2)/\(o.1=Br->¬Cw o.2 (l.foldl CJ o).2))
 | [],o=>⟨by simp,λh=>⟨.inr ⟨h,rfl⟩,by simp,λ_=>RT⟩⟩
 |c::l,o=>by
  obtain⟨n,p⟩:=O9 l (CJ o c);have j:(CJ o c).1=Br:=by grind[CJ]
  simp only[Afl];refine⟨by grind,λh=>?_⟩;obtain⟨a,q,b⟩:=p h;have b:=b j;have hc:¬Cw c (CJ o c).2:=by grind[CJ,RT]
  have i:o.1=Br->¬Cw o.2 (CJ o c).2:=λi=>by grind[CJ,Cw,ab]
  refine⟨?_,λd g=>?_,λe=>Jr (i e) b⟩
  ·rcases a with a|⟨_,a⟩;· exact .inl (by simp[a])
   ·by_cases e:(!o.1||decide (Cw c o.2))=Br
    ·have f:CJ o c=(Br,c):=by unfold CJ;rw[if_pos e]
     exact .inl (by rw[a,f];simp)
    ·have f:CJ o c=o:=by unfold CJ;rw[if_neg e]
     have m:o.1=Br:=by simp at e;exact e.1
     exact .inr ⟨m,by rw[a,f]⟩
  ·rcases Aao.1 g with rfl|g;· exact Jr hc b
   ·exact q d g
def RO(s:Sp)(d:Int):Int:=if 0<s.1 then s.1 else if s.2<0 then s.2 else d
theorem Z':eH fu (s,d)=Ac (RO s d):=by grind[eH,RO]
def Tg(r:List Sp×List Sp):List Int:=r.1.map (λs=>RO s 0*10000)++r.2.map (λs=>RO s 1)
theorem Z_(h:Cg b s)(a: -b<=d/\d<=b): -b<=RO s d/\RO s d<=b:=by grind[Cg,RO]
theorem QK{o:Bool×Int}(h: -2000000000000000<=o.2/\o.2<=2000000000000000)(hc: -2000000000000000<=c/\c<=2000000000000000): -2000000000000000<=(CJ o c).2/\(CJ o c).2<=2000000000000000:=by grind[CJ]
theorem Ow(e:WZ fu x=Ac r)(h1:∀s∈r.1,Cg 100000000000 s)(h2:∀s∈r.2,Cg 1000000000000000 s)(n:r.1.length<fu/\r.2.length<fu):
  Vf fu x=Ac (((Tg r).foldl CJ (Ak,0)).2,((Tg r).foldl CJ (Ak,0)).1):=by
 refine(Ok.eq ?_);refine BY e ?_;refine Zm (λ(o:Bool×Int) k=>(o.2,o.1,k)) (λk o=>o=((r.1.take k).map λs=>RO s 0*10000).foldl CJ (Ak,0)/\ -2000000000000000<=o.2/\o.2<=2000000000000000) r.1.length ?_ ?_ fu 0 (Ak,0) ⟨by simp,by simp⟩ (by omega) (by omega);· intro k o nx f ⟨i,c⟩ g;have l:=h1 _ (AN f);have m:=Z_ (d:=0) l (by omega);dsimp only;refine P2 (Aah f (BY Z' (Aaq (BY (WN (by omega) c) ?_))));refine g (CJ o (RO r.1[k] 0*10000)) ⟨?_,QK c (by omega)⟩;rw[GB f,Aan,Adc,<-i];rfl
 ·intro o nx ⟨i,c⟩;dsimp only;refine Qb (by omega) ?_;refine Zm (λ(o:Bool×Int) k=>(o.2,o.1,k)) (λk p=>p=((r.2.take k).map λs=>RO s 1).foldl CJ o/\ -2000000000000000<=p.2/\p.2<=2000000000000000) r.2.length ?_ ?_ fu 0 o ⟨by simp,c⟩ (by omega) (by omega);· intro k p nx f ⟨j,c⟩ g;have l:=h2 _ (AN f);have m:=Z_ (d:=1) l (by omega);dsimp only;refine P2 (Aah f (BY Z' (BY (WN (by omega) c) ?_)));refine g (CJ p (RO r.2[k] 1)) ⟨?_,QK c (by omega)⟩;rw[GB f,Aan,Adc,<-j];rfl
  ·simp_all[Tg,P3,MI,Aav,Adc]
def C6(r:List Sp×List Sp)(u:Int):Prop:=(u %10000=0/\A0 r.1 (u/10000))\/(u %10000≠0/\A0 r.2 u)
theorem O6{r:List Sp×List Sp}(b:∀s∈r.1,s.1<=s.2)(d:∀s∈r.2,s.1<=s.2/\Ol s){c:Int}(h:c∈Tg r):C6 r c:=by
 rcases AT.1 h with h|h
 ·obtain⟨s,a,rfl⟩:=By.1 h;refine .inl ⟨by omega,s,a,?_⟩;grind[RO]
 ·obtain⟨s,a,rfl⟩:=By.1 h;have:=d s a;unfold Ol at this;refine .inr ⟨?_,s,a,?_⟩<;>(unfold RO);all_goals omega
theorem Lh{r:List Sp×List Sp}{u:Int}(h:C6 r u):∃c∈Tg r,¬Cw u c:=by
 rcases h with⟨h,s,d,a,b⟩|⟨h,s,d,a,b⟩
 ·refine⟨RO s 0*10000,Abt _ (By.2 ⟨s,d,rf⟩),?_⟩;grind[RO,Cw,ab]
 ·refine⟨RO s 1,Aca _ (By.2 ⟨s,d,rf⟩),?_⟩;grind[RO,Cw,ab]
structure Fy(r:List Sp×List Sp)(v:Int)(f:Bool):Prop where
 yes:f=Br->C6 r v/\∀u,C6 r u->¬Cw u v
 no:f=Ak->v=0/\∀u,¬C6 r u
theorem Fy.unique{w:Int}{f g:Bool}(h:Fy r v f)(k:Fy r w g):v=w/\f=g:=by
 cases f<;>cases g;· exact⟨(h.no rfl).1.trans (k.no rfl).1.symm,rfl⟩
 ·exact absurd (k.yes rf).1 ((h.no rf).2 w)
 ·exact absurd (h.yes rf).1 ((k.no rf).2 v)
 ·have a:=h.yes rfl;have b:=k.yes rfl;exact⟨MB (b.2 v a.1) (a.2 w b.1),rfl⟩
theorem IL{r:List Sp×List Sp}{l:List Int}(h1:∀c∈l,C6 r c)(h2:∀u,C6 r u->∃c∈l,¬Cw u c):Fy r (l.foldl CJ (Ak,0)).2 (l.foldl CJ (Ak,0)).1:=by obtain⟨a,b⟩:=O9 l (Ak,0);refine⟨λh=>?_,λh=>?_⟩;all_goals grind[Jr]
theorem Ei.nm(h:Ei r I F):(∀s∈r.1,s.1<=s.2)/\(∀s∈r.2,s.1<=s.2/\Ol s):=by
 obtain⟨m,b,c,_,d,_⟩:=h;refine⟨c.ne,λs a=>⟨?_,?_⟩⟩;· rw[b]at a;obtain⟨t,e,rfl⟩:=By.1 a;have:=d.ne t e;show ur t.1<=ur t.2;grind[ur]
 grind[J']
def cI(s:Sp):List Int:=[s.1*10000,s.2*10000]
def cF(s:Sp):List Int:=if s.1<0/\0<s.2 then [s.1,s.2,1]else [s.1,s.2]
theorem cap2:4294967296<=Aj:=by decide
theorem Ox(e:QZ fu x=Ac r)(h1:∀s∈r.1,Cg 100000000000 s)(h2:∀s∈r.2,Cg 1000000000000000 s)(N:∀s∈r.1,s.1<=s.2)(H:∀s∈r.2,s.1<=s.2/\Ol s)(T:r.1.length+r.2.length<100000000)(S:3*(r.1.length+r.2.length)<fu):
  Ok (jJ fu x) λo=>Fy r o.1 o.2:=by
 have R:=cap2;refine BY e ?_;refine SA (λk l=>l=(r.1.take k).flatMap cI/\l.length=2*k/\∀s∈r.1.take k,¬(s.1<=0/\0<=s.2)) r.1.length ⟨by simp,by simp,by simp⟩ (by omega) ?_ ?_
 ·intro k l nx n ⟨z,L,D⟩ w;have i:=h1 _ (AN n);unfold Cg at i;have st:(r.1.take (k+1)).flatMap cI=l++[r.1[k].1*10000,r.1[k].2*10000]:=by
   rw[GB n,Acn,z];rfl
  have go:¬(r.1[k].1<=0/\0<=r.1[k].2)->Ok (nx (l++[r.1[k].1*10000,r.1[k].2*10000],k+1)) (λo=>Fy r o.1 o.2):=λc=>by grind[cu]
  refine VB (by omega) (Aah n ?_);refine(N7 (λc=>N7 (λd=>MI ?_) (λd=>Aaq (Aaq (Abw (go (λk=>d k.2)))))) (λc=>Aaq (Aaq (Abw (go (λk=>c k.1))))));refine⟨λ_=>⟨.inl ⟨by omega,r.1[k],AN n,?_⟩,λu _=>?_⟩,λh=>(by grind)⟩;· exact⟨c,d⟩
  ·unfold Cw ab;omega
 ·intro l nx ⟨z,L,D⟩;refine Qb (by omega) ?_;rw[Aav]at z D;refine SA (λk q=>q=l++(r.2.take k).flatMap cF/\q.length<=l.length+3*k) r.2.length ⟨by simp,by simp⟩ (by omega) ?_ ?_
  ·intro k q F n ⟨A,M⟩ p;have st:l++(r.2.take (k+1)).flatMap cF=q++cF r.2[k]:=by
    rw[GB n,Acn,A];simp
   have y:cF r.2[k]=if r.2[k].1<0/\0<r.2[k].2 then [r.2[k].1,r.2[k].2,1]else [r.2[k].1,r.2[k].2]:=rfl;refine VB (by omega) (Aah n (Abw (N7 (λc=>N7 (λd=>PC (by simp;omega) (p _ ⟨?_,?_⟩)) (λd=>p _ ⟨?_,?_⟩)) (λc=>p _ ⟨?_,?_⟩))));· rw[st,y,if_pos ⟨c,d⟩];simp
   ·simp;omega
   ·rw[st,y,if_neg (λk=>d k.2)]
   ·simp;omega
   ·rw[st,y,if_neg (λk=>c k.1)]
   ·simp;omega
  ·intro q F ⟨A,M⟩;refine Qb (by show¬(r.2.length:Int)<r.2.length;omega) ?_;rw[Aav]at A;have Q:∀c∈q, -2000000000000000<=c/\c<=2000000000000000:=λc hc=>by
    rw[A,z]at hc;rcases AT.1 hc with hc|hc;· obtain⟨s,i,hc⟩:=Pe.1 hc;have:=h1 s i;unfold Cg at this;simp[cI]at hc;omega
    ·obtain⟨s,i,hc⟩:=Pe.1 hc;have:=h2 s i;unfold Cg at this;unfold cF at hc;split at hc<;>simp at hc<;>omega
   have O:∀c∈q,C6 r c:=λc hc=>by
    rw[A,z]at hc;rcases AT.1 hc with hc|hc
    ·obtain⟨s,i,hc⟩:=Pe.1 hc;have:=N s i;simp[cI]at hc;rcases hc with rfl|rfl;· exact .inl ⟨by omega,s,i,by omega,by omega⟩
     ·exact .inl ⟨by omega,s,i,by omega,by omega⟩
    ·obtain⟨s,i,hc⟩:=Pe.1 hc;have:=H s i;unfold Ol at this;unfold cF at hc;split at hc
     ·simp at hc;rcases hc with rfl|rfl|rfl;· exact .inr ⟨by omega,s,i,by omega,by omega⟩
      ·exact .inr ⟨by omega,s,i,by omega,by omega⟩
      ·exact .inr ⟨by omega,s,i,by omega,by omega⟩
     ·simp at hc;rcases hc with rfl|rfl;· exact .inr ⟨by omega,s,i,by omega,by omega⟩
      ·exact .inr ⟨by omega,s,i,by omega,by omega⟩
   have P:∀u,C6 r u->∃c∈q,¬Cw u c:=λu K=>by
    rw[A,z];rcases K with⟨h,s,i,a,b⟩|⟨h,s,i,a,b⟩
    ·have:=D s i;rcases Aeg 0 s.1 with c|c;· exact⟨s.1*10000,Abt _ (Pe.2 ⟨s,i,by simp[cI]⟩),by unfold Cw ab;omega⟩
     ·exact⟨s.2*10000,Abt _ (Pe.2 ⟨s,i,by simp[cI]⟩),by unfold Cw ab;omega⟩
    ·have:=H s i;unfold Ol at this;by_cases c:s.1<0/\0<s.2;· exact⟨1,Aca _ (Pe.2 ⟨s,i,by unfold cF;rw[if_pos c];simp⟩),by unfold Cw ab;omega⟩
     ·rcases Aeg 0 s.1 with d|d;· exact⟨s.1,Aca _ (Pe.2 ⟨s,i,by unfold cF;rw[if_neg c];simp⟩),by unfold Cw ab;omega⟩
      ·exact⟨s.2,Aca _ (Pe.2 ⟨s,i,by unfold cF;rw[if_neg c];simp⟩),by unfold Cw ab;omega⟩
   refine Zm (λ(o:Bool×Int) k=>(o.2,o.1,k)) (λk o=>o=(q.take k).foldl CJ (Ak,0)/\ -2000000000000000<=o.2/\o.2<=2000000000000000) q.length ?_ ?_ fu 0 (Ak,0) ⟨by simp,by simp⟩ (by omega) (by omega)
   ·intro k o nx n ⟨C,G⟩ w;have hc:=Q _ (AN n);have st:(q.take (k+1)).foldl CJ (Ak,0)=CJ o q[k]:=by
     rw[GB n,Adc,<-C];rfl
    have I:=QK G hc;have B:=w (CJ o q[k]) ⟨st.symm,I⟩;dsimp only;refine P2 (Aah n ?_);obtain⟨f,v⟩:=o;cases f with
    |false=>exact VX rfl B
    |true=>
     refine P6 rf (BY (wG hc G) (N7 (λd=>?_) (λd=>?_)))
     ·have d:Cw q[k] v:=d;have E:CJ (Br,v) q[k]=(Br,q[k]):=by unfold CJ;simp[d]
      rw[E]at B;exact B
     ·have d:¬Cw q[k] v:=d;have E:CJ (Br,v) q[k]=(Br,v):=by unfold CJ;simp[d]
      rw[E]at B;exact B
   ·intro o nx ⟨C,_⟩;dsimp only;refine P3 (MI ?_);rw[Aav]at C;rw[C];exact IL O P
theorem TT{z:List Sp×List Sp}(h1:Nf m)(h2:∀y,A0 m y↔A6 z y):∀s∈m.map KZ,Cg 1000000000000000 s:=λs b=>by obtain⟨t,a,rfl⟩:=By.1 b;have h:=h1.ne t a;have p:=((h2 t.1).1 ⟨t,a,Abn _,h⟩).2;have q:=((h2 t.2).1 ⟨t,a,h,Abn _⟩).2;grind[Cg,KZ]
theorem H8(g:Lw x)(o:20<fu)(B:80<gu):
  ∃r v f,Ei r (A8 x) (A6 x)/\jJ gu x=Ac (v,f)/\Vf fu x=Ac (v,f)/\Fy r v f:=by
 obtain⟨r,e,l,b,C,D⟩:=PV (fu:=fu) (gu:=gu) g o (by omega);have H:=g.n1;have I:=g.n2;obtain⟨i,j⟩:=b.nm;have d:=b;obtain⟨m,t,E,k,w,F,G,y⟩:=d;have a:=TT w y;rw[<-t]at a;obtain⟨⟨v,f⟩,n,h⟩:=Ox e k a i j (by omega) (by omega);have p:=Ow l k a ⟨by omega,by omega⟩;have q:=IL (λc hc=>O6 i j hc) (λu s=>Lh s);obtain⟨z,A⟩:=h.unique q;grind
theorem E3(h:Ei r I F)(u:Int):C6 r u↔(u %10000=0/\I (u/10000))\/(u %10000≠0/\F (rk u)):=by
 obtain⟨m,a,d,e,f,g,c,b⟩:=h;unfold C6;rw[c];constructor
 ·rintro(h|⟨h,k⟩);· grind
  ·refine .inr ⟨h,?_⟩;rw[<-b,<-FT (m:=m),<-a,<-MF (by grind[J']),Im h];omega
 ·rintro(h|⟨h,k⟩);· exact .inl h
  ·refine .inr ⟨h,?_⟩;rw[<-b,<-FT (m:=m),<-a,<-MF (by rw[a];exact J'),Im h]at k;exact k
theorem bq{u:Int}(n: -1000000000000000<=u/\u<=1000000000000000)(m:x.1.length<fu/\x.2.length<fu):Ok (tf fu (x,u)) λb=>b=Br↔C6 x u:=by
 have o:jI fu u=Ac Br:=by grind[jI]
 obtain⟨p,t2,t3⟩:=oC u;refine BY o (P6 rfl (BY (Jc (by omega)) (N7 (λc=>?_) (λc=>?_))))
 ·have eq:iY u 10000=u/10000:=by omega
  refine Abw (Abx (by omega) ?_);rw[eq];refine TV (λk=> ∀s∈x.1.take k,¬(s.1<=u/10000/\u/10000<=s.2)) x.1.length (by simp) m.1 ?_ ?_
  ·intro k nx i h j;have go:¬(x.1[k].1<=u/10000/\u/10000<=x.1[k].2)->Ok (nx (k+1)) (λb=>b=Br↔C6 x u):=λd=>j λs f=>by
    grind[cu]
   refine P2 (Aah i (N7 (λa=>N7 (λb=>MI ?_) (λb=>go λk=>b k.2)) (λa=>go λk=>a k.1)));exact⟨λ_=> .inl ⟨c,_,AN i,a,b⟩,λ_=>rfl⟩
  ·intro nx h;refine P3 (MI ⟨λh=>(by grind),λk=>?_⟩);rcases k with⟨_,s,f,k⟩|⟨k,_⟩;all_goals grind
 ·refine TV (λk=> ∀s∈x.2.take k,¬(s.1<=u/\u<=s.2)) x.2.length (by simp) m.2 ?_ ?_
  ·intro k nx i h j;have go:¬(x.2[k].1<=u/\u<=x.2[k].2)->Ok (nx (k+1)) (λb=>b=Br↔C6 x u):=λd=>j λs f=>by
    rw[GB i]at f;grind
   refine P2 (Aah i (N7 (λa=>N7 (λb=>MI ?_) (λb=>go λk=>b k.2)) (λa=>go λk=>a k.1)));exact⟨λ_=> .inr ⟨c,_,AN i,a,b⟩,λ_=>rfl⟩
  ·intro nx h;rw[Aav]at h;refine P3 (MI ⟨λh=>(by cases h),λk=>?_⟩);rcases k with⟨k,_⟩|⟨_,s,f,k⟩;· exact absurd k c
   ·exact absurd k (h s f)
theorem S1{y:List Sp×List Sp}(O:Lw x)(hy:Lw y)(h5:x.1.length+y.1.length<=11/\x.2.length+y.2.length<=11)(N:20<fu)(hg:200<gu):
  ∃c,U9 gu (x,y)=Ac c/\Lz fu (x,y)=Ac c:=by
 obtain⟨p,S,n,W,p1,p2⟩:=Ga (fu:=fu) (gu:=gu) O hy h5 N (by omega);obtain⟨q,eq,s,X,q1,q2⟩:=Ga (fu:=fu) (gu:=gu) hy O (by omega) N (by omega);have sp:=W.sm (by omega) (by omega);have sq:=X.sm (by omega) (by omega);obtain⟨J,v,f,F,_,ev,lv⟩:=H8 (fu:=fu) (gu:=gu) sp N (by omega);obtain⟨K,w,g,G,_,E,P⟩:=H8 (fu:=fu) (gu:=gu) sq N (by omega);obtain⟨o,R,V,o1,o2⟩:=ZY (fu:=gu) (sp.lg (by omega)) (sq.lg (by omega)) (by omega);have so:=V.lg (fu:=gu) (by omega) (by omega);obtain⟨ro,er,m,Y,m2,m3,m4,m5,m6,m7,m8,m9⟩:=MH (fu:=gu) so.f1 so.f2 (by omega) (by omega) (by omega) (by omega);have hr:Ei ro (A8 o) (A6 o):=⟨m,Y,m2,m3,m4,m5,m6,m7⟩;have D:=TT m4 m7;rw[<-Y]at D;have lm:ro.2.length=m.length:=by grind
 obtain⟨k1,k2⟩:=hr.nm;obtain⟨⟨z,h⟩,T,I⟩:=Ox er m3 D k1 k2 (by omega) (by omega);have t:∀u,C6 ro u↔C6 J u\/C6 K u:=λu=>by rw[E3 hr,E3 F,E3 G,V.A8,V.A6];grind[A8,A6]
 have B:∀u,C6 J u->C6 x u/\ -1000000000000000<=u/\u<=1000000000000000:=λu k=>by
  rcases(E3 F u).1 k with⟨a,b⟩|⟨a,b⟩;· have b:=(W.A8 _).1 b;exact⟨.inl ⟨a,b.1.1.1⟩,by omega⟩
  ·have b:=(W.A6 _).1 b;have c:=b.1.1.1;rw[Im a]at c b;exact⟨.inr ⟨a,c⟩,b.2⟩
 have C:∀u,C6 K u->¬C6 x u/\ -1000000000000000<=u/\u<=1000000000000000:=λu k=>by
  rcases(E3 G u).1 k with⟨a,b⟩|⟨a,b⟩
  ·have b:=(X.A8 _).1 b;refine⟨λk=>?_,by omega⟩;rcases k with⟨_,k⟩|⟨k,_⟩;· exact b.1.2 ⟨k,b.2⟩
   omega
  ·have b:=(X.A6 _).1 b;have D:=b.2;rw[Im a]at D;refine⟨λk=>?_,D⟩;rcases k with⟨k,_⟩|⟨_,k⟩;· exact a k
   ·exact b.1.2 ⟨by rw[Im a];exact k,b.2⟩
 have xn:=O.n1;have ref:(h=Ak->U9 gu (x,y)=Ac 0)/\(h=Br->C6 J z->U9 gu (x,y)=Ac (-1))/\(h=Br->C6 K z->U9 gu (x,y)=Ac 1):=by
  refine⟨λe=>?_,λe k=>?_,λe k=>?_⟩<;>refine(Ok.eq ?_)<;>rw[U9]<;>subst e;· exact BY S (BY eq (BY R (BY T (VX rfl (MI rfl)))))
  ·have k:=B z k;exact BY S (BY eq (BY R (BY T (P6 rfl (Oz (bq k.2 (by omega)) λb U=>VX (U.2 k.1) (MI rfl))))))
  ·have k:=C z k;exact BY S (BY eq (BY R (BY T (P6 rfl (Oz (bq k.2 (by omega)) λb U=>P6 (by cases b;rfl;exact absurd (U.1 rfl) k.1) (MI rfl))))))
 have bw:∀u,C6 J u\/C6 K u-> -2000000000000000<=u/\u<=2000000000000000:=λu k=>k.elim (λk=>by have:=(B u k).2;omega) (λk=>by have:=(C u k).2;omega);have l:∀c,Ok (Lz fu (x,y)) (λr=>r=c)->Lz fu (x,y)=Ac c:=λc k=>k.eq;have H:∀u,C6 J u\/C6 K u->h=Br:=λu k=>by
  cases h with
  |true=>rfl
  |false=>exact absurd ((t u).2 k) ((I.no rfl).2 u)
 cases f with
 |false=>
  have nv:=(lv.no rfl).2;cases g with
  |false=>
   have Z:=(P.no rfl).2;refine⟨0,ref.1 ?_,l _ ?_⟩;· cases h with
    |false=>rfl
    |true=>exact((t z).1 (I.yes rfl).1).elim (λk=>absurd k (nv z)) (λk=>absurd k (Z z))
   ·exact BY n (BY ev (BY s (BY E (VX rf (VX rf (MI rf))))))
  |true=>
   have A:=H w (.inr (P.yes rfl).1);refine⟨1,ref.2.2 A (((t z).1 (I.yes A).1).resolve_left (nv z)),l _ ?_⟩;exact BY n (BY ev (BY s (BY E (VX rfl (P6 rfl (P6 rfl (P6 rfl (MI rfl))))))))
 |true=>
  have L:=lv.yes rfl;have A:=H v (.inl L.1);have M:=I.yes A;cases g with
  |false=>
   have Z:=(P.no rfl).2;refine⟨-1,ref.2.1 A (((t z).1 M.1).resolve_right (Z z)),l _ ?_⟩;exact BY n (BY ev (BY s (BY E (P6 rfl (VX rfl (MI rfl))))))
  |true=>
   have Q:=P.yes rfl;have en:=VR (fu:=fu) (bw v (.inl L.1)) (bw w (.inr Q.1));by_cases c:Cw v w;· refine⟨-1,ref.2.1 A (((t z).1 M.1).resolve_right λk=>Jr (M.2 v ((t v).2 (.inl L.1))) (Q.2 z k) c),l _ ?_⟩;exact BY n (BY ev (BY s (BY E (P6 rfl (P6 rfl (VX rfl (BY en (VX (decide_eq_true c) (MI rfl)))))))))
   ·refine⟨1,ref.2.2 A (((t z).1 M.1).resolve_left λk=>?_),l _ ?_⟩;· have e:=MB c (Jr (M.2 w ((t w).2 (.inr Q.1))) (L.2 z k));exact(C w Q.1).1 (e▸(B v L.1).1)
    ·exact BY n (BY ev (BY s (BY E (P6 rf (P6 rf (VX rf (BY en (P6 (decide_eq_false c) (MI rf)))))))))
theorem oZ{y:List Sp×List Sp}(c:Lw x)(d:Lw y)(n:x.1.length+y.1.length<=12/\x.2.length+y.2.length<=12)(h:20<fu):
  ∃r,F97 fu (x,y)=Ac r/\Ei r (λn=>A8 x n\/A8 y n) (λn=>A6 x n\/A6 y n)/\r.1.length<=x.1.length+y.1.length/\r.2.length<=x.2.length+y.2.length:=by
 have k:Lw (x.1++y.1,x.2++y.2):=⟨λs b=>(AT.1 b).elim (c.f1 s) (d.f1 s),λs b=>(AT.1 b).elim (c.f2 s) (d.f2 s),by grind,by grind⟩;obtain⟨s,g,b,i,j⟩:=Ep k h;refine⟨s,?_,b.congr (λn=>?_) (λn=>?_),by grind,by grind⟩
 ·refine(Ok.eq ?_);have e:vE fu [x.1,y.1]=Ac (x.1++y.1):=by
   grind[OY]
  have f:vE fu [x.2,y.2]=Ac (x.2++y.2):=by grind[OY]
  exact BY e (BY f (BY g (MI rf)))
 all_goals simp_all[A8,A6,Eo,or_and_right]
theorem XB{y:List Sp×List Sp}(i:Lw x)(j:Lw y)(n:x.1.length+y.1.length<=11/\x.2.length+y.2.length<=11)(d:20<fu):
  ∃r,YH fu (x,y)=Ac r/\Ei r (λn=>A8 x n/\¬A8 y n) (λn=>A6 x n/\¬A6 y n)/\r.1.length<=x.1.length+y.1.length+1/\r.2.length<=x.2.length+y.2.length+1:=by
 obtain⟨q,b,c,k,l⟩:=VM (fu:=fu) j (by omega) (by omega) d;obtain⟨s,e,f,m,o⟩:=WQ (fu:=fu) i (c.sm (by omega) (by omega)) (by omega) d;have g:Ei s (λn=>A8 x n/\¬A8 y n) (λn=>A6 x n/\¬A6 y n):=by
  refine f.congr (λn=>?_) (λn=>?_);· rw[c.A8];exact⟨λh=>⟨h.1,h.2.1.2⟩,λh=>⟨h.1,⟨h.1.2,h.2⟩,h.1.2⟩⟩
  ·rw[c.A6];exact⟨λh=>⟨h.1,h.2.1.2⟩,λh=>⟨h.1,⟨JG h.1,h.2⟩,h.1.2⟩⟩
 refine⟨s,?_,g,by omega,by omega⟩;refine(Ok.eq ?_);exact BY b (BY e (MI rf))
theorem XH(d:Lw x)(h:20<fu):
  ∃r v f,Ei r (A8 x) (A6 x)/\Vf fu x=Ac (v,f)/\Fy r v f:=by
 obtain⟨r,g,a,t,w⟩:=Ep d h;have B:=d.n1;have C:=d.n2;obtain⟨l,n⟩:=a.nm;have b:=a;obtain⟨m,o,y,p,q,z,A,s⟩:=b;have e:=TT q s;rw[<-o]at e;have i:=Ow g p e ⟨by omega,by omega⟩;grind[IL,O6,Lh]
theorem Agj(h:Ei r I F):(∀u,¬C6 r u)↔r=([],[]):=by
 obtain⟨d,e⟩:=h.nm;constructor
 ·intro no;refine Aby ?_ ?_;· cases a:r.1 with
   |nil=>rfl
   |cons t q=>
    have b:=d t (by grind);exact absurd (Or.inl ⟨by omega,t,by grind,by omega,by omega⟩) (no (t.1*10000))
  ·cases a:r.2 with
   |nil=>rfl
   |cons t q=>
    have b:=e t (by simp_all);exact absurd (Or.inr ⟨b.2.1,t,by rw[a];simp,Abn _,b.1⟩) (no t.1)
 ·rintro rfl u (⟨_,t,c,_⟩|⟨_,t,c,_⟩)<;>cases c
end
end Go.GL
namespace Go.GL
abbrev Lg:=List UInt8->Bool
abbrev Cu:=Int×Int×Int
abbrev TN:=Bool×List Cu
abbrev Tb:=List TN
section
variable{kn:List Lg}{l:Tb}{D:Lg}{m:Nat}{a S:List Lg}{es:List Cu}{n:Nat}{b:List Lg}{fu:Nat}{α:Type}{i:Nat}{K L:Lg}
def Iw(L:Lg)(b:Nat):Lg:=λw=>L (UInt8.ofNat b::w)
open Classical in
noncomputable def live(L:Lg):Bool:=Ds (∃w,L w=Br)
open Classical in
noncomputable def Ik(kn:List Lg)(L:Lg):Nat:=kn.findIdx λK=>Ds (K=L)
theorem Hn{L:Lg} :live L=Br↔∃w,L w=Br:=by simp[live]
theorem C4{L:Lg} :live L=Ak↔∀w,L w=Ak:=by simp[live]
def push(es:List Cu)(lo hi n:Int):List Cu:=match es.getLast? with
 |some e=>if e.2.2=n/\e.2.1+1=lo then es.dropLast++[(e.1,hi,n)]else es++[(lo,hi,n)]
 |none=>es++[(lo,hi,n)]
noncomputable def IP(kn:List Lg)(D:Lg):List Lg:=if Ik kn D=kn.length then kn++[D]else kn
noncomputable def Di(st:List Lg×List Cu)(D:Lg)(lo hi:Nat):List Lg×List Cu:=
 if live D then(IP st.1 D,push st.2 (lo:Int) (hi:Int) (Ik st.1 D:Nat))else st
noncomputable def T7(K:Lg)(st:List Lg×List Cu)(b:Nat):List Lg×List Cu:=Di st (Iw K b) b b
noncomputable def AM(K:Lg)(kn:List Lg)(m:Nat):List Lg×List Cu:=(aO m).foldl (T7 K) (kn,[])
noncomputable def DN:Nat->List Lg->Tb->Tb
 |0,_,a=>a
 |c+1,b,a=>match b[a.length]? with
  |some K=>DN c (AM K b 256).1 (a++[(K [],(AM K b 256).2)])
  |none=>a
noncomputable def Eu(fu:Nat)(L:Lg):Tb:=if live L then DN fu [L] []else []
theorem a_(kn:List Lg)(D:Lg):Ik kn D<=kn.length:=List.findIdx_le_length
open Classical in
theorem Uu{kn:List Lg}{D:Lg}(h:Ik kn D<kn.length):kn[Ik kn D]=D:=by grind[Ik]
theorem JB(h:D∈kn):Ik kn D<kn.length:=by refine List.findIdx_lt_length_of_exists ⟨D,h,by simp⟩
theorem GA{kn:List Lg}{D:Lg}(h:D∉kn):Ik kn D=kn.length:=by
 have:=a_ kn D;rcases Nat.lt_or_eq_of_le this with a|a;· exact absurd (Uu a▸AN a) h
 omega
theorem JC(kn:List Lg)(D:Lg):Ik (IP kn D) D=Ik kn D:=by grind[IP,Ik]
theorem LJ(kn:List Lg)(D:Lg):D∈IP kn D:=by grind[IP,Ik]
theorem Gz(h:D∈kn):IP kn D=kn:=by unfold IP;rw[if_neg];have:=JB h;omega
theorem FZ(l:List Cu)(x:Cu)(lo hi n:Int):push (l++[x]) lo hi n=if x.2.2=n/\x.2.1+1=lo then l++[(x.1,hi,n)]else l++[x]++[(lo,hi,n)]:=by simp[push]
theorem Jo(lo hi n:Int):push [] lo hi n=[(lo,hi,n)]:=rfl
theorem Fk(l:List α):l=[]\/∃a x,l=a++[x]:=by rcases Aek l with h|⟨a,x,h⟩;all_goals grind
theorem Xr(es:List Cu)(lo a hi n:Int):push (push es lo a n) (a+1) hi n=push es lo hi n:=by
 rcases Fk es with rfl|⟨l,x,rfl⟩;· rw[Jo,Jo,show [(lo,a,n)]=[]++[(lo,a,n)]from rfl,FZ];simp
 grind[FZ]
theorem Mp(K:Lg)(D:Lg)(st:List Lg×List Cu)(lo:Nat):∀(n:Nat),(∀b,lo<=b->b<lo+n+1->Iw K b=D)->
  (List.range' lo (n+1)).foldl (T7 K) st=Di st D lo (lo+n)
 |0,h=>by grind[T7]
 |n+1,h=>by
  rw[List.range'_concat,Adc,Mp K D st lo n (λb c d=>h b c (by omega))];simp only[Afl,List.foldl_nil,T7,Nat.one_mul,h (lo+(n+1)) (by omega) (by omega)];unfold Di;split;· simp only[JC,Gz (LJ _ _),Aeq,true_and];grind[Ik,Xr]
  rfl
theorem HY(K:Lg)(kn:List Lg)(D:Lg)(lo hi:Nat)(c:lo<=hi)(h:∀b,lo<=b->b<=hi->Iw K b=D):
  AM K kn (hi+1)=Di (AM K kn lo) D lo hi:=by
 unfold AM;rw[show hi+1=lo+((hi-lo)+1) by omega,Agv,Agv,<-List.range'_append_1,Adc,Abm];rw[Mp K D _ lo (hi-lo) (λb a d=>h b a (by omega))];grind
def BQ(b:Nat)(e:Cu):Bool:=Ds (e.1<=b)&&Ds ((b:Int)<=e.2.1)
def AQ(es:List Cu)(b:Nat):Int:=match es.find? (BQ b)with
 |some e=>e.2.2
 |none=> -1
def Bf(l:Tb)(i:Int):TN:=l.getD i.toNat (Ak,[])
def Bn(l:Tb)(i:Int)(b:Nat):Int:=if i<0 then-1 else AQ (Bf l i).2 b
def runT(l:Tb)(i:Int)(w:List UInt8):Int:=w.foldl (λq c=>Bn l q c.toNat) i
def fin(l:Tb)(i:Int):Bool:=Ds (0<=i)&&(Bf l i).1
def Au(l:Tb)(i:Int):Lg:=λw=>fin l (runT l i w)
structure BU(es:List Cu)(m n:Nat):Prop where
 rg:∀e∈es,0<=e.1/\e.1<=e.2.1/\e.2.1<m/\0<=e.2.2/\e.2.2<n
 so:es.Pairwise λa b=>a.2.1<b.1
def Bg(l:Tb):Prop:= ∀s∈l,BU s.2 256 l.length
theorem Ft(l:Tb)(i:Int)(b:Nat)(a:b<256):Iw (Au l i) b=Au l (Bn l i b):=by funext w;simp_all[Iw,Au,runT,Agd]
theorem Jg{l:Tb}{i:Int}(b:Nat)(h:i<0):Bn l i b= -1:=by grind[Bn]
theorem G'{l:Tb} :∀(w:List UInt8) {i:Int},i<0->runT l i w<0
 | [],i,h=>h
 |c::w,i,h=>by exact G' w (by grind[Jg])
theorem Ef{l:Tb}{i:Int}(h:i<0)(w:List UInt8):Au l i w=Ak:=by simp_all[Au,fin,G',decide_eq_false]
theorem Hm{l:Tb}{i:Int}(h:i<0):live (Au l i)=Ak:=C4.2 λw=>Ef h w
theorem BU.step(h:BU es m n)(b:Nat):AQ es b= -1\/0<=AQ es b/\AQ es b<n:=by
 unfold AQ;split;· rename_i e a;have:=h.rg e (Ach a);omega
 omega
theorem BU.nil:BU [] m n:=⟨by simp, .nil⟩
theorem Bg.st(h:Bg l)(i:Int)(b:Nat):Bn l i b= -1\/0<=Bn l i b/\Bn l i b<l.length:=by
 unfold Bn;split;· omega
 ·unfold Bf;rw[Aad];cases a:l[i.toNat]? with
  |none=>exact .inl rfl
  |some s=>exact(h s (Aai a)).step b
theorem Xe(h:BU es m n){b:Nat}(c:m<=b):AQ es b= -1:=by unfold AQ;rw[Adh.2];intro e a;have:=h.rg e a;grind[BQ]
theorem Gr(es fs:List Cu)(b:Nat):AQ (es++fs) b=if(es.find? (BQ b)).isSome then AQ es b else AQ fs b:=by grind[AQ,BQ]
theorem BU.mono{a b:Nat}(h:BU es m n)(d:m<=a)(f:n<=b):BU es a b:=
 ⟨λe c=>by have:=h.rg e c;omega,h.so⟩
theorem BU.push(h:BU es m n){hi q:Nat}(s:m<=hi)(t:q<n):BU (push es (m:Int) (hi:Int) (q:Int)) (hi+1) n/\∀b,AQ (push es (m:Int) (hi:Int) (q:Int)) b=if m<=b/\b<=hi then(q:Int)else AQ es b:=by
 rcases Fk es with rfl|⟨l,x,rfl⟩
 ·rw[Jo];refine⟨⟨by grind,by simp⟩,λb=>?_⟩;grind[AQ,BQ]
 ·rw[FZ];have u:=h.rg x (by simp);have j:=Abb.1 h.so;split
  ·refine⟨⟨λe c=>?_,?_⟩,λb=>?_⟩
   ·rcases AT.1 c with c|c;· have:=h.rg e (by grind);omega
    grind
   ·refine Abb.2 ⟨j.1,by simp,λa p e c=>?_⟩;grind
   ·rw[Gr,Gr];cases k:l.find? (BQ b)with
    |some e=>
     have i:=Ach k;have f:=j.2.2 e i x (by simp);grind[BQ]
    |none=>
     simp only[AQ,Afm,BQ,List.find?_nil];grind
  ·refine⟨
       ⟨λe c=>?_,?_⟩,λb=>?_⟩
   ·rcases AT.1 c with c|c;· have:=h.rg e c;omega
    grind
   ·refine Abb.2 ⟨h.so,by simp,λa p e c=>?_⟩;simp at c;subst c;have:=h.rg a p;omega
   ·rw[Gr];cases k:(l++[x]).find? (BQ b)with
    |some e=>
     have i:=Ach k;have f:=h.rg e i;have d:=List.find?_some k;simp[BQ]at d;simp only[Option.isSome_some,if_true];rw[if_neg (by omega)]
    |none=>
     have:AQ (l++[x]) b= -1:=by unfold AQ;rw[k]
     rw[this];simp only[AQ,Afm,BQ,List.find?_nil];by_cases g:m<=b/\b<=hi
     ·rw[if_pos g];have f:((m:Int)<=b):=by omega
      have d:((b:Int)<=hi):=by omega
      simp[f,d]
     ·rw[if_neg g];by_cases f:(m:Int)<=b
      ·have d:¬((b:Int)<=hi):=by omega
       simp[d]
      ·simp[f]
theorem MO{more:List Lg}(h:D∈kn):Ik (kn++more) D=Ik kn D:=by grind[Ik]
theorem gQ(d:kn.Nodup)(h:i<kn.length):Ik kn kn[i]=i:=by grind[Ik,absurd,Uu,Nat.lt_trichotomy,List.pairwise_iff_getElem]
def Ext(kn b:List Lg):Prop:= ∃a,b=kn++a
theorem Ext.refl(kn:List Lg):Ext kn kn:=⟨[],by simp⟩
theorem Ext.trans{c:List Lg}(h:Ext a b)(k:Ext b c):Ext a c:=by obtain⟨x,rfl⟩:=h;obtain⟨y,rfl⟩:=k;exact⟨x++y,by simp⟩
theorem Ext.len(h:Ext a b):a.length<=b.length:=by obtain⟨x,rfl⟩:=h;simp
theorem Ext.mem(h:Ext a b)(c:D∈a):D∈b:=by obtain⟨x,rfl⟩:=h;grind
theorem Ext.ix(h:Ext a b)(c:D∈a):Ik b D=Ik a D:=by obtain⟨x,rfl⟩:=h;exact MO c
theorem Ext.get(h:Ext a b)(c:a[i]?=Ac D):b[i]?=Ac D:=by obtain⟨x,rfl⟩:=h;grind
theorem Ext.IP(kn:List Lg)(D:Lg):Ext kn (IP kn D):=by
 unfold GL.IP;split;· exact⟨[D],rfl⟩
 ·exact .refl _
def u7(S:List Lg):Prop:= ∀K∈S,∀b<256,live (Iw K b)=Br->Iw K b∈S
structure KnOk(S kn:List Lg):Prop where
 nd:kn.Nodup
 sub:∀D∈kn,D∈S
 lv:∀D∈kn,live D=Br
theorem KnOk.IP(h:KnOk S kn)(e:D∈S)(g:live D=Br):KnOk S (IP kn D):=by
 unfold GL.IP;split
 ·have j:D∉kn:=λi=>by have:=JB i;omega
  refine⟨Acq.2 ⟨h.nd,by simp,λa f b d=>?_⟩,λE c=>?_,λE c=>?_⟩;· grind
  ·rcases AT.1 c with c|c;· exact h.sub E c
   grind
  ·rcases AT.1 c with c|c;· exact h.lv E c
   grind
 omega
def Ny(K:Lg)(kn:List Lg)(es:List Cu)(m:Nat):Prop:=BU es m kn.length/\∀b,b<m->if live (Iw K b)then Iw K b∈kn/\AQ es b=(Ik kn (Iw K b):Nat)else AQ es b= -1
theorem Ny.ext(h:Ny K kn es m)(c:Ext kn a):Ny K a es m:=by
 refine⟨h.1.mono (Aaf _) c.len,λb f=>?_⟩;have:=h.2 b f;split;· rename_i d;rw[if_pos d]at this;exact⟨c.mem this.1,by rw[c.ix this.1];omega⟩
 grind
theorem Mo(K:Lg)(kn:List Lg)(m:Nat):AM K kn (m+1)=Di (AM K kn m) (Iw K m) m m:=by unfold AM;rw[Aei,Adc];rfl
theorem ET{S kn:List Lg}{K:Lg}(l:u7 S)(k:K∈S)(c:KnOk S kn):∀m,m<=256->Ext kn (AM K kn m).1/\KnOk S (AM K kn m).1/\Ny K (AM K kn m).1 (AM K kn m).2 m
 |0,_=>⟨.refl _,c, .nil,λb n=>by omega⟩
 |m+1,s=>by
  obtain⟨h,i,e⟩:=ET l k c m (by omega);rw[Mo];unfold Di;split
  ·rename_i d;have r:=l K k m (by omega) d;refine⟨h.trans (Ext.IP _ _),i.IP r d,?_⟩;have j:=e.ext (Ext.IP (AM K kn m).1 (Iw K m));have g:Ik (AM K kn m).1 (Iw K m)<(IP (AM K kn m).1 (Iw K m)).length:=by
    rw[<-JC];simp_all[JB,LJ]
   obtain⟨p,q⟩:=j.1.push (Aaf m) g;refine⟨p,λb n=>?_⟩;rw[q b];by_cases a:b=m;· subst a;rw[if_pos d,if_pos ⟨Aaf _,Aaf _⟩,JC];exact⟨LJ _ _,rfl⟩
   ·rw[if_neg (by omega:¬(m<=b/\b<=m))];exact j.2 b (by omega)
  ·rename_i d;refine⟨h,i,e.1.mono (by omega) (Aaf _),λb n=>?_⟩;by_cases a:b=m;· subst a;rw[if_neg d];exact Xe e.1 (Aaf _)
   ·exact e.2 b (by omega)
structure J6(kn:List Lg)(out:Tb):Prop where
 le:out.length<=kn.length
 row:∀(k:Nat) (K:Lg) (s:TN),kn[k]?=Ac K->out[k]?=Ac s->s.1=K []/\Ny K kn s.2 256
theorem RR{α:Type} [BEq α] [LawfulBEq α]:∀ {a b:List α},a.Nodup->(∀x∈a,x∈b)->a.length<=b.length
 | [],_,_,_=>by simp
 |x::a,b,g,d=>by have c:=Aba.1 g;have:=RR (a:=a) (b:=b.erase x) c.2 (λy f=>(Agw (λe=>by grind)).2 (d y (by grind)));grind
open Classical in
theorem KnOk.le{S kn:List Lg}(h:KnOk S kn):kn.length<=S.length:=RR h.nd h.sub
theorem Th{S:List Lg}(q:u7 S):∀(fu:Nat) (kn:List Lg) (a:Tb),KnOk S kn->J6 kn a->S.length<fu+a.length->
  ∃b,Ext kn b/\KnOk S b/\J6 b (DN fu kn a)/\(DN fu kn a).length=b.length
 |0,kn,a,g,e,A=>by have:=g.le;have:=e.le;omega
 |fu+1,kn,a,g,e,A=>by
  unfold DN;split
  ·rename_i K h;have m:=Aai h;obtain⟨f,y,z⟩:=ET q (g.sub K m) g 256 (Aaf _);have n:J6 (AM K kn 256).1 (a++[(K [],(AM K kn 256).2)]):=by
    refine⟨?_,?_⟩;· have:=f.len;grind
    ·intro k l s i d;by_cases p:k<a.length
     ·rw[Aaa p]at d
      have o:kn[k]?=Ac l:=by obtain⟨r,B⟩:=f;grind
      have:=e.row k l s o d;exact⟨this.1,this.2.ext f⟩
     ·rw[Aac (by omega)]at d;have c:k=a.length:=by
       have:=(No.1 d).1;simp at this;omega
      subst c;simp at d;subst d;have:=f.get h;simp_all
   obtain⟨b,t,u,v,w⟩:=Th q fu (AM K kn 256).1 (a++[(K [],(AM K kn 256).2)]) y n (by simp;omega);exact⟨b,f.trans t,u,v,w⟩
  ·rename_i h;have:=Afw.1 h;exact⟨kn, .refl _,g,e,by have:=e.le;omega⟩
theorem J6.lg{kn:List Lg}{a:Tb}(h:J6 kn a)(m:a.length=kn.length):∀(w:List UInt8) (i:Nat) (K:Lg),kn[i]?=Ac K->Au a (i:Int) w=K w
 | [],i,K,b=>by have n:=(No.1 b).1;have d:a[i]?=Ac a[i]:=IN (by omega);have:=(h.row i K _ b d).1;grind[Au,runT,fin,Bf]
 |c::w,i,K,b=>by
  have n:=(No.1 b).1;have d:a[i]?=Ac a[i]:=IN (by omega);have:=(h.row i K _ b d).2.2 c.toNat c.toNat_lt;have e:Au a (i:Int) (c::w)=Au a (Bn a (i:Int) c.toNat) w:=rfl;have k:Bn a (i:Int) c.toNat=AQ a[i].2 c.toNat:=by grind[Bn,Bf]
  have l:K (c::w)=Iw K c.toNat w:=by simp[Iw]
  rw[e,k,l];split at this;· rw[this.2];have g:=JB this.1;exact J6.lg h m w _ _ (by grind[kV,Uu])
  grind[live,Iw,Ef,C4]
theorem J6.wf{a:Tb}(h:J6 kn a)(b:a.length=kn.length):Bg a:=by intro s e;obtain⟨i,c,rfl⟩:=Aau e;have d:kn[i]?=Ac kn[i]:=IN (by omega);have:=(h.row i _ _ d (IN c)).2.1;grind
theorem WH(i:u7 S)(g:live L=Br->L∈S)(j:S.length<fu):
  Bg (Eu fu L)/\Au (Eu fu L) 0=L/\(Eu fu L).length<=S.length/\(live L=Br->0<(Eu fu L).length):=by
 unfold Eu;split;· obtain⟨k,d,f,e,c⟩:=Th i fu [L] [] ⟨by simp,by grind,by grind⟩ ⟨by simp,by simp⟩ (by omega);refine⟨e.wf c,funext λw=>e.lg c w 0 L (d.get rfl),by rw[c];exact f.le,λ_=>?_⟩;have:=d.len;grind
 ·refine⟨by simp[Bg],funext λw=>?_,by simp,λh=>absurd h (by omega)⟩;grind[Au,fin,Bf,runT,C4]
theorem Nd{S:List Lg}(p:u7 S):∀(fu b:Nat) (kn:List Lg) (a:Tb),KnOk S kn->J6 kn a->S.length<fu+a.length->S.length<b+a.length->DN fu kn a=DN b kn a
 |0,_,kn,a,e,f,o,_=>by have:=e.le;have:=f.le;omega
 |_,0,kn,a,e,f,_,o=>by have:=e.le;have:=f.le;omega
 |fu+1,b+1,kn,a,e,f,o,w=>by
  unfold DN;split
  ·rename_i K j;have l:=Aai j;obtain⟨g,t,u⟩:=ET p (e.sub K l) e 256 (Aaf _);refine Nd p fu b _ _ t ⟨?_,?_⟩ (by grind) (by grind);· have:=g.len;grind
   ·intro k i s h d;by_cases n:k<a.length
    ·rw[Aaa n]at d
     have m:kn[k]?=Ac i:=by obtain⟨q,v⟩:=g;grind
     have:=f.row k i s m d;exact⟨this.1,this.2.ext g⟩
    ·rw[Aac (by omega)]at d;have c:k=a.length:=by
      have:=(No.1 d).1;simp at this;omega
     subst c;simp at d;subst d;have:=g.get j;simp_all
  rfl
theorem Yj(e:u7 S)(d:live L=Br->L∈S){a:Nat}(f:S.length<fu)(b:S.length<a):Eu fu L=Eu a L:=by
 unfold Eu;split;· exact Nd e fu a [L] [] ⟨by simp,by grind,by grind⟩ ⟨by simp,by simp⟩ (by omega) (by omega)
 rfl
def qv(l:Tb):List Lg:=(aO l.length).map λi=>Au l (i:Nat)
theorem Fl(l:Tb):(qv l).length=l.length:=by simp[qv]
theorem Jw{l:Tb}{i:Int}(h:0<=i)(a:i<l.length):Au l i∈qv l:=by refine By.2 ⟨i.toNat,by grind,?_⟩;grind
theorem H6(h:Bg l):u7 (qv l):=by intro K d b e c;obtain⟨i,f,rfl⟩:=By.1 d;rw[Ft _ _ _ e]at c⊢;rcases h.st (i:Int) b with a|a;all_goals grind[Hm,Jw]
theorem R2(b:live (Au l 0)=Br):Au l 0∈qv l:=by grind[Au,fin,Bf,Hn,Jw]
theorem QH(h:Bg l)(b:l.length<fu):
  Bg (Eu fu (Au l 0))/\Au (Eu fu (Au l 0)) 0=Au l 0/\(Eu fu (Au l 0)).length<=l.length:=by
 have:=WH (H6 h) R2 (fu:=fu) (by grind[Fl]);grind[Fl]
theorem Yh{l:Tb}(h:Bg l){fu a:Nat}(c:l.length<fu)(b:l.length<a):Eu fu (Au l 0)=Eu a (Au l 0):=
 Yj (H6 h) R2 (by grind[Fl]) (by grind[Fl])
noncomputable def Cb(l:Tb):Tb:=Eu (l.length+1) (Au l 0)
theorem WE(h:Bg l):Bg (Cb l):=(QH h (by omega)).1
theorem WG(h:Bg l):Au (Cb l) 0=Au l 0:=(QH h (by omega)).2.1
theorem iU(h:Bg l):(Cb l).length<=l.length:=(QH h (by omega)).2.2
theorem IZ{a:Tb}(h:Bg l)(b:Bg a)(e:Au l 0=Au a 0):Cb l=Cb a:=by grind[Cb,Eu,Au,Yh]
theorem Yi(h:Bg l):Cb (Cb l)=Cb l:=IZ (WE h) h (WG h)
end
end Go.GL
namespace Go.GL
open Go Go.GV Go.GK Go.Proofs
section
variable{fu:Nat}{l:Tb}{n:Nat}{s:Ay}{α:Type}
def N0(l:Tb):Prop:= ∀s∈l,∀e∈s.2,(0<=e.1/\e.1<=255)/\0<=e.2.1/\e.2.1<=255
def DW(l:Tb)(n:Nat):Prop:=l.length<=n/\∀s∈l,s.2.length<=n
theorem Aev{es:List Cu}{m n j:Nat}(s:j<es.length):
  BU (es.take (j+1)) m n↔BU (es.take j) m n/\(0<=es[j].1/\es[j].1<=es[j].2.1/\es[j].2.1<m/\0<=es[j].2.2/\es[j].2.2<n)/\(0<j->(es[j-1]'(by omega)).2.1<es[j].1):=by
 rw[<-Acl s];constructor;· rintro⟨d,f⟩;have g:=Abb.1 f;refine⟨⟨λe c=>d e (AT.2 (.inl c)),g.1⟩,d _ (AT.2 (.inr (by simp))),λk=>g.2.2 _ ?_ _ (by simp)⟩;exact Aep.2 ⟨j-1,by omega,rfl⟩
 ·rintro⟨⟨d,f⟩,g,o⟩;refine⟨λe c=>?_,Abb.2 ⟨f,by simp,λa r b l=>?_⟩⟩
  ·rcases AT.1 c with c|c;· grind
   grind
  ·simp at l;subst l;obtain⟨i,u,rfl⟩:=Aep.1 r;have k:0<j:=by omega
   have p:=o k;rcases Aal i (j-1)with h|h;· have q:=Aaw.1 f i (j-1) (by simp;omega) (by simp;omega) h;simp only[List.getElem_take]at q;have t:=d (es[j-1]'(by omega)) (Aep.2 ⟨j-1,by omega,rfl⟩);omega
   ·obtain rfl:i=j-1:=by omega
    exact p
theorem Ai(l:List α):l.take l.length=l:=Abl (Aaf _)
theorem Ag{α:Type}{l:List α}{k:Nat}(a:k<l.length){x:α} :x∈l.take (k+1)↔x∈l.take k\/x=l[k]:=by grind[qE,wN]
theorem Ec(A:N0 l)(v:DW l n)(H:n<fu)(u:n<4294967296):Ok (yr fu l) (λr=>r=Br↔Bg l):=by
 refine TV (λk=> ∀s∈l.take k,BU s.2 256 l.length) l.length (by simp) (by have:=v.1;omega) (λk nx p o u=>?_) (λnx o=>?_)
 ·have i:l[k]∈l:=AN p;have D:=v.2 _ i;refine P2 (Aah p ?_);refine TV (λj=>BU (l[k].2.take j) 256 l.length) l[k].2.length (by exact .nil) (by omega) (λj q d c f=>?_) (λq c=>?_)
  ·have B:=A _ i _ (AN d);have a:∀h:¬BU (l[k].2.take (j+1)) 256 l.length,Ok (Ac Ak) (λr=>r=Br↔Bg l):=λh=>
    MI ⟨λh=>(by grind),λw=>absurd ⟨λe C=>(w _ i).rg e (Ack C),(w _ i).so.sublist (List.take_sublist _ _)⟩ h⟩;rw[Aev d]at a;refine P2 (Aah d ?_);refine N7 (λh=>a (by omega)) λE=>N7 (λh=>a (by omega)) λF=>N7 (λh=>a (by omega)) λG=>N7 (λx=>?_) (λx=>?_)
   ·have t:((j:Int)-1).toNat=j-1:=by omega
    refine PC (by omega) (Adq (by omega) (by omega) ?_);refine N7 (λh=>a ?_) λy=>f ((Aev d).2 ⟨c,by omega,λ_=>?_⟩);· rintro⟨_,_,z⟩;simp only[t]at h;omega
    ·simp only[t]at y;omega
   grind[Aev]
  ·refine P3 (u λs b=>?_);rcases(Ag p).1 b with h|rfl;· exact o s h
   ·rw[Ai]at c;exact c
 ·refine P3 (MI ⟨λ_ s b=>o s (by rw[Ai];exact b),λ_=>rfl⟩)
theorem G9{es:List Cu}{b j:Nat}(c:j<es.length)(h:BQ b es[j]=Br)(a:∀i (hi:i<j),BQ b es[i]=Ak):AQ es b=es[j].2.2:=by have:es.find? (BQ b)=Ac es[j]:=Adg.2 ⟨h,j,c,rfl,λi hi=>by grind⟩;grind[AQ]
theorem Gq{es:List Cu}{b:Nat}(a:∀i (hi:i<es.length),BQ b es[i]=Ak):AQ es b= -1:=by
 have:es.find? (BQ b)=Dc:=Adh.2 λe c=>by obtain⟨i,hi,rfl⟩:=Aau c;grind
 grind[AQ]
theorem Bv{l:Tb}{i:Int}(h0:0<=i)(h1:i<l.length):Bf l i=l[i.toNat]'(by omega):=by grind[Bf]
open Classical in
noncomputable def I3(l:Tb):Lg:=λs=>Ds (Bg l)&&Au l 0 s
theorem LY(h:Bg l):I3 l=Au l 0:=by grind[I3]
theorem Tv{l:Tb}(h:¬Bg l)(s:List UInt8):I3 l s=Ak:=by grind[I3]
theorem DG(i:Int)(s:List UInt8):Au [] i s=Ak:=by simp[Au,fin,Bf]
theorem HX(l:Tb)(i:Int)(c:UInt8)(w:List UInt8):runT l i (c::w)=runT l (Bn l i c.toNat) w:=rfl
theorem Eg{l:Tb}{i:Int}(h0:0<=i)(h1:i<l.length):fin l i=(l[i.toNat]'(by omega)).1:=by grind[fin,Bv]
theorem UY(Q:N0 l)(K:DW l n)(R:n<fu)(U:n<4294967296)(S:s.length<fu)(T:s.length<4294967296):Ok (kD fu (l,s)) (λr=>r=I3 l s):=by
 refine N7 (λh=>MI ?_) λV=>Oz (Ec Q K R U) λx L=>PY (λh=>MI ?_) λh=>?_;· obtain rfl:l=[]:=OF.1 (by omega);rw[LY (by simp[Bg]),DG]
 ·grind[Tv]
 have u:Bg l:=L.1 (by grind);rw[LY u];refine Xn (X:=Int×Int) (λp=>(0<=p.1/\p.1<l.length)/\(0<=p.2/\p.2<=s.length)/\runT l 0 s=runT l p.1 (s.drop p.2.toNat)) (λp=>s.length-p.2.toNat) ⟨⟨by simp,by omega⟩,⟨by simp,by omega⟩,rfl⟩ (by omega) λp nx O _ C=>?_;obtain⟨q,i⟩:=p;obtain⟨⟨f,c⟩,⟨M,N⟩,o⟩:=O
 refine N7 (λd=>Adq f c ?_) λd=>Adq f c (MI ?_)
 ·have a:i.toNat<s.length:=by omega
  have E:Bn l q (s[i.toNat]'a).toNat=AQ (l[q.toNat]'(by omega)).2 (s[i.toNat]'a).toNat:=by unfold Bn;rw[if_neg (by omega),Bv f c]
  have e:runT l 0 s=runT l (Bn l q (s[i.toNat]'a).toNat) (s.drop (i+1).toNat):=by rw[o,show(i+1).toNat=i.toNat+1 by omega,<-HX,Aar a]
  rw[E]at e;have D:=K.2 _ (AN (by omega:q.toNat<l.length));have H:=u _ (AN (by omega:q.toNat<l.length));generalize l[q.toNat]'(by omega)=st at e H D;have z:i=((i.toNat:Nat):Int):=by omega
  refine TV (λk=> ∀j (_:j<k) (J:j<st.2.length),BQ (s[i.toNat]'a).toNat st.2[j]=Ak) st.2.length (by omega) (by omega) (λk G B t g=>?_) (λG t=>?_)
  ·have m:BQ (s[i.toNat]'a).toNat st.2[k]=Ak->∀j (_:j<k+1) (J:j<st.2.length),BQ (s[i.toNat]'a).toNat st.2[j]=Ak:=λh j J A=>by
    rcases Aal j k with c|c;· exact t j c A
    ·obtain rfl:j=k:=by omega
     exact h
   refine P2 (Aah B ?_);have I:∀ {k:Int->Option Bool} {P},Ok (k (((s[i.toNat]'a).toNat:Nat):Int)) P->Ok (Ab (Ey s i) k) P:=λh=>by rw[z];exact Zr a h
   refine I (N7 (λv=>I (N7 (λw=>PC (by omega) ?_) λw=>g (m (by simp[BQ,w])))) λv=>g (m (by simp[BQ,v])));have y:=G9 B (by simp[BQ,v,w]) λi d=>t i d (by omega);rw[y]at e;have F:=H.rg _ (AN B);exact C (_,i+1) ⟨F.2.2.2,⟨by omega,by omega⟩,e⟩ (by omega)
  ·have y:=Gq λi d=>t i d d;rw[y]at e;refine P3 (MI ?_);have:=G' (l:=l) (s.drop (i+1).toNat) (i:= -1) (by decide);unfold Au fin;rw[decide_eq_false (by omega)];rfl
 ·have a:i.toNat=s.length:=by omega
  rw[a,Aaz (Aaf _)]at o;unfold Au;rw[o];exact(Eg f c).symm
theorem HC{a b:List α}(h:a.length=b.length)(k:∀j (h:j<a.length) (e:j<b.length),a[j]=b[j]):a=b:=Adi h λj c d=>k j c d
theorem Z7{R:Type}{P:R->Prop}{x y:Cu}{p q:Option R}(a:x≠y->Ok p P)(b:x=y->Ok q P):
  Ok (bif !(Ds (([x.1,x.2.1,x.2.2]:List Int)=[y.1,y.2.1,y.2.2]))then p else q) P:=by
 grind
theorem TZ{a b:List Cu}(i:a.length<fu):Ok (F50 fu (a,b)) (λr=>r=Br↔a=b):=by
 refine N7 (λh=>MI ⟨λh=>(by grind),λc=>by grind⟩) λh=>?_;have n:a.length=b.length:=by omega
 refine TV (λk=> ∀j (_:j<k) (h:j<a.length) (c:j<b.length),a[j]=b[j]) a.length (by omega) i (λk nx l d o=>?_) (λnx d=>?_)
 ·refine P2 (Aah l (Aah (by omega) ?_))
  refine Z7 (λh=>MI ⟨λh=>(by grind),λc=>?_⟩) λh=>o λj p f g=>?_;all_goals grind
 ·exact P3 (MI ⟨λ_=>HC n λj h c=>d j h h c,λ_=>rfl⟩)
theorem ZF{a b:TN}(e:a.2.length<fu):Ok (F51 fu (a,b)) (λr=>r=Br↔a=b):=by refine PY (λh=>Oz (TZ e) λr f=>MI ?_) λh=>MI ⟨λh=>(by grind),λc=>by grind⟩;grind
theorem KK{a b:Tb}{n fu:Nat}(i:DW a n)(s:n<fu):Ok (yp fu (a,b)) (λr=>r=Br↔a=b):=by
 refine Oz (Q:=λr=>r=Br↔a=b) ?_ λr d=>MI d;refine N7 (λh=>MI ⟨λh=>(by grind),λc=>by grind⟩) λh=>?_;have p:a.length=b.length:=by omega
 refine TV (λk=> ∀j (_:j<k) (h:j<a.length) (c:j<b.length),a[j]=b[j]) a.length (by omega) (by have:=i.1;omega) (λk nx g e q=>?_) (λnx e=>?_)
 ·refine P2 (Aah g (Aah (by omega) (Oz (ZF (by have:=i.2 _ (AN g);omega)) λr d=>?_)));refine PY (λh=>MI ⟨λh=>(by grind),λc=>?_⟩) λh=>q λj t l m=>?_;all_goals grind
 ·exact P3 (MI ⟨λ_=>HC p λj h c=>e j h h c,λ_=>rfl⟩)
theorem ZD{a b:Tb}(v:DW a n)(C:n<fu):Ok (F20 fu (a,b)) (λr=>r=Br↔a=b):=by
 refine N7 (λh=>MI ⟨λh=>(by grind),λd=>by grind⟩) λh=>?_;have A:a.length=b.length:=by omega
 refine TV (λk=> ∀j (_:j<k) (h:j<a.length) (d:j<b.length),a[j]=b[j]) a.length (by omega) (by have:=v.1;omega) (λk nx u l B=>?_) (λnx l=>?_)
 ·refine P2 (Aah u (Aah (by omega) ?_));refine PY (λh=>MI ⟨λh=>(by grind),λd=>by grind⟩) λf=>N7 (λh=>MI ⟨λh=>(by grind),λd=>by subst d;simp at h⟩) λs=>?_;have o:a[k].2.length=b[k].2.length:=by omega
  refine TV (λi=> ∀j (_:j<i) (h:j<a[k].2.length) (d:j<b[k].2.length),a[k].2[j]=b[k].2[j]) a[k].2.length (by omega) (by have:=v.2 _ (AN u);omega) (λi q x g p=>?_) (λq g=>?_)
  ·have m:i<b[k].2.length:=by omega
   refine P2 (Aah x (Aah m ?_));refine Z7 (λh=>MI ⟨λh=>(by cases h),λd=>by subst d;exact absurd rfl h⟩) λh=>p λj y f s=>?_;rcases Aal j i with e|e;· exact g j e f s
   ·obtain rfl:j=i:=by omega
    exact h
  ·refine P3 (B λj y e w=>?_);rcases Aal j k with t|t;· exact l j t e w
   ·obtain rfl:j=k:=by omega
    exact Aby (by simpa using f) (HC o λj h d=>g j h h d)
 ·exact P3 (MI ⟨λ_=>HC A λj h d=>l j h h d,λ_=>rfl⟩)
def KV(i:Nat)(c:UInt8):TN:=(Ak,[((c.toNat:Int),(c.toNat:Int),((i+1:Nat):Int))])
def CP(s:Ay)(k:Nat):Tb:=(s.take k).mapIdx KV
def Bx(s:Ay):Tb:=s.mapIdx KV++[(Br,[])]
theorem KU{k:Nat}(h:k<s.length):CP s (k+1)=CP s k++[KV k s[k]]:=by grind[CP,qE,Nat.min_eq_left,Nat.le_of_lt]
theorem eW(o:s.length<fu)(t:s.length<4294967296):Ok (F7 fu s) (λr=>r=Bx s):=by
 refine Xn (X:=Tb×Int) (λp=>(0<=p.2/\p.2<=s.length)/\p.1=CP s p.2.toNat) (λp=>s.length-p.2.toNat) ⟨⟨by simp,by omega⟩,rfl⟩ (by omega) λp nx m _ e=>?_;obtain⟨q,i⟩:=p;obtain⟨⟨j,l⟩,f⟩:=m;simp only at j l f;subst f;have b:(CP s i.toNat).length=i.toNat:=by simp_all[CP]
 refine N7 (λn=>?_) λn=>?_
 ·have a:i.toNat<s.length:=by omega
  have d:i=((i.toNat:Nat):Int):=by omega
  have g:∀ {k:Int->Option Tb} {P},Ok (k (((s[i.toNat]'a).toNat:Nat):Int)) P->Ok (Ab (Ey s i) k) P:=λh=>by rw[d];exact Zr a h
  refine g (g (PC (by omega) (PC (by unfold Aj;simp;omega) (PC (by omega) ?_))));refine e (_,i+1) ⟨⟨by omega,by omega⟩,?_⟩ (by omega)
  rw[show(i+1).toNat=i.toNat+1 by omega,KU a];simp only[KV];rw[show((i.toNat+1:Nat):Int)=i+1 by omega]
 ·have a:i.toNat=s.length:=by omega
  refine PC (by unfold Aj;simp;omega) (MI ?_);rw[a];simp[CP,Bx]
end
end Go.GL
namespace Go.GL
open Go.GK Go.Lib
def vS(l:List UInt8):Nat:=l.foldl (λa c=>10*a+(c.toNat-48)) 0
theorem OV{d:Nat}(h:d<10):(UInt8.ofNat (48+d)).toNat=48+d:=by simp;omega
theorem NR(u:Nat):vS (decDigits u)=u:=by
 induction u using rZ with
 |_ u a=>
  grind[decDigits,vS,OV]
theorem Ix(u:Nat):∀c∈decDigits u,48<=c.toNat:=by
 induction u using rZ with
 |_ u b=>
  grind[decDigits,wN,OV]
theorem IJ:∀(k u:Nat),u<10^ (k+1)->nDigits u<=k+1
 |0,u,h=>by grind[nDigits_small]
 |k+1,u,h=>by
  by_cases a:u<10;· grind[nDigits_small]
  ·rw[nDigits_big a];have:=IJ k (u/10) (by omega);omega
theorem JE(u:Nat):itoa (u:Int)=decDigits u:=by rfl
theorem ba{u:Nat}(h:u<10000000000):(itoa (u:Int)).length<=10:=by simp_all[JE,decDigits_length,IJ]
theorem JD{n:Int}(h:0<=n):(44:UInt8)∉itoa n:=by intro a;obtain⟨u,rfl⟩:∃u:Nat,n=u:=⟨n.toNat,by omega⟩;have:=Ix u 44 a;grind
theorem MP{n m:Int}(h:0<=n)(k:0<=m)(e:itoa n=itoa m):n=m:=by obtain⟨u,rfl⟩:∃u:Nat,n=u:=⟨n.toNat,by omega⟩;obtain⟨v,rfl⟩:∃u:Nat,m=u:=⟨m.toNat,by omega⟩;rw[JE,JE]at e;grind[NR]
theorem Fv:∀ {A B R S:List UInt8},44∉A->44∉B->(R=[]\/R.head?=Ac 44)->(S=[]\/S.head?=Ac 44)->A++R=B++S->A=B/\R=S
 | [],[],_,_,_,_,_,_,h=>⟨rfl,h⟩
 | [],b::B,R,S,_,f,c,_,h=>by grind
 |a::A,[],R,S,e,_,_,d,h=>by grind
 |a::A,b::B,R,S,e,f,c,d,h=>by simp only[Afh,Ala]at h;have:=Fv (λg=>e (by grind)) (λg=>f (by grind)) c d h.2;grind
def EA(l:List Int):Ay:=l.flatMap λx=>([44]:Ay)++itoa x
theorem Gp(l:List Int):EA l=[]\/(EA l).head?=Ac 44:=by
 cases l with
 |nil=>trivial
 |cons x l=>simp[EA]
theorem fD:∀ {l m:List Int} {x y:Int},(∀z∈l,0<=z)->(∀z∈m,0<=z)->0<=x->0<=y->itoa x++EA l=itoa y++EA m->x=y/\l=m
 |l,m,x,y,b,c,f,g,h=>by
  obtain⟨e,a⟩:=Fv (JD f) (JD g) (Gp l) (Gp m) h;refine⟨MP f g e,?_⟩;clear h e;induction l generalizing m with
  |nil=>
   cases m with
   |nil=>rfl
   |cons y m=>trivial
  |cons x l n=>
   cases m with
   |nil=>trivial
   |cons y m=>
    have i:itoa x++EA l=itoa y++EA m:=by grind[EA]
    obtain⟨j,k⟩:=Fv (JD (b x (by simp))) (JD (c y (by simp))) (Gp l) (Gp m) i;rw[MP (b x (by simp)) (c y (by simp)) j,n m (λz d=>b z (by simp[d])) (λz d=>c z (by simp[d])) k]
section
variable {α : Type}
def Bi(n:Nat)(f:Nat->α):List α:=(aO n).map f
theorem Az(n:Nat)(f:Nat->α):(Bi n f).length=n:=by simp[Bi]
theorem Bo{n:Nat}{f:Nat->α}{i:Nat}(h:i<(Bi n f).length):(Bi n f)[i]=f i:=by simp[Bi]
theorem Je{n:Nat}{f:Nat->α}{i:Nat}(h:i<n):(Bi n f)[i]?=Ac (f i):=by grind[kV,Az,Bo]
theorem AP{n:Nat}{f g:Nat->α}(h:∀i,i<n->f i=g i):Bi n f=Bi n g:=
 Abr λi a=>h i (Abf.1 a)
theorem Bb(n:Nat)(f:Nat->α)(i:Nat)(x:α):(Bi n f).set i x=Bi n (λj=>if j=i then x else f j):=by refine Adi (by simp[Bi]) λj a b=>?_;grind[Bo]
theorem DC(n:Nat)(x:α):T9 n x=Bi n (λ_=>x):=by refine Adi (by simp[Bi]) λj a b=>by grind[Bo]
theorem oD(l:List α)(d:α):l=Bi l.length (λi=>l.getD i d):=by
 refine Adi (by simp[Bi]) λj a b=>by grind[Bo,kV]
theorem Dl(n:Nat)(f:Nat->α):Bi (n+1) f=Bi n f++[f n]:=by simp[Bi,Aei]
theorem EG{n:Nat}{f:Nat->α}{x:α} :x∈Bi n f↔∃i,i<n/\f i=x:=by simp[Bi]
theorem Vq{n:Nat}{f g:Nat->α} :Bi n f=Bi n g↔∀i,i<n->f i=g i:=by refine⟨λh i a=>?_,AP⟩;have:=congrArg (·[i]?) h;grind[Je]
theorem AW{n:Nat}{f:Nat->α}{i:Nat}(h:i<n):idx (Bi n f) (i:Int)=Ac (f i):=by grind[Bl,Az,Bo]
end
theorem Hr{α:Type}{n:Nat}{f:Nat->α}{i:Int}(h0:0<=i)(h:i.toNat<n):idx (Bi n f) i=Ac (f i.toNat):=by grind[Fp,Az,Bo]
section
variable {α β : Type}
section
variable{n:Nat}{f:Nat->α}{u:List α}
theorem Co [DecidableEq α]:∀ {a b:List α},a.Nodup->(∀x∈a,x∈b)->a.length<=b.length
 | [],_,_,_=>by simp
 |x::a,b,g,d=>by have c:=Aba.1 g;have:=Co (a:=a) (b:=b.erase x) c.2 (λy f=>(Agw (λe=>by grind)).2 (d y (by grind)));grind
theorem K6 [DecidableEq α]:∀ {b a:List α},a.Nodup->(∀x∈a,x∈b)->b.length<=a.length->b.Nodup
 | [],_,_,_,_=> .nil
 |x::b,a,c,g,f=>by
  by_cases i:x∈b
  ·have:=Co (b:=b) c (λy d=>by grind);grind
  ·refine Aba.2 ⟨i,K6 (a:=a.erase x) (c.erase x) (λy d=>?_) ?_⟩
   all_goals grind
structure Gk(n:Nat)(f:Nat->α)(u:List α):Prop where
 nd:u.Nodup
 mem:∀x,x∈u↔∃s,s<n/\f s=x
open Classical in
theorem Gk.le{n:Nat}{f:Nat->α}{u:List α}(h:Gk n f u):u.length<=n:=by have:=Co (b:=Bi n f) h.nd (λx a=>EG.2 ((h.mem x).1 a));grind[Az]
open Classical in
theorem Gk.bG{n:Nat}{f:Nat->α}{g:Nat->β}{u:List α}{v:List β}(r:Gk n f u)(l:Gk n g v)(F:∀s t,s<n->t<n->g s=g t->f s=f t):
  u.length<=v.length/\(u.length=v.length->∀s t,s<n->t<n->f s=f t->g s=g t):=by
 let p:β->α:=λx=>if h:∃s,s<n/\g s=x then f (Classical.choose h)else f 0;have q:∀s,s<n->p (g s)=f s:=λs a=>by have h:∃t,t<n/\g t=g s:=⟨s,a,rfl⟩;grind
 have a:∀y∈u,y∈v.map p:=λy H=>by obtain⟨s,a,rfl⟩:=(r.mem y).1 H;exact By.2 ⟨g s,(l.mem _).2 ⟨s,a,rfl⟩,q s a⟩
 refine⟨by have:=Co r.nd a;simp_all,λD s t d e E=>?_⟩;have c:=K6 r.nd a (by simp[D]);have k:=(l.mem _).2 ⟨s,d,rf⟩;have B:=(l.mem _).2 ⟨t,e,rf⟩;have C:p (g s)=p (g t):=by rw[q s d,q t e,E]
 obtain⟨i,m,w⟩:=Aau k;obtain⟨j,o,z⟩:=Aau B;have A:(v.map p)[i]'(by simpa using m)=(v.map p)[j]'(by simpa using o):=by simp[w,z,C]
 have:i=j:=by
  rcases Acw i j with b|b|b;· exact absurd A (Aaw.1 c _ _ (by simpa using m) (by simpa using o) b)
  ·exact b
  ·exact absurd A.symm (Aaw.1 c _ _ (by simpa using o) (by simpa using m) b)
 grind
theorem Gk.zero(f:Nat->α):Gk 0 f []:=⟨.nil,by simp⟩
theorem Gk.new(h:Gk n f u)(i:f n∉u):Gk (n+1) f (u++[f n]):=by
 refine⟨Acq.2 ⟨h.nd,by simp,λa g b d=>?_⟩,λx=>?_⟩;· grind
 ·rw[AT,h.mem,Aae];grind
theorem Gk.old(h:Gk n f u)(b:f n∈u):Gk (n+1) f u:=by
 refine⟨h.nd,λx=>?_⟩;rw[h.mem];constructor;· grind
 ·rintro⟨s,c,rfl⟩;rcases Aal s n with a|a;· grind
  ·obtain rfl:s=n:=by omega
   exact(h.mem _).1 b
end
end
end Go.GL
namespace Go.GL
open Go Go.GV Go.GK Go.Proofs
section
variable{cs:List Int}{l:Tb}{i n fu:Nat}{m:List (Ay×Int)}{u:List Ay}{c b s:Nat}{x:Ay}
def Ends(l:Tb)(b:Nat):Prop:=b=0\/∃s∈l,∃e∈s.2,e.1=(b:Int)\/e.2.1+1=(b:Int)
structure Bu(cs:List Int):Prop where
 zero:cs[0]?=Ac 0
 asc:cs.Pairwise (· < ·)
 rg:∀c∈cs,0<=c/\c<256
def G1(cs:List Int)(i:Nat):Int:=if i+1<cs.length then cs.getD (i+1) 0-1 else 255
def DR(cs:List Int)(l:Tb):Prop:= ∀b:Nat,b<256->Ends l b->(b:Int)∈cs
theorem Bu.pos(h:Bu cs):0<cs.length:=(No.1 h.zero).1
theorem Bu.le(h:Bu cs):cs.length<=256:=by
 have e:(cs.map ae).Nodup:=by refine(Adl.2 ?_);refine Agb (λ{a b} f i g=>?_) h.asc;have:=h.rg a f;omega
 have:=Co (b:=aO 256) e (λx j=>by obtain⟨c,hc,rfl⟩:=By.1 j;have:=h.rg c hc;grind);grind
theorem Bu.lt(h:Bu cs){j:Nat}(hi:i<cs.length)(b:j<cs.length)(a:i<j):cs[i]<cs[j]:=Aaw.1 h.asc i j hi b a
theorem Bu.w_(h:Bu cs):cs[0]'h.pos=0:=by have:=h.zero;grind
theorem E2{cs:List Int}{i:Nat}(h:i+1<cs.length):G1 cs i=cs[i+1]-1:=by grind[G1]
theorem Ht{cs:List Int}{i:Nat}(h:¬i+1<cs.length):G1 cs i=255:=by grind[G1]
theorem Bu.hi(h:Bu cs)(hi:i<cs.length):cs[i]<=G1 cs i/\G1 cs i<256:=by
 have b:=h.rg _ (AN hi);by_cases a:i+1<cs.length;· rw[E2 a];have:=h.lt hi a (by omega);have:=h.rg _ (AN a);omega
 grind[Ht]
theorem Bu.no(h:Bu cs)(hi:i<cs.length){c:Int}(h1:cs[i]<c)(h2:c<=G1 cs i):c∉cs:=by
 intro f;obtain⟨j,b,rfl⟩:=Aau f;have e:i<j:=by
  rcases Acw i j with a|a|a;· omega
  ·grind
  ·have:=h.lt b hi a;omega
 have d:i+1<cs.length:=by omega
 rw[E2 d]at h2;rcases Aal (i+1) j with a|a;· have:=h.lt d b a;omega
 grind
theorem DR.const(h:Bu cs)(hc:DR cs l)(o:Bg l)(hi:i<cs.length)(h1:cs[i]<=b)(h2:(b:Int)<=G1 cs i)(q:Int):Bn l q b=Bn l q cs[i].toNat:=by
 have t:=h.hi hi;unfold Bn;split;· rfl
 ·have g:∀e∈(Bf l q).2,BQ b e=BQ cs[i].toNat e:=by
   intro e a;have n:∃s∈l,e∈s.2:=by grind[Bf]
   obtain⟨s,j,a⟩:=n;have r:=(o s j).rg e a;have v:¬(cs[i]<e.1/\e.1<=G1 cs i):=λ⟨d,f⟩=>h.no hi d f (by
    have:=hc e.1.toNat (by omega) (.inr ⟨s,j,e,a, .inl (by omega)⟩);rwa [show((e.1.toNat:Nat):Int)=e.1 by omega]at this);have w:¬(cs[i]<e.2.1+1/\e.2.1+1<=G1 cs i):=λ⟨d,f⟩=>h.no hi d f (by
    have:=hc (e.2.1+1).toNat (by omega) (.inr ⟨s,j,e,a, .inr (by omega)⟩);rwa [show(((e.2.1+1).toNat:Nat):Int)=e.2.1+1 by omega]at this);grind[BQ]
  unfold AQ;rw[show(Bf l q).2.find? (BQ b)=(Bf l q).2.find? (BQ cs[i].toNat)from ?_];generalize(Bf l q).2=m at g;induction m with
  |nil=>rfl
  |cons e m p=>
   rw[Afm,Afm,g e (by simp),p λe a=>g e (by simp[a])]
theorem Bu.find(h:Bu cs)(b:Nat)(g:b<256):∃i,∃hi:i<cs.length,cs[i]<=b/\(b:Int)<=G1 cs i:=by
 have key:∀k,k<cs.length->(∃i,∃hi:i<cs.length,cs[i]<=b/\(b:Int)<=G1 cs i)\/∃c:k<cs.length,cs[k]<=b:=by
  intro k;induction k with
  |zero=>intro c;exact .inr ⟨c,by rw[h.w_];omega⟩
  |succ k f=>
   grind[E2]
 rcases key (cs.length-1) (by have:=h.pos;omega)with a|⟨a,d⟩;all_goals grind[Ht]
theorem Fs(p:Nat->Bool)(k:Nat):(aO (k+1)).filter p=(aO k).filter p++(if p k then [k]else []):=by grind[List.range_succ]
def ints(l:List Nat):List Int:=l.map λ(n:Nat)=>(n:Int)
theorem bj(a b:List Nat):ints (a++b)=ints a++ints b:=by simp[ints]
theorem b_{p:Nat->Bool}(h0:p 0=Br):Bu (ints ((aO 256).filter p)):=by
 refine⟨?_,?_,?_⟩
 ·have:aO 256=0::(List.range' 1 255):=by rw[Agv];rfl
  rw[this,Aeo,if_pos h0];rfl
 ·refine Adl.2 (List.Pairwise.imp (λ{a b} h=>by omega) (List.Pairwise.filter _ List.pairwise_lt_range))
 ·intro c hc;obtain⟨x,d,rfl⟩:=By.1 hc;grind
theorem b9(M:Bg l)(F:DW l n)(O:n<fu)(w:256<fu):Ok (F38 fu l) (λcs=>Bu cs/\DR cs l):=by
 refine PC (by simp) (PC (by simp) ?_);rw[DC,Bb];let E:Nat->Nat->Nat->Prop:=λk j b=>b=0\/(∃s∈l.take k,∃e∈s.2,e.1=(b:Int)\/e.2.1+1=(b:Int))\/∃s,l[k]?=Ac s/\∃e∈s.2.take j,e.1=(b:Int)\/e.2.1+1=(b:Int);refine SA (λk x=> ∃p,x=Bi 257 p/\∀b,b<257->(p b=Br↔E k 0 b)) l.length ⟨_,rf,λb c=>?_⟩ (by have:=F.1;omega) (λk x nx d v m=>?_) (λx nx v=>?_);· grind
 ·have D:l[k]∈l:=AN d;have L:=F.2 _ D;refine VB (by omega) (Aah d ?_);refine SA (λj x=> ∃p,x=Bi 257 p/\∀b,b<257->(p b=Br↔E k j b)) l[k].2.length v (by omega) (λj x o B g C=>?_) (λx o g=>?_)
  ·try dsimp only
   obtain⟨p,rfl,q⟩:=g;have P:=(M _ D).rg _ (AN B);refine VB (by omega) (Aah B ?_)
   have H:l[k].2[j].1=((l[k].2[j].1.toNat:Nat):Int):=by omega
   have I:l[k].2[j].2.1+1=(((l[k].2[j].2.1+1).toNat:Nat):Int):=by omega
   refine Abw (Abw (Aaq (Abw (PC (by omega) ?_))));rw[Abm,Acz,Abm,Acz,Bb,Bb];refine C _ ⟨_,rf,λb c=>?_⟩;have g:E k (j+1) b↔E k j b\/l[k].2[j].1=(b:Int)\/l[k].2[j].2.1+1=(b:Int):=by
    simp only[E,IN d,Ael,exists_eq_left',Ag B];constructor
    ·rintro(h|h|⟨e,h|rfl,a⟩);· omega
     ·exact .inl (.inr (.inl h))
     ·exact .inl (.inr (.inr ⟨e,h,a⟩))
     omega
    ·rintro((h|h|⟨e,h,a⟩)|h);· exact .inl h
     ·exact .inr (.inl h)
     ·exact .inr (.inr ⟨e, .inl h,a⟩)
     ·exact .inr (.inr ⟨_, .inr rf,h⟩)
   rw[g];by_cases f:b=(l[k].2[j].2.1+1).toNat;· simp only[f,if_true,true_iff];exact .inr (.inr I)
   ·by_cases a:b=l[k].2[j].1.toNat;· simp only[f,if_false];simp only[a,if_true,true_iff];exact .inr (.inl H)
    ·simp only[f,a,if_false,q b c];constructor;· exact .inl
     ·rintro(h|h|h);· exact h
      ·omega
      ·omega
  ·refine Qb (by(try simp only);omega) (m _ ?_);obtain⟨p,rfl,q⟩:=g;refine⟨p,rfl,λb c=>?_⟩;rw[q b c];simp only[E,IN d,Ael,exists_eq_left',Ag d,Ai,Aeb];constructor
   ·rintro(h|⟨s,f,a⟩|h);· exact .inl h
    ·exact .inr (.inl ⟨s, .inl f,a⟩)
    ·exact .inr (.inl ⟨_, .inr rf,h⟩)
   ·rintro(h|⟨s,f|rfl,a⟩|⟨s,_,e,K,_⟩);· exact .inl h
    ·exact .inr (.inl ⟨s,f,a⟩)
    ·exact .inr (.inr a)
    ·cases K
 ·obtain⟨p,rfl,q⟩:=v;have r:∀b,b<257->(p b=Br↔Ends l b):=λb c=>by
   rw[q b c];simp only[E,Ai];constructor
   ·rintro(h|h|⟨s,h,_⟩);· exact .inl h
    ·exact .inr h
    ·rw[Acy (Aaf _)]at h;cases h
   ·rintro(h|h);· exact .inl h
    ·exact .inr (.inl h)
  refine Qb (by omega) ?_;refine Xn (X:=List Int×Int) (λx=>(0<=x.2/\x.2<=256)/\x.1=ints ((aO x.2.toNat).filter p)) (λx=>256-x.2.toNat) ⟨⟨by decide,by decide⟩,rfl⟩ (by simpa using w) λx o J _ m=>?_;obtain⟨x,i⟩:=x;obtain⟨⟨y,A⟩,t⟩:=J;obtain⟨k,rfl⟩:∃k:Nat,i=k:=⟨i.toNat,by omega⟩;rw[Acd]at t
  refine N7 (λd=>?_) λd=>?_
  ·subst t;have d:k<256:=by omega
   rw[Acd,Abm,Acz];have m:∀z,z=ints ((aO (k+1)).filter p)->Ok (o (z,(k:Int)+1)) (λcs=>Bu cs/\DR cs l):=λz N=>m (z,(k:Int)+1) ⟨⟨by dsimp only;omega,by dsimp only;omega⟩,by dsimp only;rw[N,show((k:Int)+1).toNat=k+1 by omega]⟩ (by dsimp only;omega);refine Abw (BY (AW (by omega)) (PY (λh=>PC ?_ (Aaq (m _ ?_))) λh=>Aaq (m _ ?_)));· have:=List.length_filter_le p (aO k);rw[Aip]at this;simp[ints];unfold Aj;omega
   ·rw[Fs,bj,if_pos h];rfl
   ·rw[Fs,if_neg (by rw[h];decide),Adf]
  ·obtain rfl:k=256:=by omega
   subst t;refine(MI ⟨b_ ((r 0 (by decide)).2 (.inl rfl)),λb c g=>?_⟩);exact By.2 ⟨b,Aax.2 ⟨Abf.2 c,(r b (by omega)).2 g⟩,rfl⟩
def sk(n:Nat)(t:Int):Int:=if t<0 then n else t
def G0(l:Tb)(cs:List Int)(q i:Nat):Int:=sk l.length (Bn l (q:Nat) (cs.getD i 0).toNat)
def UZ(l:Tb)(q:Nat):Bool:=(Bf l (q:Nat)).1
def Z9(l:Tb)(cs:List Int)(q:Nat):List Int:=Bi cs.length (G0 l cs q)
def FI(l:Tb)(cs a:List Int):List Int×List (List Int)×List Bool×List Int:=(cs,Bi (l.length+1) (Z9 l cs),Bi (l.length+1) (UZ l),a)
theorem getD_at(h:i<cs.length):cs.getD i 0=cs[i]:=by grind
theorem aC(l:Tb)(t:Int)(h:t<l.length):Au l (sk l.length t)=Au l t:=by
 unfold sk;split
 ·rename_i h;funext w;rw[Ef h];have a:Bf l (l.length:Nat)=(Ak,[]):=by simp[Bf]
  cases w with
  |nil=>grind[Au,runT,fin]
  |cons c w=>
   have:Bn l (l.length:Nat) c.toNat= -1:=by unfold Bn;rw[if_neg (by omega),a];rfl
   show Au l (Bn l (l.length:Nat) c.toNat) w=Ak;grind[Ef]
 rfl
theorem vZ(a:Bg l)(q:Int)(b:Nat):0<=sk l.length (Bn l q b)/\sk l.length (Bn l q b)<(l.length+1:Nat):=by have:=a.st q b;grind[sk]
theorem OC{c:Nat} :∀ {es:List Cu} {m n:Nat} (_:BU es m n) (a:Int),es.foldl (λa e=>if BQ c e then e.2.2 else a) a=match es.find? (BQ c)with|some e=>e.2.2|none=>a
 | [],_,_,_,_=>rfl
 |e::es,m,n,h,a=>by
  have f:BU es m n:=⟨λx d=>h.rg x (by grind),(Abj.1 h.so).2⟩;rw[Afl,OC f,Afm];by_cases b:BQ c e=Br
  ·have:es.find? (BQ c)=Dc:=Adh.2 λx d=>by
    have g:=(Abj.1 h.so).1 x d;grind[BQ]
   grind
  grind
theorem Xd{es:List Cu}{m:Nat}(h:BU es m n):es.foldl (λa e=>if BQ c e then e.2.2 else a) (n:Int)=sk n (AQ es c):=by
 rw[OC h];unfold AQ;cases b:es.find? (BQ c)with
 |some e=>
  have:=h.rg e (Ach b);grind[sk]
 |none=>rfl
theorem SZ(K:Bg l)(u:DW l n)(U:n<4294967296)(R:n<fu)(F:256<fu):Ok (F39 fu l) (λx=> ∃cs,Bu cs/\DR cs l/\x=(cs,[],(FI l cs []).2.1,(FI l cs []).2.2.1)):=by
 rw[F39];refine Oz (b9 K u R F) λcs ⟨o,E⟩=>?_;have Q:=o.le;have S:=u.1;refine XJ (λk y x=>x=Bi k (UZ l)/\y=Bi k (Z9 l cs)) l.length ⟨rfl,rfl⟩ (by omega) (λk x y nx H D G=>?_) (λx y nx D=>?_)
 ·obtain⟨rfl,rfl⟩:=D
  have I:l[k]∈l:=AN H;have T:=u.2 _ I;have O:=K _ I;have d:Bf l (k:Nat)=l[k]:=Bv (by omega) (by omega);refine P2 (Aah H (PC (by grind) ?_));rw[DC];refine SA (λi x=>x=Bi cs.length (λj=>if j<i then G0 l cs k j else 0)) cs.length (by simp) (by omega) (λi x t p m r=>?_) (λx t m=>?_)
  ·subst m
   refine P2 (Aah p (BY (AW p) ?_));rw[Bb];have P:=o.rg _ (AN p);refine SA (λj x=>x=Bi cs.length (λq=>if q=i then(l[k].2.take j).foldl (λa e=>if BQ cs[i].toNat e then e.2.2 else a) (l.length:Int)else if q<i then G0 l cs k q else 0)) l[k].2.length (by simp) (by omega) (λj x z A s v=>?_) (λx z s=>?_)
   ·subst s;try dsimp only
    refine P2 (Aah A ?_);have u:(l[k].2.take (j+1)).foldl (λa e=>if BQ cs[i].toNat e then e.2.2 else a) (l.length:Int)=if BQ cs[i].toNat l[k].2[j]then l[k].2[j].2.2 else(l[k].2.take j).foldl (λa e=>if BQ cs[i].toNat e then e.2.2 else a) (l.length:Int):=by grind[qE]
    have w:BQ cs[i].toNat l[k].2[j]=Ak->Ok (z (Bi cs.length (λq=>if q=i then(l[k].2.take j).foldl (λa e=>if BQ cs[i].toNat e then e.2.2 else a) (l.length:Int)else if q<i then G0 l cs k q else 0),j+1)) (λx=> ∃cs,Bu cs/\DR cs l/\x=(cs,[],(FI l cs []).2.1,(FI l cs []).2.2.1)):=λh=>v _ (by rw[u,h];rfl);refine N7 (λN=>N7 (λf=>BY (AW p) ?_) λf=>?_) λN=>?_;· rw[Bb];grind[BQ]
    ·exact w (by simp only[BQ,Ags,decide_eq_false_iff_not];omega)
    grind[BQ]
   ·subst s
    refine P3 (r _ (AP λq B=>?_));rw[Ai,Xd O];by_cases h:q=i;· subst h;simp only[if_true,Afg];unfold G0 Bn;rw[if_neg (by omega),d,getD_at p]
    ·rw[if_neg h];by_cases f:q<i;· rw[if_pos f,if_pos (by omega)]
     ·rw[if_neg f,if_neg (by omega)]
  ·subst m
   refine P3 (PC (by rw[Az];unfold Aj;omega) (PC (by rw[Az];unfold Aj;omega) (G _ _ ⟨?_,?_⟩)));· rw[Dl];unfold UZ;rw[d]
   ·rw[Dl];unfold Z9;rw[AP (g:=G0 l cs k) λj A=>by rw[if_pos A]]
 ·obtain⟨rfl,rfl⟩:=D
  refine P3 (PC (by unfold Aj;omega) ?_);have J:Bf l (l.length:Nat)=(Ak,[]):=by unfold Bf;simp
  refine SA (λi x=>x=Bi cs.length (λj=>if j<i then(l.length:Int)else 0)) cs.length (by rw[DC];rfl) (by omega) (λi x t p s r=>?_) (λx t s=>?_)
  ·subst s;try dsimp only
   refine VB (by simp;omega) (BY (AW p) (r _ ?_));rw[Bb];refine AP λq B=>?_;by_cases h:q=i;· subst h;simp
   ·rw[if_neg h];by_cases f:q<i;· rw[if_pos f,if_pos (by omega)]
    ·rw[if_neg f,if_neg (by omega)]
  ·subst s;try dsimp only
   refine Qb (by simp) (PC (by rw[Az];unfold Aj;simp;omega) (PC (by rw[Az];unfold Aj;simp;omega) (MI ⟨cs,o,E,?_⟩)));unfold FI;rw[Dl,Dl];have L:UZ l l.length=Ak:=by unfold UZ;rw[J]
   have M:Z9 l cs l.length=Bi cs.length (λj=>if j<cs.length then(l.length:Int)else 0):=by unfold Z9;refine AP λq B=>?_;rw[if_pos B];unfold G0 Bn;rw[if_neg (by omega),J];rfl
   rw[L,M]
def Ct(l:Tb):Nat:=l.length+1
theorem F_(a:Bg l)(cs:List Int)(q i:Nat):0<=G0 l cs q i/\G0 l cs q i<Ct l:=vZ a _ _
theorem Ou(a:Bg l)(hc:Bu cs)(q:Nat)(hi:i<cs.length):Au l (G0 l cs q i)=Iw (Au l (q:Nat)) cs[i].toNat:=by have b:=hc.rg _ (AN hi);rw[Ft _ _ _ (by omega)];unfold G0;rw[aC _ _ (by have:=a.st (q:Nat) (cs.getD i 0).toNat;omega),getD_at hi]
theorem Jx(d:Bg l)(hc:Bu cs)(c:DR cs l)(q:Int)(hi:i<cs.length)(a:b<256)(h1:cs[i]<=b)(h2:(b:Int)<=G1 cs i):Iw (Au l q) b=Iw (Au l q) cs[i].toNat:=by rw[Ft _ _ _ a,Ft _ _ _ (by omega),c.const hc d hi h1 h2]
theorem PZ(l:Tb)(q:Nat):Au l (q:Nat) []=UZ l q:=by rfl
theorem VV{l:Tb}(a:Bg l){cs:List Int}(hc:Bu cs)(j:DR cs l)(c:Nat->Int)
  (h1:∀s t,s<Ct l->t<Ct l->c s=c t->UZ l s=UZ l t)
  (h2:∀s t,s<Ct l->t<Ct l->c s=c t->∀i,i<cs.length->c (G0 l cs s i).toNat=c (G0 l cs t i).toNat):
  ∀(w:List UInt8) (s t:Nat),s<Ct l->t<Ct l->c s=c t->Au l (s:Nat) w=Au l (t:Nat) w
 | [],s,t,f,g,h=>by grind[PZ]
 |b::w,s,t,f,g,h=>by
  obtain⟨i,d,k,m⟩:=hc.find b.toNat b.toNat_lt;have e:∀q:Nat,Au l (q:Nat) (b::w)=Au l (G0 l cs q i) w:=λq=>by rw[Ou a hc q d,<-Jx a hc j q d b.toNat_lt k m];simp[Iw]
  have n:=F_ a cs s i;have o:=F_ a cs t i;have:=VV a hc j c h1 h2 w (G0 l cs s i).toNat (G0 l cs t i).toNat (by omega) (by omega) (h2 s t f g h i d);grind[Int.toNat_of_nonneg]
def EF(l:Tb)(cs:List Int)(c:Nat->Int)(s:Nat):Ay:=Lib.itoa (c s)++EA (Bi cs.length λi=>c (G0 l cs s i).toNat)
theorem L8(n:Nat)(f:Nat->Int):EA (Bi (n+1) f)=EA (Bi n f)++(([44]:Ay)++Lib.itoa (f n)):=by grind[EA,Dl]
theorem N_{f:Nat->Int}(h:∀i,i<n->(Lib.itoa (f i)).length<=10):(EA (Bi n f)).length<=11*n:=by
 induction n with
 |zero=>simp[Bi,EA]
 |succ n b=>
  grind[L8,List.length_append]
def bI(s:Ay):List Int:=s.map λb=>((b.toNat:Nat):Int)
theorem sB(s t:Ay):bI (s++t)=bI s++bI t:=by simp[bI]
theorem Zc{s:Ay}{x:List Int}(h:x.length+s.length<=1000000000):yq fu (s,x)=Ac ((s.length:Int),x++bI s):=by rw[yq];refine Ok.eq (BY (d41 fu x) (Abw (MI rfl)))
theorem oK(s:Ay):F43 fu (bI s)=Ac s:=by rw[F43];refine Ok.eq (PC ⟨rfl,rfl⟩ (MI ?_));simp_all[bI,Aaj,Afi,Abr]
structure ClsB(l:Tb)(c:Nat->Int):Prop where
 rg:∀s,s<Ct l->0<=c s/\c s<=l.length
theorem OK{n:Int}(h0:0<=n)(h:n<10000000000):(Lib.itoa n).length<=10:=by obtain⟨u,rfl⟩:∃u:Nat,n=u:=⟨n.toNat,by omega⟩;grind[ba]
theorem Pv{c:Nat->Int}(m:Bg l)(hc:Bu cs)(t:ClsB l c)(C:l.length<=n)(D:n<4294967296)(B:256<fu)(g:s<Ct l):
  Ok (F44 fu ((FI l cs (Bi (Ct l) c)),(s:Int))) (λr=>r=EF l cs c s/\r.length<=4096):=by
 rw[F44];unfold FI;have w:=hc.le;have b:∀q,q<Ct l->(Lib.itoa (c q)).length<=10:=λq d=>by have:=t.rg q d;grind[OK]
 have e:∀q,q<Ct l->F40 fu (c q)=Ac (Lib.itoa (c q)):=λq d=>by have:=t.rg q d;exact(d40 fu _).trans (nL (p:=GK.DY (c q)) (by omega))
 have u:=b s g;refine BY (AW g) (BY (e s g) (BY (Zc (by grind)) (BY (AW g) ?_)));refine SA (λi x=>x=bI (Lib.itoa (c s)++EA (Bi i λi=>c (G0 l cs s i).toNat))) cs.length (by simp[Bi,EA,bI]) (by omega) (λi x nx y o k=>?_) (λx nx o=>?_)
 ·subst o
  have E:=F_ m cs s i;have d:(G0 l cs s i).toNat<Ct l:=by omega
  have A:=b _ d;have v:=N_ (n:=i) (f:=λi=>c (G0 l cs s i).toNat) λj z=>b _ (by simp_all[F_]);refine VB (by simp only[Z9,Az];omega) (BY (by exact AW y) (BY (a:=c (G0 l cs s i).toNat) ?_ (BY (e _ d) (PC (by simp;omega) (BY (Zc (by simp[bI];omega)) (k _ ?_))))));· rw[show G0 l cs s i=(((G0 l cs s i).toNat:Nat):Int) by omega];exact AW (by omega)
  grind[Lib.itoa,L8,List.append_assoc,sB]
 ·subst o
  have v:=N_ (n:=cs.length) (f:=λi=>c (G0 l cs s i).toNat) λj z=>b _ (by have:=F_ m cs s j;omega);refine Qb (by simp only[Z9,Az];omega) (BY (oK _) (MI ⟨rfl,?_⟩));rw[Aab];omega
theorem FV{c:Nat->Int}(g:Bg l)(e:ClsB l c){t:Nat}(f:s<Ct l)(ht:t<Ct l):
  EF l cs c s=EF l cs c t↔c s=c t/\∀i,i<cs.length->c (G0 l cs s i).toNat=c (G0 l cs t i).toNat:=by
 have a:∀q,∀z∈(Bi cs.length λi=>c (G0 l cs q i).toNat),0<=z:=λq z a=>by obtain⟨i,_,rfl⟩:=EG.1 a;exact(e.rg _ (by simp_all[F_])).1
 constructor;· intro h;obtain⟨b,d⟩:=fD (a s) (a t) (e.rg s f).1 (e.rg t ht).1 h;grind[Vq]
 grind[EF,Vq]
def Eh(m:List (Ay×Int))(u:List Ay):Prop:=m.length=u.length/\∀x,AF m x=if x∈u then Ac ((u.idxOf x:Nat):Int)else Dc
theorem Eh.nil:Eh [] []:=⟨rfl,λx=>rfl⟩
theorem Eh.put(h:Eh m u)(c:x∉u):Eh (Bz m x (u.length:Int)) (u++[x]):=by refine⟨by rw[Kx,h.2,if_neg c,h.1];simp,λz=>?_⟩;rw[H9,h.2];grind
theorem Eh.some(h:Eh m u)(x:Ay):(AF m x).isSome=Ds (x∈u):=by rw[h.2];grind
theorem Eh.getD(h:Eh m u)(b:x∈u):(AF m x).getD 0=((u.idxOf x:Nat):Int):=by rw[h.2,if_pos b];rfl
theorem OL{α:Type} [BEq α] [LawfulBEq α]{u:List α}{x y:α}(e:x∈u)(f:y∈u)(h:u.idxOf x=u.idxOf y):x=y:=by have c:=Adr e;have a:=Aes c;grind
structure W1(l:Tb)(c:Nat->Int):Prop extends ClsB l c where
 iff:∀s t,s<Ct l->t<Ct l->(c s=c t↔Au l (s:Nat)=Au l (t:Nat))
structure sW(l:Tb)(k:Nat)(c:Nat->Int):Prop extends ClsB l c where
 fwd:∀s t,s<Ct l->t<Ct l->Au l (s:Nat)=Au l (t:Nat)->c s=c t
 acc:∀s t,s<Ct l->t<Ct l->c s=c t->UZ l s=UZ l t
 AB:k=0\/∃(key:Nat->Ay) (u:List Ay),Gk (Ct l) key u/\u.length=k/\∀s t,s<Ct l->t<Ct l->c s=c t->key s=key t
theorem Xq(q:Bg l)(h0:0<l.length)(hc:Bu cs)(Z:DR cs l)(hl:l.length<=n)(hn:n<4294967296)(hfu:n+2<fu)(I:256<fu):
  Ok (F45 fu (cs,[],(FI l cs []).2.1,(FI l cs []).2.2.1)) (λr=> ∃c,W1 l c/\r=FI l cs (Bi (Ct l) c)):=by
 have hN:Ct l=l.length+1:=rfl;rw[F45];unfold FI;simp only[Az];refine PC (by grind) ?_;rw[DC];refine SA (λk x=>x=Bi (Ct l) (λs=>if s<k then(if UZ l s then 1 else 0)else 0)) (Ct l) (by rfl) (by omega) (λk x nx Q L D=>?_) (λx nx L=>?_)
 ·subst L
  refine P2 (BY (AW Q) (PY (λh=>BY (AW Q) (D _ ?_)) λh=>D _ (AP λs a=>?_)))
  all_goals grind[Bb]
 ·subst L
  refine Qb (by omega) ?_;refine Xn (X:=List Int×Int) (λx=> ∃k:Nat,x.2=k/\k<=Ct l/\∃c,x.1=Bi (Ct l) c/\sW l k c) (λx=>Ct l-x.2.toNat) ⟨0,rf,by simp,_,rf,⟨⟨λs a=>?_⟩,λs t a b h=>?_,λs t a b h=>?_, .inl rf⟩⟩ (by omega) λx nx d _ D=>?_;· omega
  ·rw[if_pos a,if_pos b,<-PZ,<-PZ,h]
  ·grind
  obtain⟨cl,ki⟩:=x;obtain⟨k,J,Q,c,C,d⟩:=d;subst C
  refine PC (by grind) ?_;refine XJ (λj y m=> ∃u,Gk j (EF l cs c) u/\Eh m u/\y=Bi (Ct l) (λs=>if s<j then((u.idxOf (EF l cs c s):Nat):Int)else 0)) (Ct l) ⟨[], .zero _, .nil,by rfl⟩ (by omega) (λj y m T P O F=>?_) (λy m T O=>?_)
  ·obtain⟨u,A,g,rfl⟩:=O;have K:=A.le
   refine P2 (Oz (Pv q hc d.toClsB hl hn I P) λx L=>?_);obtain⟨rfl,hxl⟩:=L;have M:(EF l cs c j).length<=Aj:=by grind
   refine PC M (PY (λh=>?_) λh=>?_)
   ·rw[g.some]at h;have o:EF l cs c j∉u:=by simpa using h
    refine PC ⟨M,by rw[g.1];omega⟩ ?_;refine BY (AW P) (F _ _ ⟨u++[EF l cs c j],A.new o,by rw[g.1];exact g.put o,?_⟩);rw[Bb];refine AP λs a=>?_;by_cases p:s=j;· subst p;rw[if_pos rfl,if_pos (by omega),Aey,if_neg o,g.1];simp
    ·rw[if_neg p];by_cases e:s<j;· rw[if_pos e,if_pos (by omega),Aey,if_pos ((A.mem _).2 ⟨s,e,rfl⟩)]
     ·rw[if_neg e,if_neg (by omega)]
   ·rw[g.some]at h;have o:EF l cs c j∈u:=by simpa using h
    refine BY (AW P) (F _ _ ⟨u,A.old o,g,?_⟩);rw[Bb,g.getD o];refine AP λs a=>?_;by_cases p:s=j;· subst p;rw[if_pos rfl,if_pos (by omega)]
    ·rw[if_neg p];by_cases e:s<j;· rw[if_pos e,if_pos (by omega)]
     ·rw[if_neg e,if_neg (by omega)]
  ·obtain⟨u,A,g,rfl⟩:=O;have K:=A.le;have W:0<u.length:=Agm ((A.mem _).2 ⟨0,by omega,rfl⟩);have z:∀s,s<Ct l->EF l cs c s∈u:=λs a=>(A.mem _).2 ⟨s,a,rfl⟩;try dsimp only
   have C:Bi (Ct l) (λs=>if s<Ct l then((u.idxOf (EF l cs c s):Nat):Int)else 0)=Bi (Ct l) (λs=>((u.idxOf (EF l cs c s):Nat):Int)):=
    AP λs a=>by rw[if_pos a]
   rw[C];have U:ClsB l (λs=>((u.idxOf (EF l cs c s):Nat):Int)):=⟨λs a=>by
    have:=Adr (z s a);omega⟩;have f:∀s t,s<Ct l->t<Ct l->(((u.idxOf (EF l cs c s):Nat):Int)=((u.idxOf (EF l cs c t):Nat):Int)↔EF l cs c s=EF l cs c t):=λs t a b=>
    ⟨λh=>OL (z s a) (z t b) (Int.ofNat_inj.1 h),λh=>by rw[h]⟩;have E:∀s t,s<Ct l->t<Ct l->Au l (s:Nat)=Au l (t:Nat)->EF l cs c s=EF l cs c t:=λs t a b h=>by
    refine(FV q d.toClsB a b).2 ⟨d.fwd s t a b h,λi V=>?_⟩;have r1:=F_ q cs s i;have r2:=F_ q cs t i;refine d.fwd _ _ (by omega) (by omega) ?_;rw[Abd r1.1,Abd r2.1,Ou q hc s V,Ou q hc t V,h]
   have G:∀s t,s<Ct l->t<Ct l->EF l cs c s=EF l cs c t->UZ l s=UZ l t:=λs t a b h=>
    d.acc s t a b ((FV q d.toClsB a b).1 h).1;refine Qb (by(try rw[Az])<;>omega) (N7 (λh=>MI ⟨λs=>((u.idxOf (EF l cs c s):Nat):Int),⟨U,λs t a b=>?_⟩,rfl⟩) λh=>?_)
   ·rw[f s t a b];refine⟨λY=>?_,E s t a b⟩;rw[g.1]at h
    obtain⟨key,v,R,S,B⟩:=d.AB.resolve_left (by omega);have H:=(R.bG A (λs t a b h=>B s t a b ((FV q d.toClsB a b).1 h).1)).2 (by omega);funext w;refine VV q hc Z c (λs t a b h=>d.acc s t a b h) (λs t a b h=>?_) w s t a b ((FV q d.toClsB a b).1 Y).1;exact((FV q d.toClsB a b).1 (H s t a b (B s t a b h))).2
   ·have hlt:k<u.length:=by
     rcases d.AB with h0|⟨key,v,R,S,B⟩;· omega
     ·have:=(R.bG A (λs t a b h=>B s t a b ((FV q d.toClsB a b).1 h).1)).1;rw[g.1]at h;omega
    refine D (_,(m.length:Int)) ⟨m.length,rf,by rw[g.1];exact K,_,rf,⟨⟨U.rg⟩,λs t a b h=>(f s t a b).2 (E s t a b h),λs t a b h=>G s t a b ((f s t a b).1 h), .inr ⟨EF l cs c,u,A,g.1.symm,λs t a b h=>(f s t a b).1 h⟩⟩⟩ ?_;have:=g.1;omega
end
end Go.GL
