/- Part 5 of the texts of this claim: what its theorem leans on. -/
import Derived.Test.YtbeogcbmdbnkiaaGreatDoorZLookupChains4
import Derived.KernelRfl
set_option linter.all false
open Option renaming some→Ac,none→C7
open Bool renaming false→Ap,true→Br
open Go renaming Value→BU,Operand→Dc,TypeId→Ee,Program→Ge,World→GD,execOp→ID,Oper→J5,IntKind→Kj
namespace Go.GV
open Go Go.GK Go.Proofs
noncomputable section
def Yd(fu:Nat):Bool×Bool->Option Bool|(x0,x1)=>bif x0 then Ac ((!x1))else Ac Ap
def B151:=bQ [] Tryz.func181 [.bool, .bool] [.bool] Yd
def wZ(fu:Nat)(_:Unit):Option Ba:=Ac (([((-100000000000:Int),100000000000)],[]))
def B152:=bQ [] Tryz.func254 [] [EU] wZ (pt:=lg [(1,[.PZ 0 0])])
def UG(fu:Nat)(_:Unit):Option Ba:=Ab (wZ fu ()) λr1=>Ac ((r1.1,[((-999999999999999:Int),999999999999999)]))
def yp:=bQ [B152] Tryz.func178 [] [EU] UG (pt:=lg [(3,[.PZ 0 1])])
def td(fu:Nat):(List (Int×Int))×Int×Int->Option ((Int×Int)×List (Int×Int))|(x0,x1)=>Ac ((x1,x0))
def B154:=bP [] Tryz.func308 ⟨[.Ae BE, .Ae Ea],[(0, .v 0 BE),(1, .v 1 Ea),(2, .AK 267 [] []),(3, .AK 309 [] [])],[],0⟩ ⟨[.Ae Ea, .Ae BE],[(0, .AK 332 [] [0,1,2,3])],[(0, .Ah 63 [(2, .v 0 Ea)]),(1, .Ah 22 [(1, .v 1 BE)]),(2, .Ah 280 [(1, .AK 309 [] [])]),(3, .Ah 280 [(1, .AK 267 [] [])])],4⟩ 1 [] td
def jZ(fu:Nat)(x0:Int):Option Int:=Aa .i64 (x0-1)<|some ((x0-1))
def B155:=bQ [] Tryz.func309 [Aj] [Aj] jZ
def tc(fu:Nat):(Int×Int)×List (Int×Int)->Option (List (Int×Int)×Bool)|(x0,x1)=>Ad fu (λ(z1:Int×Nat) nx2=>bif decide ((z1.2:Int)<x1.length)then Ab (idx x1 z1.2) λr3=>Ab (jZ fu r3.1) λr4=>bif decide (z1.1<=r4)then Iu ((z1.1,r4)) (Ac (([],Br))) (Ab (nD fu r3.2) λr5=>nx2 ((r5,z1.2+1)))else Ab (nD fu r3.2) λr6=>nx2 (r6,z1.2+1)else bif decide (z1.1<=x0.2)then Iu ((z1.1,x0.2)) (Ac (([],Br))) (Ac (([],Br)))else Ac (([],Br))) ((x0.1,0))
def B156:=bI [B69,B155] Tryz.func332 ⟨[.Ae Ea, .Ae BE],[(0, .Ak),(1, .loc 0 0),(2, .loc 1 0),(3, .loc 2 0),(4, .loc 3 0)],[(0, .Ah 63 [(2, .v 0 Ea)]),(1, .Ah 22 [(1, .v 1 BE)]),(2, .Ah 280 [(1, .AK 309 [] [])]),(3, .Ah 280 [(1, .AK 267 [] [])])],4⟩ 0 [Ea] tc (la:=lk [(2,⟨[.Ae Aj, .nat],(kp [0,1,3,4] [(6, .v 0 Aj),(13, .Ak),(14, .Ak),(15, .AH 1 201)]),[(3, .c 0),(2, .c 0),(0, .c 0),(1, .c 0)],5⟩)])
def jY(fu:Nat):(Int×Int)×List (Int×Int)->Option (List (Int×Int)×(Int×Int)×List (Int×Int))|(x0,x1)=>Ab (tc fu (x0,x1)) λr1=>E_ (λ(y2:Int×Int) (z3:List (Int×Int)) nx4=>Af (List.length z3+1<=Ag)<|nx4 ((z3++[y2]))) (λz5=>ND (r1.2)<|some ((z5,x0,x1))) (r1.1) ([])
def B157:=bP [B156] Tryz.func331 ⟨[.Ae Ea, .Ae BE],[(0, .nl),(1, .AK 332 [] [0,1,2,3])],[(0, .Ah 63 [(2, .v 0 Ea)]),(1, .Ah 22 [(1, .v 1 BE)]),(2, .Ah 280 [(1, .AK 309 [] [])]),(3, .Ah 280 [(1, .AK 267 [] [])])],4⟩ ⟨[.Ae BE, .Ae Ea, .Ae BE],[(0, .v 0 BE)],[(0, .Ah 63 [(2, .v 1 Ea)]),(1, .Ah 22 [(1, .v 2 BE)]),(2, .Ah 280 [(1, .AK 309 [] [])]),(3, .Ah 280 [(1, .AK 267 [] [])])],4⟩ 1 [] jY (la:=lk [(2,⟨[.Ae BE],(kp [2,4,6] []),[(4, .Ah 22 [(1, .AG 6)]),(6, .row 63 0)],7⟩)]) (pt:=lg [(1,[.Ed 2 0 63 Ea]),(4,[.fz 4])])
def jX(fu:Nat):(Int×Int)×List (Int×Int)->Option (List (Int×Int)×(Int×Int)×List (Int×Int))|(x0,x1)=>Ab (jY fu (x0,x1)) λr1=>Ac ((r1.1,r1.2.1,r1.2.2))
def B158:=bP [B157] Tryz.func307 ⟨[.Ae Ea, .Ae BE],[(0, .AK 332 [] [0,1,2,3])],[(0, .Ah 63 [(2, .v 0 Ea)]),(1, .Ah 22 [(1, .v 1 BE)]),(2, .Ah 280 [(1, .AK 309 [] [])]),(3, .Ah 280 [(1, .AK 267 [] [])])],4⟩ ⟨[.Ae BE, .Ae Ea, .Ae BE],[(0, .v 0 BE)],[(0, .Ah 63 [(2, .v 1 Ea)]),(1, .Ah 22 [(1, .v 2 BE)]),(2, .Ah 280 [(1, .AK 309 [] [])]),(3, .Ah 280 [(1, .AK 267 [] [])])],4⟩ 1 [] jX
def ta(fu:Nat):(List (Int×Int))×Int×Int->Option ((Int×Int)×List (Int×Int))|(x0,x1)=>Ac ((x1,x0))
def B159:=bP [] Tryz.func308 ⟨[.Ae BE, .Ae Ea],[(0, .v 0 BE),(1, .v 1 Ea),(2, .AK 268 [] []),(3, .AK 310 [] [])],[],0⟩ ⟨[.Ae Ea, .Ae BE],[(0, .AK 332 [] [0,1,2,3])],[(0, .Ah 63 [(2, .v 0 Ea)]),(1, .Ah 22 [(1, .v 1 BE)]),(2, .Ah 280 [(1, .AK 310 [] [])]),(3, .Ah 280 [(1, .AK 268 [] [])])],4⟩ 1 [] ta
def jW(fu:Nat)(x0:Int):Option Int:=Aa .i64 (x0-1)<|Af ((10000:Int)≠0)<|Aa .i64 (Int.tmod (x0-1) (10000:Int))<|bif decide (Int.tmod (x0-1) (10000:Int)=0)then Aa .i64 (x0-2)<|some ((x0-2))else Aa .i64 (x0-1)<|some ((x0-1))
def B160:=bQ [] Tryz.func310 [Aj] [Aj] jW
def s_(fu:Nat):(Int×Int)×List (Int×Int)->Option (List (Int×Int)×Bool)|(x0,x1)=>Ad fu (λ(z1:Int×Nat) nx2=>bif decide ((z1.2:Int)<x1.length)then Ab (idx x1 z1.2) λr3=>Ab (jW fu r3.1) λr4=>bif decide (z1.1<=r4)then Iu ((z1.1,r4)) (Ac (([],Br))) (Ab (nC fu r3.2) λr5=>nx2 ((r5,z1.2+1)))else Ab (nC fu r3.2) λr6=>nx2 (r6,z1.2+1)else bif decide (z1.1<=x0.2)then Iu ((z1.1,x0.2)) (Ac (([],Br))) (Ac (([],Br)))else Ac (([],Br))) ((x0.1,0))
def B161:=bI [B71,B160] Tryz.func332 ⟨[.Ae Ea, .Ae BE],[(0, .Ak),(1, .loc 0 0),(2, .loc 1 0),(3, .loc 2 0),(4, .loc 3 0)],[(0, .Ah 63 [(2, .v 0 Ea)]),(1, .Ah 22 [(1, .v 1 BE)]),(2, .Ah 280 [(1, .AK 310 [] [])]),(3, .Ah 280 [(1, .AK 268 [] [])])],4⟩ 0 [Ea] s_ (la:=lk [(2,⟨[.Ae Aj, .nat],(kp [0,1,3,4] [(6, .v 0 Aj),(13, .Ak),(14, .Ak),(15, .AH 1 201)]),[(3, .c 0),(2, .c 0),(0, .c 0),(1, .c 0)],5⟩)])
def jV(fu:Nat):(Int×Int)×List (Int×Int)->Option (List (Int×Int)×(Int×Int)×List (Int×Int))|(x0,x1)=>Ab (s_ fu (x0,x1)) λr1=>E_ (λ(y2:Int×Int) (z3:List (Int×Int)) nx4=>Af (List.length z3+1<=Ag)<|nx4 ((z3++[y2]))) (λz5=>ND (r1.2)<|some ((z5,x0,x1))) (r1.1) ([])
def B162:=bP [B161] Tryz.func331 ⟨[.Ae Ea, .Ae BE],[(0, .nl),(1, .AK 332 [] [0,1,2,3])],[(0, .Ah 63 [(2, .v 0 Ea)]),(1, .Ah 22 [(1, .v 1 BE)]),(2, .Ah 280 [(1, .AK 310 [] [])]),(3, .Ah 280 [(1, .AK 268 [] [])])],4⟩ ⟨[.Ae BE, .Ae Ea, .Ae BE],[(0, .v 0 BE)],[(0, .Ah 63 [(2, .v 1 Ea)]),(1, .Ah 22 [(1, .v 2 BE)]),(2, .Ah 280 [(1, .AK 310 [] [])]),(3, .Ah 280 [(1, .AK 268 [] [])])],4⟩ 1 [] jV (la:=lk [(2,⟨[.Ae BE],(kp [2,4,6] []),[(4, .Ah 22 [(1, .AG 6)]),(6, .row 63 0)],7⟩)]) (pt:=lg [(1,[.Ed 2 0 63 Ea]),(4,[.fz 4])])
def jU(fu:Nat):(Int×Int)×List (Int×Int)->Option (List (Int×Int)×(Int×Int)×List (Int×Int))|(x0,x1)=>Ab (jV fu (x0,x1)) λr1=>Ac ((r1.1,r1.2.1,r1.2.2))
def B163:=bP [B162] Tryz.func307 ⟨[.Ae Ea, .Ae BE],[(0, .AK 332 [] [0,1,2,3])],[(0, .Ah 63 [(2, .v 0 Ea)]),(1, .Ah 22 [(1, .v 1 BE)]),(2, .Ah 280 [(1, .AK 310 [] [])]),(3, .Ah 280 [(1, .AK 268 [] [])])],4⟩ ⟨[.Ae BE, .Ae Ea, .Ae BE],[(0, .v 0 BE)],[(0, .Ah 63 [(2, .v 1 Ea)]),(1, .Ah 22 [(1, .v 2 BE)]),(2, .Ah 280 [(1, .AK 310 [] [])]),(3, .Ah 280 [(1, .AK 268 [] [])])],4⟩ 1 [] jU
def dy(fu:Nat)(x0:Ba):Option Ba:=Ab (UA fu x0) λr1=>Ab (UG fu ()) λr2=>Ab (idx r2.1 (0:Int)) λr3=>Ab (td fu (r1.1,r3)) λr4=>Ab (jX fu (r4.1,r4.2)) λr5=>Ab (idx r2.2 (0:Int)) λr6=>Ab (ta fu (r1.2,r6)) λr7=>Ab (jU fu (r7.1,r7.2)) λr8=>Ab (UA fu (r5.1,r8.1)) λr9=>Ac r9
def B164:=bQ [yp,x5,B158,B163,B154,B159] Tryz.func256 [EU] [EU] dy
def Yb(fu:Nat):(List (Int×Int))×List (Int×Int)->Option (List (Int×Int))|(x0,x1)=>Ad fu (λ(z1:List (Int×Int)×Nat) nx2=>bif decide ((z1.2:Int)<x0.length)then Ab (idx x0 z1.2) λr3=>Ad fu (λ(z4:List (Int×Int)×Nat) nx5=>bif decide ((z4.2:Int)<x1.length)then Ab (idx x1 z4.2) λr6=>Aa .i64 (if r6.1>r3.1 then r6.1 else r3.1)<|Aa .i64 (if r6.2<r3.2 then r6.2 else r3.2)<|bif decide ((if r3.1<r6.1 then r6.1 else r3.1)<=(if r6.2<r3.2 then r6.2 else r3.2))then Af (List.length z4.1+1<=Ag)<|nx5 ((z4.1++[((if r3.1<r6.1 then r6.1 else r3.1),(if r6.2<r3.2 then r6.2 else r3.2))]),z4.2+1)else nx5 (z4.1,z4.2+1)else nx2 ((z4.1,z1.2+1))) ((z1.1,0))else Ac z1.1) (([],0))
def B165:=bQ [] Tryz.func306 [BE,BE] [BE] Yb (la:=lk [(3,⟨[.Ae BE, .nat],[(1, .Ak),(5, .AG 0),(11, .Ak),(12, .Ak),(13, .AH 1 301)],[(0, .row 63 0)],1⟩),(6,⟨[.Ae BE, .nat],[(1, .Ak),(5, .AG 0),(7, .Ak),(11, .Ak),(12, .Ak),(13, .Ak),(17, .Ak),(18, .Ak),(19, .AH 1 601)],[(1, .c 0),(0, .row 63 0)],2⟩)]) (pt:=lg [(2,[.own 5 63 Ea]),(13,[.fz 4])])
def jT(fu:Nat):Ba×Ba->Option Ba|(x0,x1)=>Ab (UA fu x0) λr1=>Ab (UA fu x1) λr2=>Ab (Yb fu (r1.1,r2.1)) λr3=>Ab (Yb fu (r1.2,r2.2)) λr4=>Ab (UA fu (r3,r4)) λr5=>Ac r5
def B166:=bQ [x5,B165] Tryz.func255 [EU,EU] [EU] jT
def S3(fu:Nat):Ba×Ba->Option Ba|(x0,x1)=>Ab (dy fu x1) λr1=>Ab (jT fu (x0,r1)) λr2=>Ac r2
def yo:=bQ [B166,B164] Tryz.func182 [EU,EU] [EU] S3
def jS(fu:Nat):HD×HD->Option HD|(x0,x1)=>Ab (iP fu x0) λr1=>Ab (iP fu x1) λr2=>Ab (Yd fu (r1.1,r2.1)) λr3=>Ab (Yd fu (r1.2.1,r2.2.1)) λr4=>Ab (Yd fu (r1.2.2.1,r2.2.2.1)) λr5=>Ab (S3 fu (r1.2.2.2.1,r2.2.2.2.1)) λr6=>Ab (UJ fu (r1.2.2.2.2,r2.2.2.2.2)) λr7=>Ac ((r3,r4,r5,r6,r7))
def B168:=bP [B90,yr,B151,yo] Tryz.func158 ⟨[.Ae y8, .Ae y8],[(0, .v 0 y8),(1, .v 1 y8),(2, .AK 181 [] []),(3, .AK 182 [] []),(4, .AK 167 [] [])],[],0⟩ ⟨[.Ae y8],[(0, .v 0 y8)],[],0⟩ 1 [] jS
def jR(fu:Nat):HD×HD->Option HD|(x0,x1)=>Ab (jS fu (x0,x1)) λr1=>Ac r1
def B169:=bQ [B168] Tryz.func123 [y8,y8] [y8] jR
def jQ(fu:Nat):HD×HD->Option Bool|(x0,x1)=>Ab (jR fu (x0,x1)) λr1=>Ab (Yh fu r1) λr2=>Ac r2
def B170:=bQ [tN,B169] Tryz.func72 [y8,y8] [.bool] jQ
def dw(fu:Nat):A4×Au->Option Bool|(x0,x1)=>bif decide ((x0.length:Int)=0)then Ac Ap else Ab (uq fu x0) λr1=>bif !r1 then Ac Ap else Ad fu (λ(z2:Int×Int) nx3=>bif decide (z2.2<(x1.length:Int))then Ab (idx x0 z2.1) λr4=>Ad fu (λ(z5:Nat) nx6=>bif decide ((z5:Int)<r4.2.length)then Ab (idx r4.2 z5) λr7=>Ab (ER x1 z2.2) λr8=>bif decide (r7.1<=r8)then Ab (ER x1 z2.2) λr9=>bif decide (r9<=r7.2.1)then Aa .i64 (z2.2+1)<|nx3 (r7.2.2,(z2.2+1))else nx6 (z5+1)else nx6 (z5+1)else Ac Ap) (0)else Ab (idx x0 z2.1) λr10=>Ac r10.1) ((0,0))
def B171:=bQ [B37] Tryz.func174 [y3, .str] [.bool] dw (la:=lk [(5,⟨[.Ae Aj, .Ae Aj],(kp [1,2] [(5, .v 0 Aj),(20, .Ak),(21, .v 1 Aj)]),[(0, .c 0)],1⟩),(8,⟨[.nat],(kp [1,2,6,20,21,29,30] [(31, .AH 0 800)]),[(0, .c 0)],1⟩)])
def UF(fu:Nat):BK×Au->Option (AF×Int)|(x0,x1)=>Ad fu (λ(z1:Nat) nx2=>bif decide ((z1:Int)<x0.1.length)then Ab (idx x0.1 z1) λr3=>bif decide (r3.1=x1)then Ac ((r3.2.2,r3.2.1))else nx2 (z1+1)else Ad fu (λ(z4:Nat) nx5=>bif decide ((z4:Int)<x0.2.length)then Ab (idx x0.2 z4) λr6=>Ab (dw fu (r6.1,x1)) λr7=>bif r7 then Ac ((r6.2,3))else nx5 (z4+1)else Ac (((Vl.mk Ap (Ap,Ap,Ap,([],[]),[]) [] [],Vl.mk Ap (Ap,Ap,Ap,([],[]),[]) [] []),3))) (0)) (0)
def B172:=bQ [B171] Tryz.func117 [Cp, .str] [BH,Aj] UF (la:=lk [(2,⟨[.nat],(kp [1,2,4,11,12] [(13, .AH 0 200)]),[(1, .c 0),(0, .c 0)],2⟩),(8,⟨[.nat],(kp [1,4,27,28] [(29, .AH 0 800)]),[(1, .c 0)],2⟩)])
def jP(fu:Nat):Bool×Bool->Option Bool|(x0,x1)=>bif x0 then Ac x1 else Ac Ap
def B173:=bQ [] Tryz.func175 [.bool, .bool] [.bool] jP
def s9(fu:Nat):A4×A4->Option A4|(x0,x1)=>Ab (Lt fu x0) λr1=>Ab (Lt fu x1) λr2=>Ad fu (λ(z3:List (Int×Int)×A4×Nat) nx4=>bif decide ((z3.2.2:Int)<z3.1.length)then Ab (idx z3.1 z3.2.2) λr5=>Ab (Nv fu (r1,r5.1)) λr6=>Ab (Nv fu (r2,r5.2)) λr7=>Ab (jP fu (r6,r7)) λr8=>Ab (Nu fu (r1,r5.1,(List.set (List.replicate 256 Ap) 0 Br))) λr9=>Ab (Nu fu (r2,r5.2,r9)) λr10=>Ad fu (λ(z11:List (Int×Int)×List (Int×Int×Int)×Int) nx12=>bif decide (z11.2.2<256)then Af ((0:Int)<=z11.2.2/\z11.2.2<(↑256:Int))<|Ab (idx r10 (↑(0+Int.toNat z11.2.2*1):Int)) λr13=>bif r13 then Aa .u8 (z11.2.2)<|Aa .u8 (z11.2.2)<|Ab (Nt fu (r1,r5.1,z11.2.2)) λr14=>Aa .u8 (z11.2.2)<|Ab (Nt fu (r2,r5.2,z11.2.2)) λr15=>Ab (UM fu ((r14,r15),z11.1)) λr16=>Af (List.length z11.2.1+1<=Ag)<|Aa .i64 (((z11.2.1++[(z11.2.2,0,r16.1)]).length:Int)-1)<|Aa .u8 (z11.2.2)<|Ab (idx (z11.2.1++[(z11.2.2,0,r16.1)]) (((z11.2.1++[(z11.2.2,0,r16.1)]).length:Int)-1)) λr17=>Aa .i64 (z11.2.2+1)<|nx12 (r16.2,((z11.2.1++[(z11.2.2,0,r16.1)]).set (Int.toNat (((z11.2.1++[(z11.2.2,0,r16.1)]).length:Int)-1)) (r17.1,z11.2.2,r17.2.2)),(z11.2.2+1))else Aa .i64 ((z11.2.1.length:Int)-1)<|Aa .u8 (z11.2.2)<|Ab (idx z11.2.1 ((z11.2.1.length:Int)-1)) λr18=>Aa .i64 (z11.2.2+1)<|nx12 (z11.1,(z11.2.1.set (Int.toNat ((z11.2.1.length:Int)-1)) (r18.1,z11.2.2,r18.2.2)),(z11.2.2+1))else Af (List.length z3.2.1+1<=Ag)<|nx4 ((z11.1,(z3.2.1++[(r8,z11.2.1)]),z3.2.2+1))) ((z3.1,[],0))else Ab (nE fu z3.2.1) λr19=>Ac r19.1) (([(0,0)],[],0))
def B174:=bP [tG,B173,tO,B98,tS,tR,B49] Tryz.func163 ⟨[.Ae y3, .Ae y3],[(0, .v 0 y3),(1, .v 1 y3),(2, .AK 175 [] [])],[],0⟩ ⟨[.Ae y3],[(0, .v 0 y3)],[],0⟩ 1 [] s9 (la:=lk [(6,⟨[.Ae BE, .Ae I5, .nat],(kp [2,3,4,6,7,8] [(9, .AG 5),(10, .AH 2 602)]),[(4, .Ah 239 [(1, .AG 3)]),(3, .row 238 0),(2, .c 0),(1, .c 0),(0, .c 0),(5, .row 95 1)],6⟩),(14,⟨[.Ae BE, .Ae J7, .Ae Aj],(kp [2,3,4,6,7,8,9,10,11,12,13] [(54, .v 2 Aj)]),[(8, .c 0),(7, .Ah 95 [(1, .Ak),(1, .AG 9)]),(6, .c 0),(5, .c 0),(4, .Ah 239 [(1, .AG 3)]),(3, .row 238 0),(2, .c 0),(1, .c 0),(0, .c 0),(9, .row 92 1)],10⟩)]) (pr:=lg [(21,[.fz 9])]) (pt:=lg [(5,[.own 9 95 Lh]),(13,[.Ed 12 1 92 Pf])])
def jO(fu:Nat):A4×A4->Option A4|(x0,x1)=>bif decide ((x0.length:Int)=0)then Ac []else bif decide ((x1.length:Int)=0)then Ac []else Ab (s9 fu (x0,x1)) λr1=>Ac r1
def B175:=bQ [B174] Tryz.func118 [y3,y3] [y3] jO
def mo:A9:=⟨[.Ae Cs, .Ae Cs],[(0, .v 0 Cs),(1, .loc 0 0),(2, .loc 1 0)],[(0, .Ah 128 [(1, .AK 66 [] [])]),(1, .Ah 77 [(2, .v 1 Cs)])],2⟩
def lH:A9:=⟨[.Ae .bool, .Ae Cs],[(0, .v 0 .bool)],[(0, .Ah 128 [(1, .AK 66 [] [])]),(1, .Ah 77 [(2, .v 1 Cs)])],2⟩
def mn:A9:=⟨[.Ae D1, .Ae Cs],[(0, .v 0 D1),(1, .AK 125 [] [0,1])],[(0, .Ah 128 [(1, .AK 66 [] [])]),(1, .Ah 77 [(2, .v 1 Cs)])],2⟩
def lG:A9:=⟨[.Ae Aj, .Ae Cs],[(0, .v 0 Aj)],[(0, .Ah 128 [(1, .AK 66 [] [])]),(1, .Ah 77 [(2, .v 1 Cs)])],2⟩
def ml:A9:=⟨[.Ae D1, .Ae Cs],[(0, .v 0 D1),(1, .AK 125 [] [0,1])],[(0, .Ah 128 [(1, .AK 66 [] [])]),(1, .Ah 77 [(2, .v 1 Cs)])],2⟩
def lF:A9:=⟨[.Ae .bool, .Ae Cs],[(0, .v 0 .bool)],[(0, .Ah 128 [(1, .AK 66 [] [])]),(1, .Ah 77 [(2, .v 1 Cs)])],2⟩
def mj:A9:=⟨[.Ae D1, .Ae D1],[(0, .v 0 D1),(1, .v 1 D1),(2, .AK 66 [] [])],[],0⟩
def lE:A9:=⟨[.Ae .bool],[(0, .v 0 .bool)],[],0⟩
def mi:A9:=⟨[.Ae Cp, .Ae Cp],[(0, .v 0 Cp),(1, .loc 0 0),(2, .loc 1 0)],[(0, .Ah 115 [(1, .AK 69 [] [])]),(1, .Ah 73 [(2, .v 1 Cp)])],2⟩
def lD:A9:=⟨[.Ae .bool, .Ae Cp],[(0, .v 0 .bool)],[(0, .Ah 115 [(1, .AK 69 [] [])]),(1, .Ah 73 [(2, .v 1 Cp)])],2⟩
def mh:A9:=⟨[.Ae D0, .Ae Cp],[(0, .v 0 D0),(1, .AK 127 [] [0,1])],[(0, .Ah 115 [(1, .AK 69 [] [])]),(1, .Ah 73 [(2, .v 1 Cp)])],2⟩
def lC:A9:=⟨[.Ae Aj, .Ae Cp],[(0, .v 0 Aj)],[(0, .Ah 115 [(1, .AK 69 [] [])]),(1, .Ah 73 [(2, .v 1 Cp)])],2⟩
def mg:A9:=⟨[.Ae D0, .Ae Cp],[(0, .v 0 D0),(1, .AK 127 [] [0,1])],[(0, .Ah 115 [(1, .AK 69 [] [])]),(1, .Ah 73 [(2, .v 1 Cp)])],2⟩
def lB:A9:=⟨[.Ae .bool, .Ae Cp],[(0, .v 0 .bool)],[(0, .Ah 115 [(1, .AK 69 [] [])]),(1, .Ah 73 [(2, .v 1 Cp)])],2⟩
def mf:A9:=⟨[.Ae D0, .Ae D0],[(0, .v 0 D0),(1, .v 1 D0),(2, .AK 69 [] [])],[],0⟩
def lA:A9:=⟨[.Ae .bool],[(0, .v 0 .bool)],[],0⟩
abbrev nw:Type:=HF 125 mo lH 1 []×HF 183 mn lG 1 []×HF 124 ml lF 1 []×HF 73 mj lE 1 []×IY 69 [Cp,Cp] [.bool]×HF 127 mi lD 1 []×HF 184 mh lC 1 []×HF 126 mg lB 1 []×HF 74 mf lA 1 []×IY 46 [BP,BP] [.bool]×IY 114 [BH,BH] [.bool]×IY 66 [Cs,Cs] [.bool]
def IZ(n:Nat):nw:=Nat.rec (motive:=λ_=>nw) (tP Tryz.func125,tP Tryz.func183,tP Tryz.func124,tP Tryz.func73,tQ Tryz.func69,tP Tryz.func127,tP Tryz.func184,tP Tryz.func126,tP Tryz.func74,tQ Tryz.func46,tQ Tryz.func114,tQ Tryz.func66) (λfu ⟨g0,g1,g2,g3,g4,g5,g6,g7,g8,g9,g10,g11⟩=>(sP [EL g11] fu Tryz.func125 mo lH 1 [],sP [C4 g0] fu Tryz.func183 mn lG 1 [] (la:=lk [(2,⟨[.Ae Cs, .nat],(kp [0,1,7] [(8, .AH 1 201)]),[(1, .Ah 77 [(2, .v 0 Cs)]),(0, .Ah 128 [(1, .AK 66 [] [])])],2⟩)]),sP [C4 g1] fu Tryz.func124 ml lF 1 [],sP [C4 g2] fu Tryz.func73 mj lE 1 [] (la:=lk [(2,⟨[.nat],(kp [1,5,9,10] [(11, .AH 0 200)]),[(0, .Ah 128 [(1, .AK 66 [] [])])],1⟩)]),sQ (EL g10::bs [B172,B175] fu) fu Tryz.func69 [Cp,Cp] [.bool] (la:=lk [(2,⟨[.nat],(kp [2,3,28,29] [(30, .AH 0 200)]),[(2, .c 0),(1, .c 0),(0, .c 0)],3⟩),(5,⟨[.nat],(kp [2,3,28,29,30,34,35] [(36, .AH 0 500)]),[(2, .c 0),(1, .c 0),(0, .c 0)],3⟩),(14,⟨[.nat],(kp [3,66,67] [(68, .AH 0 1400)]),[(1, .c 0)],3⟩),(17,⟨[.nat],(kp [3,14,66,67,68,73,74] [(75, .AH 0 1700)]),[(3, .c 0),(1, .c 0)],4⟩)]),sP [EL g4] fu Tryz.func127 mi lD 1 [],sP [C4 g5] fu Tryz.func184 mh lC 1 [] (la:=lk [(2,⟨[.Ae Cp, .nat],(kp [0,1,7] [(8, .AH 1 201)]),[(1, .Ah 73 [(2, .v 0 Cp)]),(0, .Ah 115 [(1, .AK 69 [] [])])],2⟩)]),sP [C4 g6] fu Tryz.func126 mg lB 1 [],sP [C4 g7] fu Tryz.func74 mf lA 1 [] (la:=lk [(2,⟨[.nat],(kp [1,5,9,10] [(11, .AH 0 200)]),[(0, .Ah 115 [(1, .AK 69 [] [])])],1⟩)]),sQ (C4 g3::C4 g8::bs [tM,B170] fu) fu Tryz.func46 [BP,BP] [.bool],sQ [EL g9] fu Tryz.func114 [BH,BH] [.bool],sQ (EL g10::bs [B150] fu) fu Tryz.func66 [Cs,Cs] [.bool] (la:=lk [(5,⟨[.nat],(kp [2,3,41,42] [(43, .AH 0 500)]),[(1, .c 0),(0, .c 0)],2⟩)]))) n
abbrev jN(fu:Nat)(x:Cb×Cb):Option (Bool×Cb):=(IZ fu).1.1 x
abbrev jM(fu:Nat)(x:(List Cb)×Cb):Option (Int×Cb):=(IZ fu).2.1.1 x
abbrev jL(fu:Nat)(x:(List Cb)×Cb):Option (Bool×Cb):=(IZ fu).2.2.1.1 x
abbrev jK(fu:Nat)(x:(List Cb)×(List Cb)):Option Bool:=(IZ fu).2.2.2.1.1 x
def B180(fu:Nat):=EL (IZ fu).2.2.2.2.1
abbrev UE(fu:Nat)(x:BK×BK):Option Bool:=(IZ fu).2.2.2.2.1.1 x
abbrev jJ(fu:Nat)(x:BK×BK):Option (Bool×BK):=(IZ fu).2.2.2.2.2.1.1 x
abbrev jI(fu:Nat)(x:(List BK)×BK):Option (Int×BK):=(IZ fu).2.2.2.2.2.2.1.1 x
abbrev jH(fu:Nat)(x:(List BK)×BK):Option (Bool×BK):=(IZ fu).2.2.2.2.2.2.2.1.1 x
abbrev jG(fu:Nat)(x:(List BK)×(List BK)):Option Bool:=(IZ fu).2.2.2.2.2.2.2.2.1.1 x
def B185(fu:Nat):=EL (IZ fu).2.2.2.2.2.2.2.2.2.1
abbrev S2(fu:Nat)(x:(Vl)×(Vl)):Option Bool:=(IZ fu).2.2.2.2.2.2.2.2.2.1.1 x
abbrev Lv(fu:Nat)(x:AF×AF):Option Bool:=(IZ fu).2.2.2.2.2.2.2.2.2.2.1.1 x
def B187(fu:Nat):=EL (IZ fu).2.2.2.2.2.2.2.2.2.2.2
abbrev UD(fu:Nat)(x:Cb×Cb):Option Bool:=(IZ fu).2.2.2.2.2.2.2.2.2.2.2.1 x
def xR(fu:Nat)(x0:Cb)(x1:Cb):Option (Bool×Cb):=Ab (UD fu (x1,x0)) λr1=>Ac ((r1,x1))
theorem d179(fu x0 x1):jN (fu+1) (x0,x1)=xR fu x0 x1:=by kernel_rfl
def xQ(fu:Nat)(x0:List Cb)(x1:Cb):Option (Int×Cb):=Ad fu (λ(z1:Cb×Nat) nx2=>bif decide ((z1.2:Int)<x0.length)then Ab (idx x0 z1.2) λr3=>Ab (jN fu (r3,z1.1)) λr4=>bif r4.1 then Ac (((z1.2:Int),r4.2))else nx2 (r4.2,z1.2+1)else Ac (((-1:Int),z1.1))) ((x1,0))
theorem d180(fu x0 x1):jM (fu+1) (x0,x1)=xQ fu x0 x1:=by kernel_rfl
def xP(fu:Nat)(x0:List Cb)(x1:Cb):Option (Bool×Cb):=Ab (jM fu (x0,x1)) λr1=>Ac ((decide ((0:Int)<=r1.1),r1.2))
theorem d181(fu x0 x1):jL (fu+1) (x0,x1)=xP fu x0 x1:=by kernel_rfl
def xO(fu:Nat)(x0:List Cb)(x1:List Cb):Option Bool:=Ad fu (λ(z1:Nat) nx2=>bif decide ((z1:Int)<x0.length)then Ab (idx x0 z1) λr3=>Ab (jL fu (x1,r3)) λr4=>bif !r4.1 then Ac Ap else nx2 (z1+1)else Ac Br) (0)
theorem d182(fu x0 x1):jK (fu+1) (x0,x1)=xO fu x0 x1:=by kernel_rfl
def xN(fu:Nat)(x0:BK)(x1:BK):Option Bool:=Af ((x0.1.length:Int)=x0.1.length/\(x0.1.length:Int)=x0.1.length)<|Ad fu (λ(z1:Nat) nx2=>bif decide ((z1:Int)< ↑(2))then Ab (idx [x0.1,x1.1] (z1:Int)) λr3=>Ad fu (λ(z4:Nat) nx5=>bif decide ((z4:Int)<r3.length)then Ab (idx r3 z4) λr6=>Ab (UF fu (x0,r6.1)) λr7=>Ab (UF fu (x1,r6.1)) λr8=>bif decide (r8.2<r7.2)then Ac Ap else Ab (Lv fu (r7.1,r8.1)) λr9=>bif !r9 then Ac Ap else nx5 (z4+1)else nx2 (z1+1)) (0)else Ad fu (λ(z10:Nat) nx11=>bif decide ((z10:Int)<x0.2.length)then Ab (idx x0.2 z10) λr12=>Ad fu (λ(z13:Nat) nx14=>bif decide ((z13:Int)<x1.2.length)then Ab (idx x1.2 z13) λr15=>Ab (Lv fu (r12.2,r15.2)) λr16=>bif !r16 then Ab (jO fu (r12.1,r15.1)) λr17=>bif decide ((0:Int)<r17.length)then Ac Ap else nx14 (z13+1)else nx14 (z13+1)else nx11 (z10+1)) (0)else Ac Br) (0)) (0)
theorem d183(fu x0 x1):UE (fu+1) (x0,x1)=xN fu x0 x1:=by kernel_rfl
def xM(fu:Nat)(x0:BK)(x1:BK):Option (Bool×BK):=Ab (UE fu (x1,x0)) λr1=>Ac ((r1,x1))
theorem d184(fu x0 x1):jJ (fu+1) (x0,x1)=xM fu x0 x1:=by kernel_rfl
def xL(fu:Nat)(x0:List BK)(x1:BK):Option (Int×BK):=Ad fu (λ(z1:BK×Nat) nx2=>bif decide ((z1.2:Int)<x0.length)then Ab (idx x0 z1.2) λr3=>Ab (jJ fu (r3,z1.1)) λr4=>bif r4.1 then Ac (((z1.2:Int),r4.2))else nx2 (r4.2,z1.2+1)else Ac (((-1:Int),z1.1))) ((x1,0))
theorem d185(fu x0 x1):jI (fu+1) (x0,x1)=xL fu x0 x1:=by kernel_rfl
def xK(fu:Nat)(x0:List BK)(x1:BK):Option (Bool×BK):=Ab (jI fu (x0,x1)) λr1=>Ac ((decide ((0:Int)<=r1.1),r1.2))
theorem d186(fu x0 x1):jH (fu+1) (x0,x1)=xK fu x0 x1:=by kernel_rfl
def xJ(fu:Nat)(x0:List BK)(x1:List BK):Option Bool:=Ad fu (λ(z1:Nat) nx2=>bif decide ((z1:Int)<x0.length)then Ab (idx x0 z1) λr3=>Ab (jH fu (x1,r3)) λr4=>bif !r4.1 then Ac Ap else nx2 (z1+1)else Ac Br) (0)
theorem d187(fu x0 x1):jG (fu+1) (x0,x1)=xJ fu x0 x1:=by kernel_rfl
def xI(fu:Nat)(x0:Vl)(x1:Vl):Option Bool:=bif Vl.any x0 then Ac (Vl.any x1)else bif Vl.any x1 then Ac (Vl.any x1)else Ab (Yg fu ((x0,Vl.mk Ap (Ap,Ap,Ap,([],[]),[]) [] []),x1,Vl.mk Ap (Ap,Ap,Ap,([],[]),[]) [] [])) λr1=>bif r1 then Ac Br else Ab (jQ fu (Vl.sc x0,Vl.sc x1)) λr2=>bif !r2 then Ac Ap else Ab (jK fu (Vl.lists x0,Vl.lists x1)) λr3=>bif r3 then Ab (jG fu (Vl.structs x0,Vl.structs x1)) λr4=>Ac r4 else Ac Ap
theorem d188(fu x0 x1):S2 (fu+1) (x0,x1)=xI fu x0 x1:=by kernel_rfl
def xH(fu:Nat)(x0:AF)(x1:AF):Option Bool:=Ab (S2 fu (x0.1,x1.1)) λr1=>bif r1 then Ab (S2 fu (x0.2,x1.2)) λr2=>Ac r2 else Ac Ap
theorem d189(fu x0 x1):Lv (fu+1) (x0,x1)=xH fu x0 x1:=by kernel_rfl
def xG(fu:Nat)(x0:Cb)(x1:Cb):Option Bool:=bif decide ((x0.1.length:Int)<x1.1.length)then Ac Ap else bif !decide ((0:Int)<x1.2.length)then bif decide ((x1.1.length:Int)<x0.1.length)then Ac Ap else bif decide ((0:Int)<x0.2.length)then Ac Ap else Ad fu (λ(z1:Nat) nx2=>bif decide ((z1:Int)<x0.1.length)then Ab (idx x0.1 z1) λr3=>Ab (Ye fu (x1,(z1:Int))) λr4=>Ab (Lv fu (r3,r4.1)) λr5=>bif !r5 then Ac Ap else nx2 (z1+1)else bif decide ((x0.2.length:Int)=0)then Ac Br else Ab (idx x0.2 (0:Int)) λr6=>Ab (idx x1.2 (0:Int)) λr7=>Ab (Lv fu (r6,r7)) λr8=>Ac r8) (0)else Ad fu (λ(z9:Nat) nx10=>bif decide ((z9:Int)<x0.1.length)then Ab (idx x0.1 z9) λr11=>Ab (Ye fu (x1,(z9:Int))) λr12=>Ab (Lv fu (r11,r12.1)) λr13=>bif !r13 then Ac Ap else nx10 (z9+1)else bif decide ((x0.2.length:Int)=0)then Ac Br else Ab (idx x0.2 (0:Int)) λr14=>Ab (idx x1.2 (0:Int)) λr15=>Ab (Lv fu (r14,r15)) λr16=>Ac r16) (0)
theorem d190(fu x0 x1):UD (fu+1) (x0,x1)=xG fu x0 x1:=by kernel_rfl
def s7(fu:Nat)(x0:Cb):Option Vl:=Ac (Vl.mk Ap (Ap,Ap,Ap,([],[]),[]) [x0] [])
def B188:=bQ [] Tryz.func67 [Cs] [BP] s7 (pt:=lg [(1,[.PZ 2 7])])
def dv(fu:Nat):Bool×Bool->Option Int|(x0,x1)=>bif x0==x1 then Ac 0 else bif x0 then Ac ((-1:Int))else Ac 1
def yn:=bQ [] Tryz.func236 [.bool, .bool] [Aj] dv
def jF(fu:Nat):Vl×Vl->Option (Int×AF)|(x0,x1)=>Ab (dv fu (Vl.any x0,Vl.any x1)) λr1=>Ac ((r1,x0,x1))
def B190:=bP [yn] Tryz.func235 ⟨[.Ae BP, .Ae BP],[(0, .loc 0 0),(1, .loc 1 0)],[(0, .Ah 33 [(9, .v 0 BP)]),(1, .Ah 33 [(9, .v 1 BP)])],2⟩ ⟨[.Ae Aj, .Ae BP, .Ae BP],[(0, .v 0 Aj)],[(0, .Ah 33 [(9, .v 1 BP)]),(1, .Ah 33 [(9, .v 2 BP)])],2⟩ 1 [] jF
def DS(fu:Nat):Ba×Ba->Option Int|(x0,x1)=>Ab (S3 fu (x0,x1)) λr1=>Ab (S6 fu r1) λr2=>Ab (S3 fu (x1,x0)) λr3=>Ab (S6 fu r3) λr4=>bif !r2.2 then bif !r4.2 then Ac 0 else bif !r4.2 then Ac ((-1:Int))else bif r2.2 then Ab (UL fu (r2.1,r4.1)) λr5=>bif r5 then Ac ((-1:Int))else Ac 1 else Ac 1 else bif !r4.2 then Ac ((-1:Int))else bif r2.2 then Ab (UL fu (r2.1,r4.1)) λr6=>bif r6 then Ac ((-1:Int))else Ac 1 else Ac 1
def B191:=bQ [yw,yo,yx] Tryz.func177 [EU,EU] [Aj] DS
def S1(fu:Nat):HD×HD->Option Int|(x0,x1)=>Ab (Ys fu x0) λr1=>bif !r1 then Ac 0 else Ab (Ys fu x1) λr2=>bif !r2 then Ac 0 else Ad fu (λ(z3:Int) nx4=>bif decide (z3<3)then Af ((0:Int)<=z3/\z3<(↑3:Int))<|Ab (idx [(x0.1,x1.1),(x0.2.1,x1.2.1),(x0.2.2.1,x1.2.2.1)] z3) λr5=>bif decide ((r5.1::[r5.2])=(Br::[Ap]))then Ac ((-1:Int))else bif decide ((r5.1::[r5.2])=(Ap::[Br]))then Ac 1 else Aa .i64 (z3+1)<|nx4 (z3+1)else Ab (DS fu (x0.2.2.2.1,x1.2.2.2.1)) λr6=>bif decide (r6≠0)then Ac r6 else Ab (UH fu (x0.2.2.2.2,x1.2.2.2.2)) λr7=>Ac r7) ((0:Int))
def ym:=bQ [tK,B77,B191] Tryz.func119 [y8,y8] [Aj] S1 (la:=lk [(4,⟨[.Ae Aj],(kp [2,3,32] [(33, .v 0 Aj)]),[(1, .c 0),(0, .c 0)],2⟩)])
def jE(fu:Nat):Vl×Vl->Option (Int×AF)|(x0,x1)=>Ab (S1 fu (Vl.sc x0,Vl.sc x1)) λr1=>Ac ((r1,x0,x1))
def B193:=bP [ym] Tryz.func237 ⟨[.Ae BP, .Ae BP],[(0, .loc 0 0),(1, .loc 1 0)],[(0, .Ah 33 [(9, .v 0 BP)]),(1, .Ah 33 [(9, .v 1 BP)])],2⟩ ⟨[.Ae Aj, .Ae BP, .Ae BP],[(0, .v 0 Aj)],[(0, .Ah 33 [(9, .v 1 BP)]),(1, .Ah 33 [(9, .v 2 BP)])],2⟩ 1 [] jE
def jD(fu:Nat):Cb×Cb->Option (Int×Cb×Cb)|(x0,x1)=>Ab (UI fu ((x0.1.length:Int),(x1.1.length:Int))) λr1=>Ac ((r1,x0,x1))
def B194:=bP [tL] Tryz.func286 ⟨[.Ae Cs, .Ae Cs],[(0, .loc 0 0),(1, .loc 1 0)],[(0, .Ah 77 [(2, .v 0 Cs)]),(1, .Ah 77 [(2, .v 1 Cs)])],2⟩ ⟨[.Ae Aj, .Ae Cs, .Ae Cs],[(0, .v 0 Aj)],[(0, .Ah 77 [(2, .v 1 Cs)]),(1, .Ah 77 [(2, .v 2 Cs)])],2⟩ 1 [] jD
def jC(fu:Nat):Cb×Cb->Option (Int×Cb×Cb)|(x0,x1)=>Ab (dv fu (decide ((0:Int)<x0.2.length),decide ((0:Int)<x1.2.length))) λr1=>Ac ((r1,x0,x1))
def B195:=bP [yn] Tryz.func287 ⟨[.Ae Cs, .Ae Cs],[(0, .loc 0 0),(1, .loc 1 0)],[(0, .Ah 77 [(2, .v 0 Cs)]),(1, .Ah 77 [(2, .v 1 Cs)])],2⟩ ⟨[.Ae Aj, .Ae Cs, .Ae Cs],[(0, .v 0 Aj)],[(0, .Ah 77 [(2, .v 1 Cs)]),(1, .Ah 77 [(2, .v 2 Cs)])],2⟩ 1 [] jC
def jB(fu:Nat):(Au×Int×AF)×Au×Int×AF->Option (Int×(Au×Int×AF)×Au×Int×AF)|(x0,x1)=>Ab (Yf fu (x0.1,x1.1)) λr1=>Ac ((r1,x0,x1))
def B196:=bP [yq] Tryz.func294 ⟨[.Ae Es, .Ae Es],[(0, .loc 0 0),(1, .loc 1 0)],[(0, .Ah 67 [(20, .v 0 Es)]),(1, .Ah 67 [(20, .v 1 Es)])],2⟩ ⟨[.Ae Aj, .Ae Es, .Ae Es],[(0, .v 0 Aj)],[(0, .Ah 67 [(20, .v 1 Es)]),(1, .Ah 67 [(20, .v 2 Es)])],2⟩ 1 [] jB
def jA(fu:Nat):(Au×Int×AF)×Au×Int×AF->Option (Int×(Au×Int×AF)×Au×Int×AF)|(x0,x1)=>Ab (UI fu (x0.2.1,x1.2.1)) λr1=>Ac ((r1,x0,x1))
def B197:=bP [tL] Tryz.func295 ⟨[.Ae Es, .Ae Es],[(0, .loc 0 0),(1, .loc 1 0)],[(0, .Ah 67 [(20, .v 0 Es)]),(1, .Ah 67 [(20, .v 1 Es)])],2⟩ ⟨[.Ae Aj, .Ae Es, .Ae Es],[(0, .v 0 Aj)],[(0, .Ah 67 [(20, .v 1 Es)]),(1, .Ah 67 [(20, .v 2 Es)])],2⟩ 1 [] jA
def jz(fu:Nat):(A4×AF)×A4×AF->Option (Int×(A4×AF)×A4×AF)|(x0,x1)=>Ab (UH fu (x0.1,x1.1)) λr1=>Ac ((r1,x0,x1))
def B198:=bP [tK] Tryz.func300 ⟨[.Ae Fy, .Ae Fy],[(0, .loc 0 0),(1, .loc 1 0)],[(0, .Ah 70 [(19, .v 0 Fy)]),(1, .Ah 70 [(19, .v 1 Fy)])],2⟩ ⟨[.Ae Aj, .Ae Fy, .Ae Fy],[(0, .v 0 Aj)],[(0, .Ah 70 [(19, .v 1 Fy)]),(1, .Ah 70 [(19, .v 2 Fy)])],2⟩ 1 [] jz
def me:A9:=⟨[.Ae BH, .Ae BH],[(0, .loc 0 0),(1, .loc 1 0)],[(0, .Ah 35 [(18, .v 0 BH)]),(1, .Ah 35 [(18, .v 1 BH)])],2⟩
def ly:A9:=⟨[.Ae Aj, .Ae BH, .Ae BH],[(0, .v 0 Aj)],[(0, .Ah 35 [(18, .v 1 BH)]),(1, .Ah 35 [(18, .v 2 BH)])],2⟩
def mc:A9:=⟨[.Ae BH, .Ae BH],[(0, .loc 0 0),(1, .loc 1 0)],[(0, .Ah 35 [(18, .v 0 BH)]),(1, .Ah 35 [(18, .v 1 BH)])],2⟩
def lu:A9:=⟨[.Ae Aj, .Ae BH, .Ae BH],[(0, .v 0 Aj)],[(0, .Ah 35 [(18, .v 1 BH)]),(1, .Ah 35 [(18, .v 2 BH)])],2⟩
def mb:A9:=⟨[.Ae BH, .Ae BH],[(0, .px [0] (.hc 2))],[(0, .Ah 111 [(1, .AK 328 [] [1,2]),(1, .AK 329 [] [1,2])]),(1, .Ah 35 [(18, .v 0 BH)]),(2, .Ah 35 [(18, .v 1 BH)])],3⟩
def lr:A9:=⟨[.Ae Aj, .Ae BH, .Ae BH],[(0, .v 0 Aj)],[(0, .Ah 111 [(1, .AK 328 [] [1,2]),(1, .AK 329 [] [1,2])]),(1, .Ah 35 [(18, .v 1 BH)]),(2, .Ah 35 [(18, .v 2 BH)])],3⟩
def ma:A9:=⟨[.Ae Df, .Ae Df],[(0, .v 0 Df),(1, .v 1 Df),(2, .AK 290 [] [])],[],0⟩
def lq:A9:=⟨[.Ae Aj],[(0, .v 0 Aj)],[],0⟩
def l_:A9:=⟨[.Ae Cs, .Ae Cs],[(0, .loc 0 0),(1, .loc 1 0)],[(0, .Ah 77 [(2, .v 0 Cs)]),(1, .Ah 77 [(2, .v 1 Cs)])],2⟩
def lp:A9:=⟨[.Ae Aj, .Ae Cs, .Ae Cs],[(0, .v 0 Aj)],[(0, .Ah 77 [(2, .v 1 Cs)]),(1, .Ah 77 [(2, .v 2 Cs)])],2⟩
def l9:A9:=⟨[.Ae Cs, .Ae Cs],[(0, .px [0] (.hc 3))],[(0, .Ah 111 [(1, .AK 286 [] [1,2]),(1, .AK 287 [] [1,2]),(1, .AK 288 [] [1,2])]),(1, .Ah 77 [(2, .v 0 Cs)]),(2, .Ah 77 [(2, .v 1 Cs)])],3⟩
def ll:A9:=⟨[.Ae Aj, .Ae Cs, .Ae Cs],[(0, .v 0 Aj)],[(0, .Ah 111 [(1, .AK 286 [] [1,2]),(1, .AK 287 [] [1,2]),(1, .AK 288 [] [1,2])]),(1, .Ah 77 [(2, .v 1 Cs)]),(2, .Ah 77 [(2, .v 2 Cs)])],3⟩
def lZ:A9:=⟨[.Ae D1, .Ae D1],[(0, .v 0 D1),(1, .v 1 D1),(2, .AK 240 [] [])],[],0⟩
def lj:A9:=⟨[.Ae Aj],[(0, .v 0 Aj)],[],0⟩
def lY:A9:=⟨[.Ae BP, .Ae BP],[(0, .loc 0 0),(1, .loc 1 0)],[(0, .Ah 33 [(9, .v 0 BP)]),(1, .Ah 33 [(9, .v 1 BP)])],2⟩
def lh:A9:=⟨[.Ae Aj, .Ae BP, .Ae BP],[(0, .v 0 Aj)],[(0, .Ah 33 [(9, .v 1 BP)]),(1, .Ah 33 [(9, .v 2 BP)])],2⟩
def lX:A9:=⟨[.Ae Es, .Ae Es],[(0, .loc 0 0),(1, .loc 1 0)],[(0, .Ah 67 [(20, .v 0 Es)]),(1, .Ah 67 [(20, .v 1 Es)])],2⟩
def ld:A9:=⟨[.Ae Aj, .Ae Es, .Ae Es],[(0, .v 0 Aj)],[(0, .Ah 67 [(20, .v 1 Es)]),(1, .Ah 67 [(20, .v 2 Es)])],2⟩
def lW:A9:=⟨[.Ae Es, .Ae Es],[(0, .px [0] (.hc 3))],[(0, .Ah 111 [(1, .AK 294 [] [1,2]),(1, .AK 295 [] [1,2]),(1, .AK 296 [] [1,2])]),(1, .Ah 67 [(20, .v 0 Es)]),(2, .Ah 67 [(20, .v 1 Es)])],3⟩
def k_:A9:=⟨[.Ae Aj, .Ae Es, .Ae Es],[(0, .v 0 Aj)],[(0, .Ah 111 [(1, .AK 294 [] [1,2]),(1, .AK 295 [] [1,2]),(1, .AK 296 [] [1,2])]),(1, .Ah 67 [(20, .v 1 Es)]),(2, .Ah 67 [(20, .v 2 Es)])],3⟩
def lV:A9:=⟨[.Ae L3, .Ae L3],[(0, .v 0 L3),(1, .v 1 L3),(2, .AK 293 [] [])],[],0⟩
def kZ:A9:=⟨[.Ae Aj],[(0, .v 0 Aj)],[],0⟩
def lU:A9:=⟨[.Ae Cp, .Ae Cp],[(0, .loc 0 0),(1, .loc 1 0)],[(0, .Ah 73 [(2, .v 0 Cp)]),(1, .Ah 73 [(2, .v 1 Cp)])],2⟩
def kY:A9:=⟨[.Ae Aj, .Ae Cp, .Ae Cp],[(0, .v 0 Aj)],[(0, .Ah 73 [(2, .v 1 Cp)]),(1, .Ah 73 [(2, .v 2 Cp)])],2⟩
def lT:A9:=⟨[.Ae Fy, .Ae Fy],[(0, .loc 0 0),(1, .loc 1 0)],[(0, .Ah 70 [(19, .v 0 Fy)]),(1, .Ah 70 [(19, .v 1 Fy)])],2⟩
def kX:A9:=⟨[.Ae Aj, .Ae Fy, .Ae Fy],[(0, .v 0 Aj)],[(0, .Ah 70 [(19, .v 1 Fy)]),(1, .Ah 70 [(19, .v 2 Fy)])],2⟩
def lS:A9:=⟨[.Ae Fy, .Ae Fy],[(0, .px [0] (.hc 2))],[(0, .Ah 111 [(1, .AK 300 [] [1,2]),(1, .AK 301 [] [1,2])]),(1, .Ah 70 [(19, .v 0 Fy)]),(2, .Ah 70 [(19, .v 1 Fy)])],3⟩
def kW:A9:=⟨[.Ae Aj, .Ae Fy, .Ae Fy],[(0, .v 0 Aj)],[(0, .Ah 111 [(1, .AK 300 [] [1,2]),(1, .AK 301 [] [1,2])]),(1, .Ah 70 [(19, .v 1 Fy)]),(2, .Ah 70 [(19, .v 2 Fy)])],3⟩
def lR:A9:=⟨[.Ae Gf, .Ae Gf],[(0, .v 0 Gf),(1, .v 1 Gf),(2, .AK 299 [] [])],[],0⟩
def kV:A9:=⟨[.Ae Aj],[(0, .v 0 Aj)],[],0⟩
def lQ:A9:=⟨[.Ae Cp, .Ae Cp],[(0, .loc 0 0),(1, .loc 1 0)],[(0, .Ah 73 [(2, .v 0 Cp)]),(1, .Ah 73 [(2, .v 1 Cp)])],2⟩
def kU:A9:=⟨[.Ae Aj, .Ae Cp, .Ae Cp],[(0, .v 0 Aj)],[(0, .Ah 73 [(2, .v 1 Cp)]),(1, .Ah 73 [(2, .v 2 Cp)])],2⟩
def lP:A9:=⟨[.Ae Cp, .Ae Cp],[(0, .px [0] (.hc 2))],[(0, .Ah 111 [(1, .AK 291 [] [1,2]),(1, .AK 297 [] [1,2])]),(1, .Ah 73 [(2, .v 0 Cp)]),(2, .Ah 73 [(2, .v 1 Cp)])],3⟩
def kT:A9:=⟨[.Ae Aj, .Ae Cp, .Ae Cp],[(0, .v 0 Aj)],[(0, .Ah 111 [(1, .AK 291 [] [1,2]),(1, .AK 297 [] [1,2])]),(1, .Ah 73 [(2, .v 1 Cp)]),(2, .Ah 73 [(2, .v 2 Cp)])],3⟩
def lO:A9:=⟨[.Ae D0, .Ae D0],[(0, .v 0 D0),(1, .v 1 D0),(2, .AK 243 [] [])],[],0⟩
def kS:A9:=⟨[.Ae Aj],[(0, .v 0 Aj)],[],0⟩
def lN:A9:=⟨[.Ae BP, .Ae BP],[(0, .loc 0 0),(1, .loc 1 0)],[(0, .Ah 33 [(9, .v 0 BP)]),(1, .Ah 33 [(9, .v 1 BP)])],2⟩
def kR:A9:=⟨[.Ae Aj, .Ae BP, .Ae BP],[(0, .v 0 Aj)],[(0, .Ah 33 [(9, .v 1 BP)]),(1, .Ah 33 [(9, .v 2 BP)])],2⟩
def lM:A9:=⟨[.Ae BP, .Ae BP],[(0, .px [0] (.hc 4))],[(0, .Ah 111 [(1, .AK 235 [] [1,2]),(1, .AK 237 [] [1,2]),(1, .AK 238 [] [1,2]),(1, .AK 241 [] [1,2])]),(1, .Ah 33 [(9, .v 0 BP)]),(2, .Ah 33 [(9, .v 1 BP)])],3⟩
def kQ:A9:=⟨[.Ae Aj, .Ae BP, .Ae BP],[(0, .v 0 Aj)],[(0, .Ah 111 [(1, .AK 235 [] [1,2]),(1, .AK 237 [] [1,2]),(1, .AK 238 [] [1,2]),(1, .AK 241 [] [1,2])]),(1, .Ah 33 [(9, .v 1 BP)]),(2, .Ah 33 [(9, .v 2 BP)])],3⟩
abbrev nt:Type:=HF 328 me ly 1 []×HF 329 mc lu 1 []×HF 234 mb lr 1 []×IY 290 [BH,BH] [Aj]×HF 289 ma lq 1 []×HF 288 l_ lp 1 []×HF 234 l9 ll 1 []×IY 240 [Cs,Cs] [Aj]×HF 239 lZ lj 1 []×HF 238 lY lh 1 []×HF 296 lX ld 1 []×HF 234 lW k_ 1 []×IY 293 [Es,Es] [Aj]×HF 292 lV kZ 1 []×HF 291 lU kY 1 []×HF 301 lT kX 1 []×HF 234 lS kW 1 []×IY 299 [Fy,Fy] [Aj]×HF 298 lR kV 1 []×HF 297 lQ kU 1 []×HF 234 lP kT 1 []×IY 243 [Cp,Cp] [Aj]×HF 242 lO kS 1 []×HF 241 lN kR 1 []×HF 234 lM kQ 1 []×IY 172 [BP,BP] [Aj]
def DR(n:Nat):nt:=Nat.rec (motive:=λ_=>nt) (tP Tryz.func328,tP Tryz.func329,tP Tryz.func234,tQ Tryz.func290,tP Tryz.func289,tP Tryz.func288,tP Tryz.func234,tQ Tryz.func240,tP Tryz.func239,tP Tryz.func238,tP Tryz.func296,tP Tryz.func234,tQ Tryz.func293,tP Tryz.func292,tP Tryz.func291,tP Tryz.func301,tP Tryz.func234,tQ Tryz.func299,tP Tryz.func298,tP Tryz.func297,tP Tryz.func234,tQ Tryz.func243,tP Tryz.func242,tP Tryz.func241,tP Tryz.func234,tQ Tryz.func172) (λfu ⟨g0,g1,g2,g3,g4,g5,g6,g7,g8,g9,g10,g11,g12,g13,g14,g15,g16,g17,g18,g19,g20,g21,g22,g23,g24,g25⟩=>(sP [EL g25] fu Tryz.func328 me ly 1 [],sP [EL g25] fu Tryz.func329 mc lu 1 [],sP [C4 g0,C4 g1] fu Tryz.func234 mb lr 1 [],sQ [C4 g2] fu Tryz.func290 [BH,BH] [Aj],sP [EL g3] fu Tryz.func289 ma lq 1 [] (la:=lk [(2,⟨[.nat],(kp [0,1,2,11,12] [(13, .AH 0 200)]),[],0⟩)]),sP (C4 g4::bs [B81] fu) fu Tryz.func288 l_ lp 1 [],sP (C4 g5::bs [B194,B195] fu) fu Tryz.func234 l9 ll 1 [],sQ [C4 g6] fu Tryz.func240 [Cs,Cs] [Aj],sP [EL g7] fu Tryz.func239 lZ lj 1 [] (la:=lk [(2,⟨[.nat],(kp [0,1,2,11,12] [(13, .AH 0 200)]),[],0⟩)]),sP [C4 g8] fu Tryz.func238 lY lh 1 [],sP [EL g3] fu Tryz.func296 lX ld 1 [],sP (C4 g10::bs [B196,B197] fu) fu Tryz.func234 lW k_ 1 [],sQ [C4 g11] fu Tryz.func293 [Es,Es] [Aj],sP [EL g12] fu Tryz.func292 lV kZ 1 [] (la:=lk [(2,⟨[.nat],(kp [0,1,2,11,12] [(13, .AH 0 200)]),[],0⟩)]),sP [C4 g13] fu Tryz.func291 lU kY 1 [],sP [EL g3] fu Tryz.func301 lT kX 1 [],sP (C4 g15::bs [B198] fu) fu Tryz.func234 lS kW 1 [],sQ [C4 g16] fu Tryz.func299 [Fy,Fy] [Aj],sP [EL g17] fu Tryz.func298 lR kV 1 [] (la:=lk [(2,⟨[.nat],(kp [0,1,2,11,12] [(13, .AH 0 200)]),[],0⟩)]),sP [C4 g18] fu Tryz.func297 lQ kU 1 [],sP [C4 g14,C4 g19] fu Tryz.func234 lP kT 1 [],sQ [C4 g20] fu Tryz.func243 [Cp,Cp] [Aj],sP [EL g21] fu Tryz.func242 lO kS 1 [] (la:=lk [(2,⟨[.nat],(kp [0,1,2,11,12] [(13, .AH 0 200)]),[],0⟩)]),sP [C4 g22] fu Tryz.func241 lN kR 1 [],sP (C4 g9::C4 g23::bs [B190,B193] fu) fu Tryz.func234 lM kQ 1 [],sQ [C4 g24] fu Tryz.func172 [BP,BP] [Aj])) n
abbrev s6(fu:Nat)(x:AF×AF):Option (Int×AF×AF):=(DR fu).1.1 x
abbrev s5(fu:Nat)(x:AF×AF):Option (Int×AF×AF):=(DR fu).2.1.1 x
abbrev s4(fu:Nat)(x:AF×AF):Option (Int×AF×AF):=(DR fu).2.2.1.1 x
abbrev Ya(fu:Nat)(x:AF×AF):Option Int:=(DR fu).2.2.2.1.1 x
abbrev sZ(fu:Nat)(x:(List AF)×(List AF)):Option Int:=(DR fu).2.2.2.2.1.1 x
abbrev sY(fu:Nat)(x:Cb×Cb):Option (Int×Cb×Cb):=(DR fu).2.2.2.2.2.1.1 x
abbrev sX(fu:Nat)(x:Cb×Cb):Option (Int×Cb×Cb):=(DR fu).2.2.2.2.2.2.1.1 x
abbrev sW(fu:Nat)(x:Cb×Cb):Option Int:=(DR fu).2.2.2.2.2.2.2.1.1 x
abbrev sV(fu:Nat)(x:(List Cb)×(List Cb)):Option Int:=(DR fu).2.2.2.2.2.2.2.2.1.1 x
abbrev sU(fu:Nat)(x:(Vl)×(Vl)):Option (Int×AF):=(DR fu).2.2.2.2.2.2.2.2.2.1.1 x
abbrev sT(fu:Nat)(x:(Au×Int×AF)×(Au×Int×AF)):Option (Int×(Au×Int×AF)×Au×Int×AF):=(DR fu).2.2.2.2.2.2.2.2.2.2.1.1 x
abbrev sS(fu:Nat)(x:(Au×Int×AF)×(Au×Int×AF)):Option (Int×(Au×Int×AF)×Au×Int×AF):=(DR fu).2.2.2.2.2.2.2.2.2.2.2.1.1 x
abbrev sR(fu:Nat)(x:(Au×Int×AF)×(Au×Int×AF)):Option Int:=(DR fu).2.2.2.2.2.2.2.2.2.2.2.2.1.1 x
abbrev sO(fu:Nat)(x:(List (Au×Int×AF))×(List (Au×Int×AF))):Option Int:=(DR fu).2.2.2.2.2.2.2.2.2.2.2.2.2.1.1 x
abbrev sN(fu:Nat)(x:BK×BK):Option (Int×BK×BK):=(DR fu).2.2.2.2.2.2.2.2.2.2.2.2.2.2.1.1 x
abbrev sM(fu:Nat)(x:(A4×AF)×(A4×AF)):Option (Int×(A4×AF)×A4×AF):=(DR fu).2.2.2.2.2.2.2.2.2.2.2.2.2.2.2.1.1 x
abbrev sL(fu:Nat)(x:(A4×AF)×(A4×AF)):Option (Int×(A4×AF)×A4×AF):=(DR fu).2.2.2.2.2.2.2.2.2.2.2.2.2.2.2.2.1.1 x
abbrev sK(fu:Nat)(x:(A4×AF)×(A4×AF)):Option Int:=(DR fu).2.2.2.2.2.2.2.2.2.2.2.2.2.2.2.2.2.1.1 x
abbrev sH(fu:Nat)(x:(List (A4×AF))×(List (A4×AF))):Option Int:=(DR fu).2.2.2.2.2.2.2.2.2.2.2.2.2.2.2.2.2.2.1.1 x
abbrev sG(fu:Nat)(x:BK×BK):Option (Int×BK×BK):=(DR fu).2.2.2.2.2.2.2.2.2.2.2.2.2.2.2.2.2.2.2.1.1 x
abbrev sF(fu:Nat)(x:BK×BK):Option (Int×BK×BK):=(DR fu).2.2.2.2.2.2.2.2.2.2.2.2.2.2.2.2.2.2.2.2.1.1 x
abbrev sE(fu:Nat)(x:BK×BK):Option Int:=(DR fu).2.2.2.2.2.2.2.2.2.2.2.2.2.2.2.2.2.2.2.2.2.1.1 x
abbrev sD(fu:Nat)(x:(List BK)×(List BK)):Option Int:=(DR fu).2.2.2.2.2.2.2.2.2.2.2.2.2.2.2.2.2.2.2.2.2.2.1.1 x
abbrev sC(fu:Nat)(x:(Vl)×(Vl)):Option (Int×AF):=(DR fu).2.2.2.2.2.2.2.2.2.2.2.2.2.2.2.2.2.2.2.2.2.2.2.1.1 x
abbrev sB(fu:Nat)(x:(Vl)×(Vl)):Option (Int×AF):=(DR fu).2.2.2.2.2.2.2.2.2.2.2.2.2.2.2.2.2.2.2.2.2.2.2.2.1.1 x
def B224(fu:Nat):=EL (DR fu).2.2.2.2.2.2.2.2.2.2.2.2.2.2.2.2.2.2.2.2.2.2.2.2.2
abbrev du(fu:Nat)(x:(Vl)×(Vl)):Option Int:=(DR fu).2.2.2.2.2.2.2.2.2.2.2.2.2.2.2.2.2.2.2.2.2.2.2.2.2.1 x
def xF(fu:Nat)(x0:AF)(x1:AF):Option (Int×AF×AF):=Ab (du fu (x0.1,x1.1)) λr1=>Ac ((r1,x0,x1))
theorem d202(fu x0 x1):s6 (fu+1) (x0,x1)=xF fu x0 x1:=by kernel_rfl
def xE(fu:Nat)(x0:AF)(x1:AF):Option (Int×AF×AF):=Ab (du fu (x0.2,x1.2)) λr1=>Ac ((r1,x0,x1))
theorem d203(fu x0 x1):s5 (fu+1) (x0,x1)=xE fu x0 x1:=by kernel_rfl
def xD(fu:Nat)(x0:AF)(x1:AF):Option (Int×AF×AF):=bif decide ((0:Int)< ↑2)then Af ((0:Int)<=0/\(0:Int)< ↑2)<|Ab (s6 fu (x0,x1)) λr1=>bif decide (r1.1≠0)then Ac ((r1.1,r1.2.1,r1.2.2))else Aa .i64 ((0:Int)+1)<|bif decide ((0:Int)+1< ↑2)then Af ((0:Int)<=0+1/\(0:Int)+1< ↑2)<|Ab (s5 fu (r1.2.1,r1.2.2)) λr2=>bif decide (r2.1≠0)then Ac ((r2.1,r2.2.1,r2.2.2))else Aa .i64 ((0:Int)+1+1)<|bif decide ((0:Int)+1+1< ↑2)then Af ((0:Int)<=0+1+1/\(0:Int)+1+1< ↑2)<|none else Ac ((0,r2.2.1,r2.2.2))else Ac ((0,r1.2.1,r1.2.2))else Ac ((0,x0,x1))
theorem d204(fu x0 x1):s4 (fu+1) (x0,x1)=xD fu x0 x1:=by kernel_rfl
def D205(fu:Nat)(x0:AF)(x1:AF):Option Int:=Ab (s4 fu (x0,x1)) λr1=>Ac r1.1
theorem d205(fu x0 x1):Ya (fu+1) (x0,x1)=D205 fu x0 x1:=by kernel_rfl
def xC(fu:Nat)(x0:List AF)(x1:List AF):Option Int:=Ad fu (λ(z1:Nat) nx2=>bif decide ((z1:Int)<x0.length)then Ab (idx x0 z1) λr3=>bif decide ((x1.length:Int)<=z1)then Ac 1 else Ab (idx x1 z1) λr4=>Ab (Ya fu (r3,r4)) λr5=>bif decide (r5≠0)then Ac r5 else nx2 (z1+1)else bif decide ((x0.length:Int)<x1.length)then Ac ((-1:Int))else Ac 0) (0)
theorem d206(fu x0 x1):sZ (fu+1) (x0,x1)=xC fu x0 x1:=by kernel_rfl
def xB(fu:Nat)(x0:Cb)(x1:Cb):Option (Int×Cb×Cb):=Ab (cO fu x0) λr1=>Ab (cO fu x1) λr2=>Ab (sZ fu (r1,r2)) λr3=>Ac ((r3,x0,x1))
theorem d207(fu x0 x1):sY (fu+1) (x0,x1)=xB fu x0 x1:=by kernel_rfl
def xA(fu:Nat)(x0:Cb)(x1:Cb):Option (Int×Cb×Cb):=bif decide ((0:Int)< ↑3)then Af ((0:Int)<=0/\(0:Int)< ↑3)<|Ab (jD fu (x0,x1)) λr1=>bif decide (r1.1≠0)then Ac ((r1.1,r1.2.1,r1.2.2))else Aa .i64 ((0:Int)+1)<|bif decide ((0:Int)+1< ↑3)then Af ((0:Int)<=0+1/\(0:Int)+1< ↑3)<|Ab (jC fu (r1.2.1,r1.2.2)) λr2=>bif decide (r2.1≠0)then Ac ((r2.1,r2.2.1,r2.2.2))else Aa .i64 ((0:Int)+1+1)<|bif decide ((0:Int)+1+1< ↑3)then Af ((0:Int)<=0+1+1/\(0:Int)+1+1< ↑3)<|Ab (sY fu (r2.2.1,r2.2.2)) λr3=>bif decide (r3.1≠0)then Ac ((r3.1,r3.2.1,r3.2.2))else Aa .i64 ((0:Int)+1+1+1)<|bif decide ((0:Int)+1+1+1< ↑3)then Af ((0:Int)<=0+1+1+1/\(0:Int)+1+1+1< ↑3)<|none else Ac ((0,r3.2.1,r3.2.2))else Ac ((0,r2.2.1,r2.2.2))else Ac ((0,r1.2.1,r1.2.2))else Ac ((0,x0,x1))
theorem d208(fu x0 x1):sX (fu+1) (x0,x1)=xA fu x0 x1:=by kernel_rfl
def D209(fu:Nat)(x0:Cb)(x1:Cb):Option Int:=Ab (sX fu (x0,x1)) λr1=>Ac r1.1
theorem d209(fu x0 x1):sW (fu+1) (x0,x1)=D209 fu x0 x1:=by kernel_rfl
def xz(fu:Nat)(x0:List Cb)(x1:List Cb):Option Int:=Ad fu (λ(z1:Nat) nx2=>bif decide ((z1:Int)<x0.length)then Ab (idx x0 z1) λr3=>bif decide ((x1.length:Int)<=z1)then Ac 1 else Ab (idx x1 z1) λr4=>Ab (sW fu (r3,r4)) λr5=>bif decide (r5≠0)then Ac r5 else nx2 (z1+1)else bif decide ((x0.length:Int)<x1.length)then Ac ((-1:Int))else Ac 0) (0)
theorem d210(fu x0 x1):sV (fu+1) (x0,x1)=xz fu x0 x1:=by kernel_rfl
def xy(fu:Nat)(x0:Vl)(x1:Vl):Option (Int×AF):=Ab (sV fu (Vl.lists x0,Vl.lists x1)) λr1=>Ac ((r1,x0,x1))
theorem d211(fu x0 x1):sU (fu+1) (x0,x1)=xy fu x0 x1:=by kernel_rfl
def xx(fu:Nat)(x0:Au×Int×AF)(x1:Au×Int×AF):Option (Int×(Au×Int×AF)×Au×Int×AF):=Ab (Ya fu (x0.2.2,x1.2.2)) λr1=>Ac ((r1,x0,x1))
theorem d212(fu x0 x1):sT (fu+1) (x0,x1)=xx fu x0 x1:=by kernel_rfl
def xw(fu:Nat)(x0:Au×Int×AF)(x1:Au×Int×AF):Option (Int×(Au×Int×AF)×Au×Int×AF):=bif decide ((0:Int)< ↑3)then Af ((0:Int)<=0/\(0:Int)< ↑3)<|Ab (jB fu (x0,x1)) λr1=>bif decide (r1.1≠0)then Ac ((r1.1,r1.2.1,r1.2.2))else Aa .i64 ((0:Int)+1)<|bif decide ((0:Int)+1< ↑3)then Af ((0:Int)<=0+1/\(0:Int)+1< ↑3)<|Ab (jA fu (r1.2.1,r1.2.2)) λr2=>bif decide (r2.1≠0)then Ac ((r2.1,r2.2.1,r2.2.2))else Aa .i64 ((0:Int)+1+1)<|bif decide ((0:Int)+1+1< ↑3)then Af ((0:Int)<=0+1+1/\(0:Int)+1+1< ↑3)<|Ab (sT fu (r2.2.1,r2.2.2)) λr3=>bif decide (r3.1≠0)then Ac ((r3.1,r3.2.1,r3.2.2))else Aa .i64 ((0:Int)+1+1+1)<|bif decide ((0:Int)+1+1+1< ↑3)then Af ((0:Int)<=0+1+1+1/\(0:Int)+1+1+1< ↑3)<|none else Ac ((0,r3.2.1,r3.2.2))else Ac ((0,r2.2.1,r2.2.2))else Ac ((0,r1.2.1,r1.2.2))else Ac ((0,x0,x1))
theorem d213(fu x0 x1):sS (fu+1) (x0,x1)=xw fu x0 x1:=by kernel_rfl
def D214(fu:Nat)(x0:Au×Int×AF)(x1:Au×Int×AF):Option Int:=Ab (sS fu (x0,x1)) λr1=>Ac r1.1
theorem d214(fu x0 x1):sR (fu+1) (x0,x1)=D214 fu x0 x1:=by kernel_rfl
def xv(fu:Nat)(x0:List (Au×Int×AF))(x1:List (Au×Int×AF)):Option Int:=Ad fu (λ(z1:Nat) nx2=>bif decide ((z1:Int)<x0.length)then Ab (idx x0 z1) λr3=>bif decide ((x1.length:Int)<=z1)then Ac 1 else Ab (idx x1 z1) λr4=>Ab (sR fu (r3,r4)) λr5=>bif decide (r5≠0)then Ac r5 else nx2 (z1+1)else bif decide ((x0.length:Int)<x1.length)then Ac ((-1:Int))else Ac 0) (0)
theorem d215(fu x0 x1):sO (fu+1) (x0,x1)=xv fu x0 x1:=by kernel_rfl
def xu(fu:Nat)(x0:BK)(x1:BK):Option (Int×BK×BK):=Ab (sO fu (x0.1,x1.1)) λr1=>Ac ((r1,x0,x1))
theorem d216(fu x0 x1):sN (fu+1) (x0,x1)=xu fu x0 x1:=by kernel_rfl
def xt(fu:Nat)(x0:A4×AF)(x1:A4×AF):Option (Int×(A4×AF)×A4×AF):=Ab (Ya fu (x0.2,x1.2)) λr1=>Ac ((r1,x0,x1))
theorem d217(fu x0 x1):sM (fu+1) (x0,x1)=xt fu x0 x1:=by kernel_rfl
def xr(fu:Nat)(x0:A4×AF)(x1:A4×AF):Option (Int×(A4×AF)×A4×AF):=bif decide ((0:Int)< ↑2)then Af ((0:Int)<=0/\(0:Int)< ↑2)<|Ab (jz fu (x0,x1)) λr1=>bif decide (r1.1≠0)then Ac ((r1.1,r1.2.1,r1.2.2))else Aa .i64 ((0:Int)+1)<|bif decide ((0:Int)+1< ↑2)then Af ((0:Int)<=0+1/\(0:Int)+1< ↑2)<|Ab (sM fu (r1.2.1,r1.2.2)) λr2=>bif decide (r2.1≠0)then Ac ((r2.1,r2.2.1,r2.2.2))else Aa .i64 ((0:Int)+1+1)<|bif decide ((0:Int)+1+1< ↑2)then Af ((0:Int)<=0+1+1/\(0:Int)+1+1< ↑2)<|none else Ac ((0,r2.2.1,r2.2.2))else Ac ((0,r1.2.1,r1.2.2))else Ac ((0,x0,x1))
theorem d218(fu x0 x1):sL (fu+1) (x0,x1)=xr fu x0 x1:=by kernel_rfl
def D219(fu:Nat)(x0:A4×AF)(x1:A4×AF):Option Int:=Ab (sL fu (x0,x1)) λr1=>Ac r1.1
theorem d219(fu x0 x1):sK (fu+1) (x0,x1)=D219 fu x0 x1:=by kernel_rfl
def xq(fu:Nat)(x0:List (A4×AF))(x1:List (A4×AF)):Option Int:=Ad fu (λ(z1:Nat) nx2=>bif decide ((z1:Int)<x0.length)then Ab (idx x0 z1) λr3=>bif decide ((x1.length:Int)<=z1)then Ac 1 else Ab (idx x1 z1) λr4=>Ab (sK fu (r3,r4)) λr5=>bif decide (r5≠0)then Ac r5 else nx2 (z1+1)else bif decide ((x0.length:Int)<x1.length)then Ac ((-1:Int))else Ac 0) (0)
theorem d220(fu x0 x1):sH (fu+1) (x0,x1)=xq fu x0 x1:=by kernel_rfl
def xp(fu:Nat)(x0:BK)(x1:BK):Option (Int×BK×BK):=Ab (sH fu (x0.2,x1.2)) λr1=>Ac ((r1,x0,x1))
theorem d221(fu x0 x1):sG (fu+1) (x0,x1)=xp fu x0 x1:=by kernel_rfl
def xo(fu:Nat)(x0:BK)(x1:BK):Option (Int×BK×BK):=bif decide ((0:Int)< ↑2)then Af ((0:Int)<=0/\(0:Int)< ↑2)<|Ab (sN fu (x0,x1)) λr1=>bif decide (r1.1≠0)then Ac ((r1.1,r1.2.1,r1.2.2))else Aa .i64 ((0:Int)+1)<|bif decide ((0:Int)+1< ↑2)then Af ((0:Int)<=0+1/\(0:Int)+1< ↑2)<|Ab (sG fu (r1.2.1,r1.2.2)) λr2=>bif decide (r2.1≠0)then Ac ((r2.1,r2.2.1,r2.2.2))else Aa .i64 ((0:Int)+1+1)<|bif decide ((0:Int)+1+1< ↑2)then Af ((0:Int)<=0+1+1/\(0:Int)+1+1< ↑2)<|none else Ac ((0,r2.2.1,r2.2.2))else Ac ((0,r1.2.1,r1.2.2))else Ac ((0,x0,x1))
theorem d222(fu x0 x1):sF (fu+1) (x0,x1)=xo fu x0 x1:=by kernel_rfl
def D223(fu:Nat)(x0:BK)(x1:BK):Option Int:=Ab (sF fu (x0,x1)) λr1=>Ac r1.1
theorem d223(fu x0 x1):sE (fu+1) (x0,x1)=D223 fu x0 x1:=by kernel_rfl
def xm(fu:Nat)(x0:List BK)(x1:List BK):Option Int:=Ad fu (λ(z1:Nat) nx2=>bif decide ((z1:Int)<x0.length)then Ab (idx x0 z1) λr3=>bif decide ((x1.length:Int)<=z1)then Ac 1 else Ab (idx x1 z1) λr4=>Ab (sE fu (r3,r4)) λr5=>bif decide (r5≠0)then Ac r5 else nx2 (z1+1)else bif decide ((x0.length:Int)<x1.length)then Ac ((-1:Int))else Ac 0) (0)
theorem d224(fu x0 x1):sD (fu+1) (x0,x1)=xm fu x0 x1:=by kernel_rfl
def xl(fu:Nat)(x0:Vl)(x1:Vl):Option (Int×AF):=Ab (sD fu (Vl.structs x0,Vl.structs x1)) λr1=>Ac ((r1,x0,x1))
theorem d225(fu x0 x1):sC (fu+1) (x0,x1)=xl fu x0 x1:=by kernel_rfl
def xk(fu:Nat)(x0:Vl)(x1:Vl):Option (Int×AF):=bif decide ((0:Int)< ↑4)then Af ((0:Int)<=0/\(0:Int)< ↑4)<|Ab (jF fu (x0,x1)) λr1=>bif decide (r1.1≠0)then Ac ((r1.1,r1.2.1,r1.2.2))else Aa .i64 ((0:Int)+1)<|bif decide ((0:Int)+1< ↑4)then Af ((0:Int)<=0+1/\(0:Int)+1< ↑4)<|Ab (jE fu (r1.2.1,r1.2.2)) λr2=>bif decide (r2.1≠0)then Ac ((r2.1,r2.2.1,r2.2.2))else Aa .i64 ((0:Int)+1+1)<|bif decide ((0:Int)+1+1< ↑4)then Af ((0:Int)<=0+1+1/\(0:Int)+1+1< ↑4)<|Ab (sU fu (r2.2.1,r2.2.2)) λr3=>bif decide (r3.1≠0)then Ac ((r3.1,r3.2.1,r3.2.2))else Aa .i64 ((0:Int)+1+1+1)<|bif decide ((0:Int)+1+1+1< ↑4)then Af ((0:Int)<=0+1+1+1/\(0:Int)+1+1+1< ↑4)<|Ab (sC fu (r3.2.1,r3.2.2)) λr4=>bif decide (r4.1≠0)then Ac ((r4.1,r4.2.1,r4.2.2))else Aa .i64 ((0:Int)+1+1+1+1)<|bif decide ((0:Int)+1+1+1+1< ↑4)then Af ((0:Int)<=0+1+1+1+1/\(0:Int)+1+1+1+1< ↑4)<|none else Ac ((0,r4.2.1,r4.2.2))else Ac ((0,r3.2.1,r3.2.2))else Ac ((0,r2.2.1,r2.2.2))else Ac ((0,r1.2.1,r1.2.2))else Ac ((0,x0,x1))
theorem d226(fu x0 x1):sB (fu+1) (x0,x1)=xk fu x0 x1:=by kernel_rfl
def D227(fu:Nat)(x0:Vl)(x1:Vl):Option Int:=Ab (sB fu (x0,x1)) λr1=>Ac r1.1
theorem d227(fu x0 x1):du (fu+1) (x0,x1)=D227 fu x0 x1:=by kernel_rfl
def dt(fu:Nat):Vl×Vl->Option Int|(x0,x1)=>Ab (rU fu x0) λr1=>bif !r1 then Ac 0 else Ab (rU fu x1) λr2=>bif !r2 then Ac 0 else Ab (du fu (x0,x1)) λr3=>Ac r3
def yk:=bQ [B88,B224] Tryz.func112 [BP,BP] [Aj] dt
def X'(fu:Nat):Cb×Cb->Option Int|(x0,x1)=>Ab (s7 fu x0) λr1=>Ab (s7 fu x1) λr2=>Ab (dt fu (r1,r2)) λr3=>Ac r3
def B226:=bP [B188,yk] Tryz.func111 ⟨[.Ae Cs, .Ae Cs],[(0, .v 0 Cs),(1, .v 1 Cs),(2, .loc 0 0)],[(0, .Ah 129 [(1, .AK 67 [] [])])],1⟩ ⟨[.Ae Aj],[(0, .v 0 Aj)],[(0, .Ah 129 [(1, .AK 67 [] [])])],1⟩ 1 [] X'
def tA(fu:Nat)(x0 x1:Int)(x2:List Cb):=IH (λx y=>X' fu (x,y)) fu x0 x1 x2
abbrev jy fu:=u3 (tA fu)
theorem d230(fu x0 x1 x2):jy fu (x0,x1,x2)=tA fu x0 x1 x2:=rfl
def B227:=bP [B226] Tryz.func226 ⟨[.Ae Aj, .Ae Aj, .Ae D1],[(0, .AG 0),(1, .v 0 Aj),(2, .v 1 Aj),(3, .AK 111 [] [1])],[(0, .row 77 2),(1, .Ah 129 [(1, .AK 67 [] [])])],2⟩ ⟨[.Ae D1],[],[(0, .row 77 0),(1, .Ah 129 [(1, .AK 67 [] [])])],2⟩ 0 [] jy (la:=lk [(1,⟨[.Ae D1, .Ae Aj],(kp [0,1,2,3] [(8, .v 1 Aj)]),[(1, .Ah 129 [(1, .AK 67 [] [])]),(0, .row 77 0)],2⟩),(4,⟨[.Ae D1, .Ae Aj],(kp [0,1,2,3,8] [(9, .v 1 Aj)]),[(1, .Ah 129 [(1, .AK 67 [] [])]),(0, .row 77 0)],2⟩)])
def su(fu:Nat):Int×Int×Int×List Cb->Option (List Cb)|(x0,x1,x2,x3)=>Ad fu (λ(z1:PUnit) nx2=>Aa .i64 (x1-x0)<|bif decide (x1-x0<=12)then Ab (jy fu (x0,x1,x3)) λr3=>Ac r3 else bif decide (x2=0)then C7 else C7) (())
def B228:=bP [B227] Tryz.func171 ⟨[.Ae Aj, .Ae Aj, .Ae Aj, .Ae D1],[(0, .AG 0),(1, .v 0 Aj),(2, .v 1 Aj),(3, .v 2 Aj),(4, .AK 111 [] [1])],[(0, .row 77 3),(1, .Ah 129 [(1, .AK 67 [] [])])],2⟩ ⟨[.Ae D1],[],[(0, .row 77 0),(1, .Ah 129 [(1, .AK 67 [] [])])],2⟩ 0 [] su (la:=lk [(2,⟨[],(kp [0,1,2,3,4,10,11] []),[(1, .c 0),(0, .c 0)],2⟩)])
def dr(fu:Nat)(x0:List Cb):Option (List Cb):=Ab (rW fu (Int.ofNat (List.length x0 %Int.natAbs (18446744073709551616:Int)))) λr1=>Ab (su fu (0,(x0.length:Int),r1,x0)) λr2=>Ac r2
def B229:=bP [B62,B228] Tryz.func110 ⟨[.Ae D1],[(0, .AG 0),(1, .AK 111 [] [1])],[(0, .row 77 0),(1, .Ah 129 [(1, .AK 67 [] [])])],2⟩ ⟨[.Ae D1],[],[(0, .row 77 0),(1, .Ah 129 [(1, .AK 67 [] [])])],2⟩ 0 [] dr
def jx(fu:Nat)(x0:List Cb):Option (List Cb):=Ad fu (λ(z1:List Cb×Nat) nx2=>bif decide ((z1.2:Int)<x0.length)then Ab (idx x0 z1.2) λr3=>Ad fu (λ(z4:Nat) nx5=>bif decide ((z4:Int)<x0.length)then Ab (idx x0 z4) λr6=>bif decide ((z1.2:Int)≠z4)then Ab (UD fu (r3,r6)) λr7=>bif r7 then bif decide ((z4:Int)<z1.2)then nx2 (z1.1,z1.2+1)else Ab (UD fu (r6,r3)) λr8=>bif !r8 then nx2 (z1.1,z1.2+1)else nx5 (z4+1)else nx5 (z4+1)else nx5 (z4+1)else Af (List.length z1.1+1<=Ag)<|nx2 (((z1.1++[r3]),z1.2+1))) (0)else Ab (dr fu z1.1) λr9=>Ac r9) (([],0))
def B230:=bP [B187,B229] Tryz.func65 ⟨[.Ae D1],[(0, .v 0 D1),(1, .AK 66 [] []),(2, .AK 67 [] [])],[],0⟩ ⟨[.Ae D1],[(0, .v 0 D1)],[],0⟩ 1 [] jx (la:=lk [(3,⟨[.Ae D1, .nat],(kp [0,1,5] [(7, .AG 1),(12, .Ak),(13, .Ak),(14, .AH 1 301)]),[(0, .c 0),(1, .row 77 0)],2⟩),(6,⟨[.nat],(kp [0,1,5,7,8,9,12,13,14,19,20] [(21, .AH 0 600)]),[(2, .c 0),(1, .c 0),(0, .c 0)],3⟩)]) (pt:=lg [(2,[.own 7 77 Cs]),(13,[.fz 6])])
def sn(fu:Nat)(x0:BK):Option Vl:=Ac (Vl.mk Ap (Ap,Ap,Ap,([],[]),[]) [] [x0])
def B231:=bQ [] Tryz.func70 [Cp] [BP] sn (pt:=lg [(1,[.PZ 2 8])])
def X_(fu:Nat):BK×BK->Option Int|(x0,x1)=>Ab (sn fu x0) λr1=>Ab (sn fu x1) λr2=>Ab (dt fu (r1,r2)) λr3=>Ac r3
def B232:=bP [B231,yk] Tryz.func116 ⟨[.Ae Cp, .Ae Cp],[(0, .v 0 Cp),(1, .v 1 Cp),(2, .loc 0 0)],[(0, .Ah 131 [(1, .AK 70 [] [])])],1⟩ ⟨[.Ae Aj],[(0, .v 0 Aj)],[(0, .Ah 131 [(1, .AK 70 [] [])])],1⟩ 1 [] X_
def tz(fu:Nat)(x0 x1:Int)(x2:List BK):=IH (λx y=>X_ fu (x,y)) fu x0 x1 x2
abbrev jw fu:=u3 (tz fu)
theorem d236(fu x0 x1 x2):jw fu (x0,x1,x2)=tz fu x0 x1 x2:=rfl
def B233:=bP [B232] Tryz.func244 ⟨[.Ae Aj, .Ae Aj, .Ae D0],[(0, .AG 0),(1, .v 0 Aj),(2, .v 1 Aj),(3, .AK 116 [] [1])],[(0, .row 73 2),(1, .Ah 131 [(1, .AK 70 [] [])])],2⟩ ⟨[.Ae D0],[],[(0, .row 73 0),(1, .Ah 131 [(1, .AK 70 [] [])])],2⟩ 0 [] jw (la:=lk [(1,⟨[.Ae D0, .Ae Aj],(kp [0,1,2,3] [(8, .v 1 Aj)]),[(1, .Ah 131 [(1, .AK 70 [] [])]),(0, .row 73 0)],2⟩),(4,⟨[.Ae D0, .Ae Aj],(kp [0,1,2,3,8] [(9, .v 1 Aj)]),[(1, .Ah 131 [(1, .AK 70 [] [])]),(0, .row 73 0)],2⟩)])
def sj(fu:Nat):Int×Int×Int×List BK->Option (List BK)|(x0,x1,x2,x3)=>Ad fu (λ(z1:PUnit) nx2=>Aa .i64 (x1-x0)<|bif decide (x1-x0<=12)then Ab (jw fu (x0,x1,x3)) λr3=>Ac r3 else bif decide (x2=0)then C7 else C7) (())
def B234:=bP [B233] Tryz.func173 ⟨[.Ae Aj, .Ae Aj, .Ae Aj, .Ae D0],[(0, .AG 0),(1, .v 0 Aj),(2, .v 1 Aj),(3, .v 2 Aj),(4, .AK 116 [] [1])],[(0, .row 73 3),(1, .Ah 131 [(1, .AK 70 [] [])])],2⟩ ⟨[.Ae D0],[],[(0, .row 73 0),(1, .Ah 131 [(1, .AK 70 [] [])])],2⟩ 0 [] sj (la:=lk [(2,⟨[],(kp [0,1,2,3,4,10,11] []),[(1, .c 0),(0, .c 0)],2⟩)])
def dq(fu:Nat)(x0:List BK):Option (List BK):=Ab (rW fu (Int.ofNat (List.length x0 %Int.natAbs (18446744073709551616:Int)))) λr1=>Ab (sj fu (0,(x0.length:Int),r1,x0)) λr2=>Ac r2
def B235:=bP [B62,B234] Tryz.func115 ⟨[.Ae D0],[(0, .AG 0),(1, .AK 116 [] [1])],[(0, .row 73 0),(1, .Ah 131 [(1, .AK 70 [] [])])],2⟩ ⟨[.Ae D0],[],[(0, .row 73 0),(1, .Ah 131 [(1, .AK 70 [] [])])],2⟩ 0 [] dq
def jv(fu:Nat)(x0:List BK):Option (List BK):=Ad fu (λ(z1:List BK×Nat) nx2=>bif decide ((z1.2:Int)<x0.length)then Ab (idx x0 z1.2) λr3=>Ad fu (λ(z4:Nat) nx5=>bif decide ((z4:Int)<x0.length)then Ab (idx x0 z4) λr6=>bif decide ((z1.2:Int)≠z4)then Ab (UE fu (r3,r6)) λr7=>bif r7 then bif decide ((z4:Int)<z1.2)then nx2 (z1.1,z1.2+1)else Ab (UE fu (r6,r3)) λr8=>bif !r8 then nx2 (z1.1,z1.2+1)else nx5 (z4+1)else nx5 (z4+1)else nx5 (z4+1)else Af (List.length z1.1+1<=Ag)<|nx2 (((z1.1++[r3]),z1.2+1))) (0)else Ab (dq fu z1.1) λr9=>Ac r9) (([],0))
def B236:=bP [B180,B235] Tryz.func68 ⟨[.Ae D0],[(0, .v 0 D0),(1, .AK 69 [] []),(2, .AK 70 [] [])],[],0⟩ ⟨[.Ae D0],[(0, .v 0 D0)],[],0⟩ 1 [] jv (la:=lk [(3,⟨[.Ae D0, .nat],(kp [0,1,5] [(7, .AG 1),(12, .Ak),(13, .Ak),(14, .AH 1 301)]),[(0, .c 0),(1, .row 73 0)],2⟩),(6,⟨[.nat],(kp [0,1,5,7,8,9,12,13,14,19,20] [(21, .AH 0 600)]),[(2, .c 0),(1, .c 0),(0, .c 0)],3⟩)]) (pt:=lg [(2,[.own 7 73 Cp]),(13,[.fz 6])])
def wY(fu:Nat)(_:Unit):Option A4:=Ac ([(Br,[(0,255,0)])])
def B237:=bQ [] Tryz.func179 [] [y3] wY (pt:=lg [(1,[.PZ 0 0])])
def ju(fu:Nat)(_:Unit):Option HD:=Ab (UG fu ()) λr1=>Ab (wY fu ()) λr2=>Ac ((Br,Br,Br,r1,r2))
def B238:=bQ [yp,B237] Tryz.func120 [] [y8] ju
def dp(fu:Nat)(x0:AF):Option Bool:=bif Vl.any x0.1 then Ac (Vl.any x0.2)else Ac Ap
def yj:=bQ [] Tryz.func180 [BH] [.bool] dp
def jt(fu:Nat)(x0:Cb):Option Bool:=bif decide ((x0.1.length:Int)=0)then bif decide ((x0.2.length:Int)=1)then Ab (idx x0.2 (0:Int)) λr1=>Ab (dp fu r1) λr2=>Ac r2 else Ac Ap else Ac Ap
def B240:=bQ [yj] Tryz.func121 [Cs] [.bool] jt
def jr(fu:Nat)(x0:BK):Option Bool:=bif decide ((x0.1.length:Int)=0)then bif decide ((x0.2.length:Int)=1)then Ab (idx x0.2 (0:Int)) λr1=>Ab (dp fu r1.2) λr2=>Ac r2 else Ac Ap else Ac Ap
def B241:=bQ [yj] Tryz.func122 [Cp] [.bool] jr
def jq(fu:Nat)(x0:Vl):Option Bool:=bif decide (((Vl.lists x0).length:Int)=1)then bif decide (((Vl.structs x0).length:Int)=1)then Ab (ju fu ()) λr1=>Ab (S1 fu (Vl.sc x0,r1)) λr2=>bif decide (r2=0)then Ab (idx (Vl.lists x0) (0:Int)) λr3=>Ab (jt fu r3) λr4=>bif r4 then Ab (idx (Vl.structs x0) (0:Int)) λr5=>Ab (jr fu r5) λr6=>Ac r6 else Ac Ap else Ac Ap else Ac Ap else Ac Ap
def B242:=bQ [ym,B238,B240,B241] Tryz.func71 [BP] [.bool] jq
abbrev ns:Type:=IY 63 [Cs] [Cs, .bool, .bool]×IY 64 [Cp] [Cp, .bool, .bool]×IY 45 [BP] [BP, .bool]×IY 34 [BH] [BH, .bool]
def cH(n:Nat):ns:=Nat.rec (motive:=λ_=>ns) (tQ Tryz.func63,tQ Tryz.func64,tQ Tryz.func45,tQ Tryz.func34) (λfu ⟨g0,g1,g2,g3⟩=>(sQ (EL g3::bs [kD] fu) fu Tryz.func63 [Cs] [Cs, .bool, .bool] (la:=lk [(4,⟨[.Ae Df, .Ae .bool, .nat],(kp [1,2,5] [(6, .v 1 .bool),(16, .Ak),(17, .Ak),(18, .AH 2 402)]),[(2, .Ah 77 [(1, .AG 3),(1, .Ak)]),(1, .c 0),(0, .c 0),(3, .row 35 0)],4⟩),(13,⟨[.Ae Df, .nat],(kp [2,5,6,45,46] [(47, .AH 1 1301)]),[(2, .Ah 77 [(1, .Ak),(1, .AG 4)]),(3, .c 0),(1, .c 0),(4, .row 35 0)],5⟩)]) (pt:=lg [(3,[.Ed 5 0 35 BH]),(12,[.Ed 5 1 35 BH]),(21,[.PZ 2 0, .PZ 2 1])]),sQ (EL g3::bs [kD,B136,yy,B149] fu) fu Tryz.func64 [Cp] [Cp, .bool, .bool] (la:=lk [(4,⟨[.Ae L3, .Ae .bool, .nat],(kp [1,2,5] [(6, .v 1 .bool),(17, .Ak),(18, .Ak),(19, .AH 2 402)]),[(2, .Ah 73 [(1, .AG 3),(1, .Ak)]),(1, .c 0),(0, .c 0),(3, .row 67 0)],4⟩),(14,⟨[.Ae Gf, .nat],(kp [2,5,6,49,50] [(51, .AH 1 1401)]),[(2, .Ah 73 [(1, .Ak),(1, .AG 4)]),(3, .c 0),(1, .c 0),(4, .row 70 0)],5⟩)]) (pt:=lg [(3,[.Ed 5 0 67 Es]),(13,[.Ed 5 1 70 Fy]),(25,[.PZ 2 0, .PZ 2 1])]),sQ (EL g0::EL g1::bs [B108,B230,B236,B242] fu) fu Tryz.func45 [BP] [BP, .bool] (la:=lk [(6,⟨[.Ae D1, .nat],(kp [1,2,4] [(5, .AG 3),(25, .Ak),(26, .Ak),(27, .AH 1 601)]),[(2, .c 0),(1, .c 0),(0, .c 0),(3, .row 77 0)],4⟩),(16,⟨[.Ae D0, .nat],(kp [2,4,5] [(11, .AG 4),(47, .Ak),(48, .Ak),(49, .AH 1 1601)]),[(3, .c 0),(2, .c 0),(1, .c 0),(4, .row 73 0)],5⟩)]) (pr:=lg [(24,[.fz 5, .fz 11])]) (pt:=lg [(5,[.own 5 77 Cs]),(15,[.own 11 73 Cp])]),sQ (EL g2::bs [B185] fu) fu Tryz.func34 [BH] [BH, .bool])) n
abbrev jo(fu:Nat)(x:Cb):Option (Cb×Bool×Bool):=(cH fu).1.1 x
abbrev jm(fu:Nat)(x:BK):Option (BK×Bool×Bool):=(cH fu).2.1.1 x
abbrev X9(fu:Nat)(x:(Vl)):Option (Vl×Bool):=(cH fu).2.2.1.1 x
def B246(fu:Nat):=EL (cH fu).2.2.2
abbrev Lu(fu:Nat)(x:AF):Option (AF×Bool):=(cH fu).2.2.2.1 x
def xj(fu:Nat)(x0:Cb):Option (Cb×Bool×Bool):=Ad fu (λ(z1:List AF×Bool×Nat) nx2=>bif decide ((z1.2.2:Int)<x0.1.length)then Ab (idx x0.1 z1.2.2) λr3=>Ab (Lu fu r3) λr4=>bif !r4.2 then Ac ((([],[]),Ap,Ap))else bif z1.2.1 then Ab (S4 fu r4.1.1) λr5=>Af (List.length z1.1+1<=4294967296)<|nx2 ((z1.1++[r4.1]),(!r5),z1.2.2+1)else Af (List.length z1.1+1<=4294967296)<|nx2 ((z1.1++[r4.1]),Ap,z1.2.2+1)else Ad fu (λ(z6:List AF×Nat) nx7=>bif decide ((z6.2:Int)<x0.2.length)then Ab (idx x0.2 z6.2) λr8=>Ab (Lu fu r8) λr9=>bif !r9.2 then Ac ((([],[]),Ap,Ap))else Ab (S4 fu r9.1.1) λr10=>bif !r10 then Af (List.length z6.1+1<=4294967296)<|nx7 ((z6.1++[r9.1]),z6.2+1)else nx7 (z6.1,z6.2+1)else Ac (((z1.1,z6.1),z1.2.1,Br))) (([],0))) (([],Br,0))
theorem d246(fu x0):jo (fu+1) x0=xj fu x0:=by kernel_rfl
def xi(fu:Nat)(x0:BK):Option (BK×Bool×Bool):=Ad fu (λ(z1:List (Au×Int×AF)×Bool×Nat) nx2=>bif decide ((z1.2.2:Int)<x0.1.length)then Ab (idx x0.1 z1.2.2) λr3=>Ab (Lu fu r3.2.2) λr4=>bif !r4.2 then Ac ((([],[]),Ap,Ap))else bif z1.2.1 then Ab (S4 fu r4.1.1) λr5=>Af (List.length z1.1+1<=4294967296)<|nx2 ((z1.1++[(r3.1,r3.2.1,r4.1)]),(!r5),z1.2.2+1)else Af (List.length z1.1+1<=4294967296)<|nx2 ((z1.1++[(r3.1,r3.2.1,r4.1)]),Ap,z1.2.2+1)else Ad fu (λ(z6:List (A4×AF)×Nat) nx7=>bif decide ((z6.2:Int)<x0.2.length)then Ab (idx x0.2 z6.2) λr8=>Ab (Lu fu r8.2) λr9=>bif !r9.2 then Ac ((([],[]),Ap,Ap))else Ab (j9 fu (z6.1,r9.1)) λr10=>bif decide (r10.1<0)then Ab (S7 fu (r8.1,[])) λr11=>Af (List.length r10.2.1+1<=4294967296)<|nx7 ((r10.2.1++[(r11,r10.2.2)]),z6.2+1)else Ab (idx r10.2.1 r10.1) λr12=>Ab (S7 fu (r12.1,r8.1)) λr13=>Ab (idx r10.2.1 r10.1) λr14=>nx7 ((r10.2.1.set (Int.toNat r10.1) (r13,r14.2)),z6.2+1)else Ab (j6 fu z6.1) λr15=>Ac (((z1.1,r15),z1.2.1,Br))) (([],0))) (([],Br,0))
theorem d247(fu x0):jm (fu+1) x0=xi fu x0:=by kernel_rfl
def xh(fu:Nat)(x0:Vl):Option (Vl×Bool):=bif Vl.any x0 then Ac ((x0,Br))else Ab (kq fu (Vl.sc x0)) λr1=>Ad fu (λ(z2:List Cb×Nat) nx3=>bif decide ((z2.2:Int)<(Vl.lists x0).length)then Ab (idx (Vl.lists x0) (z2.2:Int)) λr4=>Ab (jo fu r4) λr5=>bif !r5.2.2 then Ac ((Vl.mk Ap (Ap,Ap,Ap,([],[]),[]) [] [],Ap))else bif r5.2.1 then Af (List.length z2.1+1<=Ag)<|nx3 ((z2.1++[r5.1]),z2.2+1)else nx3 (z2.1,z2.2+1)else Ad fu (λ(z6:List BK×Nat) nx7=>bif decide ((z6.2:Int)<(Vl.structs x0).length)then Ab (idx (Vl.structs x0) (z6.2:Int)) λr8=>Ab (jm fu r8) λr9=>bif !r9.2.2 then Ac ((Vl.mk Ap (Ap,Ap,Ap,([],[]),[]) [] [],Ap))else bif r9.2.1 then Af (List.length z6.1+1<=Ag)<|nx7 ((z6.1++[r9.1]),z6.2+1)else nx7 (z6.1,z6.2+1)else Ab (jx fu z2.1) λr10=>Ab (jv fu z6.1) λr11=>Ab (jq fu (Vl.mk Ap r1 r10 r11)) λr12=>bif r12 then Ac ((Vl.mk Br (Ap,Ap,Ap,([],[]),[]) [] [],Br))else Ac ((Vl.mk Ap r1 r10 r11,Br))) (([],0))) (([],0))
theorem d248(fu x0):X9 (fu+1) x0=xh fu x0:=by kernel_rfl
def xg(fu:Nat)(x0:AF):Option (AF×Bool):=Ab (X9 fu x0.1) λr1=>Ab (X9 fu x0.2) λr2=>bif r1.2 then bif r2.2 then Ab (S2 fu (r2.1,r1.1)) λr3=>Ac (((r1.1,r2.1),r3))else Ac (((r1.1,r2.1),Ap))else Ac (((r1.1,r2.1),Ap))
theorem d249(fu x0):Lu (fu+1) x0=xg fu x0:=by kernel_rfl
def QE(fu:Nat)(x0:AF):Option (AF×Int):=Ab (wJ fu x0) λr1=>bif !r1 then Ac (((Vl.mk Ap (Ap,Ap,Ap,([],[]),[]) [] [],Vl.mk Ap (Ap,Ap,Ap,([],[]),[]) [] []),11))else Ab (Lu fu x0) λr2=>bif !r2.2 then Ac (((Vl.mk Ap (Ap,Ap,Ap,([],[]),[]) [] [],Vl.mk Ap (Ap,Ap,Ap,([],[]),[]) [] []),11))else Ac ((r2.1,0))
def tI:=bQ [B89,B246] Tryz.func21 [BH] [BH,Aj] QE
def NR(fu:Nat)(x0:AF):Option Bool:=Ab (QE fu x0) λr1=>bif decide (r1.2=0)then Ab (Yg fu (r1.1,x0)) λr2=>Ac r2 else Ac Ap
def kC:=bQ [tI,tM] Tryz.func19 [BH] [.bool] NR
def jl(fu:Nat)(x0:AF):Option Vl:=Ab (QE fu x0) λr1=>bif decide (r1.2≠0)then Ac (Vl.mk Ap (Ap,Ap,Ap,([],[]),[]) [] [])else Ab (NR fu x0) λr2=>bif !r2 then Ac (Vl.mk Ap (Ap,Ap,Ap,([],[]),[]) [] [])else Ab (S4 fu r1.1.2) λr3=>bif r3 then Ac r1.1.1 else Ac r1.1.2
def B249:=bQ [kC,tI,kD] Tryz.func54 [BH] [BP] jl
def dm(fu:Nat)(x0:AF):Option ((Vl×Bool)×Int):=Ab (NR fu x0) λr1=>bif !r1 then Ac (((Vl.mk Ap (Ap,Ap,Ap,([],[]),[]) [] [],Ap),11))else Ab (S4 fu x0.1) λr2=>bif r2 then Ac (((Vl.mk Ap (Ap,Ap,Ap,([],[]),[]) [] [],Ap),12))else Ab (jl fu x0) λr3=>Ab (Yh fu (Vl.sc r3)) λr4=>Ac (((r3,(!r4)),0))
def yh:=bQ [kC,kD,B249,tN] Tryz.func41 [BH] [(.st y26),Aj] dm
def jk(fu:Nat)(x0:Vl×Bool):Option Int:=Aa .i64 (((Vl.lists x0.1).length:Int)+((Vl.structs x0.1).length:Int))<|bif x0.2 then Aa .i64 (((Vl.lists x0.1).length:Int)+((Vl.structs x0.1).length:Int)+1)<|some (((((Vl.lists x0.1).length:Int)+((Vl.structs x0.1).length:Int))+1))else Ac ((((Vl.lists x0.1).length:Int)+((Vl.structs x0.1).length:Int)))
def B251:=bQ [] Tryz.func56 [(.st y26)] [Aj] jk
def dk(fu:Nat):(Vl×Bool)×Int->Option Int|(x0,x1)=>bif Vl.any x0.1 then Ac 14 else bif decide ((0:Int)<x1)then Ab (jk fu x0) λr1=>bif decide ((1:Int)<r1)then Ac 14 else bif decide (x1=0)then Ac 11 else Ac 0 else bif decide (x1=0)then Ac 11 else Ac 0
def yg:=bQ [B251] Tryz.func42 [(.st y26),Aj] [Aj] dk
def jj(fu:Nat)(x0:AF):Option (BK×Int):=Ab (dm fu x0) λr1=>bif decide (r1.2=0)then Ab (dk fu (r1.1,((Vl.structs r1.1.1).length:Int))) λr2=>bif decide (r2≠0)then Ac ((([],[]),r2))else Ab (idx (Vl.structs r1.1.1) (0:Int)) λr3=>Ac ((r3,0))else bif decide (r1.2≠0)then Ac ((([],[]),r1.2))else Ab (idx (Vl.structs r1.1.1) (0:Int)) λr4=>Ac ((r4,0))
def B253:=bQ [yh,yg] Tryz.func27 [BH] [Cp,Aj] jj
def SZ(fu:Nat):AF×Au->Option (AF×Int)|(x0,x1)=>Ab (jj fu x0) λr1=>bif decide (r1.2≠0)then Ac (((Vl.mk Ap (Ap,Ap,Ap,([],[]),[]) [] [],Vl.mk Ap (Ap,Ap,Ap,([],[]),[]) [] []),r1.2))else Ad fu (λ(z2:Nat) nx3=>bif decide ((z2:Int)<r1.1.1.length)then Ab (idx r1.1.1 z2) λr4=>bif decide (r4.1=x1)then Ac ((r4.2.2,0))else nx3 (z2+1)else Ac (((Vl.mk Ap (Ap,Ap,Ap,([],[]),[]) [] [],Vl.mk Ap (Ap,Ap,Ap,([],[]),[]) [] []),13))) (0)
def yf:=bQ [B253] Tryz.func13 [BH, .str] [BH,Aj] SZ (la:=lk [(5,⟨[.nat],(kp [1,4,20,21] [(22, .AH 0 500)]),[(1, .c 0)],3⟩)])
def ji(fu:Nat)(x0:AF):Option (Cb×Int):=Ab (dm fu x0) λr1=>bif decide (r1.2=0)then Ab (dk fu (r1.1,((Vl.lists r1.1.1).length:Int))) λr2=>bif decide (r2≠0)then Ac ((([],[]),r2))else Ab (idx (Vl.lists r1.1.1) (0:Int)) λr3=>Ac ((r3,0))else bif decide (r1.2≠0)then Ac ((([],[]),r1.2))else Ab (idx (Vl.lists r1.1.1) (0:Int)) λr4=>Ac ((r4,0))
def B255:=bQ [yh,yg] Tryz.func28 [BH] [Cs,Aj] ji
def dj(fu:Nat):AF×Int->Option (AF×Int)|(x0,x1)=>Ab (ji fu x0) λr1=>bif decide (r1.2≠0)then Ac (((Vl.mk Ap (Ap,Ap,Ap,([],[]),[]) [] [],Vl.mk Ap (Ap,Ap,Ap,([],[]),[]) [] []),r1.2))else bif decide (x1<0)then Ac (((Vl.mk Ap (Ap,Ap,Ap,([],[]),[]) [] [],Vl.mk Ap (Ap,Ap,Ap,([],[]),[]) [] []),1))else bif decide (x1<(r1.1.1.length:Int))then Ab (idx r1.1.1 x1) λr2=>Ac ((r2,0))else bif decide ((0:Int)<r1.1.2.length)then Ac (((Vl.mk Ap (Ap,Ap,Ap,([],[]),[]) [] [],Vl.mk Ap (Ap,Ap,Ap,([],[]),[]) [] []),14))else Ac (((Vl.mk Ap (Ap,Ap,Ap,([],[]),[]) [] [],Vl.mk Ap (Ap,Ap,Ap,([],[]),[]) [] []),13))
def ye:=bQ [B255] Tryz.func14 [BH,Aj] [BH,Aj] dj
def wW(fu:Nat):AF×AF->Option Bool|(x0,x1)=>Ab (Ns fu (x0,x1)) λr1=>bif r1 then Ab (wJ fu x0) λr2=>Ac r2 else Ac Ap
def B257:=bQ [yt,B89] Tryz.func15 [BH,BH] [.bool] wW
def wV(fu:Nat)(x0:Vl):Option Bool:=Ab (NR fu (x0,Vl.mk Ap (Ap,Ap,Ap,([],[]),[]) [] [])) λr1=>Ac r1
def B258:=bQ [kC] Tryz.func31 [BP] [.bool] wV
def wU(fu:Nat):Vl×Au->Option Bool|(x0,x1)=>bif decide (x1=([110,117,108,108]:Au))then Ac ((Vl.sc x0).1)else bif decide (x1=([98,111,111,108]:Au))then bif (Vl.sc x0).2.1 then Ac Br else Ac ((Vl.sc x0).2.2.1)else bif decide (x1=([105,110,116]:Au))then Ac (decide ((0:Int)<(((Vl.sc x0).2.2.2.1.1).length:Int)))else bif decide (x1=([110,117,109,98,101,114]:Au))then Ac (decide ((0:Int)<(((Vl.sc x0).2.2.2.1.2).length:Int)))else bif decide (x1=([115,116,114,105,110,103]:Au))then Ac (decide ((0:Int)<(((Vl.sc x0).2.2.2.2).length:Int)))else bif decide (x1=([108,105,115,116]:Au))then Ac (decide ((0:Int)<(Vl.lists x0).length))else Ac (decide ((0:Int)<(Vl.structs x0).length))
def B259:=bQ [] Tryz.func32 [(.st BP), .str] [.bool] wU
def sg(fu:Nat)(x0:Vl):Option (List Au):=Ab (wV fu x0) λr1=>bif !r1 then Ac []else Ad fu (λ(z2:List Au×Nat) nx3=>bif decide ((z2.2:Int)< ↑(7))then Ab (idx [([110,117,108,108]:Au),([98,111,111,108]:Au),([105,110,116]:Au),([110,117,109,98,101,114]:Au),([115,116,114,105,110,103]:Au),([108,105,115,116]:Au),([115,116,114,117,99,116]:Au)] (z2.2:Int)) λr4=>bif Vl.any x0 then Af (List.length z2.1+1<=Ag)<|nx3 ((z2.1++[r4]),z2.2+1)else Ab (wU fu (x0,r4)) λr5=>bif r5 then Af (List.length z2.1+1<=Ag)<|nx3 ((z2.1++[r4]),z2.2+1)else nx3 (z2.1,z2.2+1)else Ac z2.1) (([],0))
def B260:=bQ [B258,B259] Tryz.func16 [BP] [Tg] sg (la:=lk [(6,⟨[.Ae Tg, .nat],(kp [1,3] [(4, .AG 2),(13, .Ak),(14, .Ak),(15, .AH 1 601)]),[(1, .c 0),(0, .c 0),(2, .row 9 0)],3⟩)]) (pt:=lg [(5,[.own 4 9 .str]),(11,[.fz 2])])
def wT(fu:Nat):List Au×List Au->Option Bool|(x0,x1)=>bif decide ((x0.length:Int)≠x1.length)then Ac Ap else Ad fu (λ(z1:Nat) nx2=>bif decide ((z1:Int)<x0.length)then Ab (idx x0 z1) λr3=>Ab (idx x1 z1) λr4=>bif !decide (r3=r4)then Ac Ap else nx2 (z1+1)else Ac Br) (0)
def B261:=bQ [] Tryz.func18 [Tg,Tg] [.bool] wT (la:=lk [(4,⟨[.nat],(kp [0,1] [(5, .AH 0 400)]),[],0⟩)])
def D266(fu:Nat):Option Bool:=Ab (F5 fu (1,1)) λr1=>Ab (F6 fu r1) λr2=>Ab (F33 fu (([97]:Au),r2)) λr3=>Ab (F6 fu r3) λr4=>Ab (SZ fu (r4,([97]:Au))) λr5=>Ab (SZ fu (r4,([98]:Au))) λr6=>Ab (dj fu (r4,0)) λr7=>Ab (F33 fu (([97]:Au),r2)) λr8=>Ab (F5 fu (1,1)) λr9=>Ab (F6 fu (Vl.mk (Vl.any r8) (Vl.sc r9) (Vl.lists r8) (Vl.structs r8))) λr10=>Ab (SZ fu (r10,([97]:Au))) λr11=>Ab (F5 fu (1,2)) λr12=>Ab (F6 fu r12) λr13=>Ab (SZ fu (r13,([97]:Au))) λr14=>bif decide (r5.2=0)then bif decide (r6.2=13)then bif decide (r7.2=11)then bif decide (r11.2=14)then bif decide (r14.2=11)then Ab (wW fu (r5.1,r2)) λr15=>bif r15 then Ab (F32 fu ()) λr16=>Ab (sg fu r16.1) λr17=>bif decide ((r17.length:Int)=7)then Ab (F5 fu ((-3:Int),3)) λr18=>Ab (sg fu r18) λr19=>Ab (wT fu (r19,[([105,110,116]:Au)])) λr20=>Ac r20 else Ac Ap else Ac Ap else Ac Ap else Ac Ap else Ac Ap else Ac Ap else Ac Ap
abbrev di(fu:Nat)(_:Unit):=D266 fu
def B262:=bQ [B6,B5,B33,yf,ye,B257,B260,B32,B261] Tryz.func6 [] [.bool] di
end
end Go.GV
