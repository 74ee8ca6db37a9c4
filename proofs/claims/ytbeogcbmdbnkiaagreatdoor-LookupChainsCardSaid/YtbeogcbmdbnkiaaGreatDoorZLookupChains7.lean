/- Part 7 of the texts of this claim: what its theorem leans on. -/
import Derived.Test.YtbeogcbmdbnkiaaGreatDoorZLookupChains6
import Derived.KernelRfl
import Derived.Test.YtbeogcbmdbnkiaaGreatDoorZLookupChains1
set_option linter.all false
open Option renaming some→Ac,none→C7
open Bool renaming false→Ap,true→Br
open Go renaming Value→BU,Operand→Dc,TypeId→Ee,Program→Ge,World→GD,execOp→ID,Oper→J5,IntKind→Kj
namespace Go.GV
open Go Go.GK Go.Proofs
noncomputable section
def B900(_:Nat):=zc (exQ ((B262 2000).ok:Dw TP 6 ⟨[],[.bool],di 2000⟩) vV)
abbrev QD(_:Nat)(_:Unit):Option Bool:=Ac Br
def wI(fu:Nat)(x0:List (Au×Int)):Option Bool:=Ad fu (λ(z1:Nat) nx2=>bif decide ((z1:Int)<x0.length)then Ab (idx x0 z1) λr3=>bif decide ((60:Int)<r3.1.length)then Ac Ap else nx2 (z1+1)else Ac (decide ((x0.length:Int)<=20))) (0)
def B263:=bQ [] Tryz.func5 [Th] [.bool] wI (la:=lk [(2,⟨[.nat],[(0, .Ak),(3, .AH 0 200)],[],0⟩)])
def zo(fu:Nat)(x0:Au×Int):Option Bool:=bif !decide (x0.1=[])then Ac (decide (x0.2=0))else bif decide ((0:Int)<=x0.2)then Ac (decide (x0.2<=1000000))else Ac Ap
def B264:=bQ [] Tryz.func20 [(.st y17)] [.bool] zo
def nA(fu:Nat):AF×List (Au×Int)->Option (AF×Int)|(x0,x1)=>Ab (NR fu x0) λr1=>bif !r1 then Ac (((Vl.mk Ap (Ap,Ap,Ap,([],[]),[]) [] [],Vl.mk Ap (Ap,Ap,Ap,([],[]),[]) [] []),11))else Ad fu (λ(z2:AF×Int×Nat) nx3=>bif decide ((z2.2.2:Int)<x1.length)then Ab (idx x1 z2.2.2) λr4=>Ab (zo fu r4) λr5=>bif !r5 then Ac (((Vl.mk Ap (Ap,Ap,Ap,([],[]),[]) [] [],Vl.mk Ap (Ap,Ap,Ap,([],[]),[]) [] []),1))else bif !decide (r4.1=[])then Ab (SZ fu (z2.1,r4.1)) λr7=>bif decide (r7.2≠0)then bif decide (r7.2≠0)then Ac (((Vl.mk Ap (Ap,Ap,Ap,([],[]),[]) [] [],Vl.mk Ap (Ap,Ap,Ap,([],[]),[]) [] []),r7.2))else Ab (QE fu r7.1) λr8=>Ac ((r8.1,0))else nx3 (r7.1,r7.2,z2.2.2+1)else Ab (dj fu (z2.1,r4.2)) λr9=>bif decide (r9.2≠0)then bif decide (r9.2≠0)then Ac (((Vl.mk Ap (Ap,Ap,Ap,([],[]),[]) [] [],Vl.mk Ap (Ap,Ap,Ap,([],[]),[]) [] []),r9.2))else Ab (QE fu r9.1) λr10=>Ac ((r10.1,0))else nx3 (r9.1,r9.2,z2.2.2+1)else bif decide (z2.2.1≠0)then Ac (((Vl.mk Ap (Ap,Ap,Ap,([],[]),[]) [] [],Vl.mk Ap (Ap,Ap,Ap,([],[]),[]) [] []),z2.2.1))else Ab (QE fu z2.1) λr11=>Ac ((r11.1,0))) ((x0,0,0))
def B265:=bQ [yf,ye,kC,B264,tI] Tryz.func7 [BH,Th] [BH,Aj] nA (la:=lk [(5,⟨[.Ae BH, .Ae Aj, .nat],(kp [2,4] [(6, .v 1 Aj),(13, .Ak),(14, .Ak),(15, .AH 2 502)]),[(1, .c 0),(0, .Ah 35 [(18, .v 0 BH)])],2⟩)])
def jg(fu:Nat)(x0:Vl):Option Bool:=bif !(Vl.sc x0).1 then bif !(Vl.sc x0).2.1 then bif !(Vl.sc x0).2.2.1 then bif decide ((((Vl.sc x0).2.2.2.1.1).length:Int)=0)then bif decide ((((Vl.sc x0).2.2.2.1.2).length:Int)=0)then bif decide ((((Vl.sc x0).2.2.2.2).length:Int)=0)then bif decide (((Vl.lists x0).length:Int)=0)then Ac (decide (((Vl.structs x0).length:Int)=0))else Ac Ap else Ac Ap else Ac Ap else Ac Ap else Ac Ap else Ac Ap else Ac Ap
def B266:=bQ [] Tryz.func75 [BP] [.bool] jg
def dh(fu:Nat)(x0:List (Int×Int)):Option (List (Int×Int)):=Ad fu (λ(z1:List (Int×Int)×Nat) nx2=>bif decide ((z1.2:Int)<x0.length)then Ab (idx x0 z1.2) λr3=>bif decide (r3.2<r3.1)then nx2 (z1.1,z1.2+1)else Ad fu (λ(z4:List (Int×Int)×Int×Int×Bool×Nat) nx5=>bif decide ((z4.2.2.2.2:Int)<z1.1.length)then Ab (idx z1.1 z4.2.2.2.2) λr6=>Aa .i64 (r6.2+1)<|bif decide (r6.2+1<z4.2.1)then Af (List.length z4.1+1<=Ag)<|nx5 ((z4.1++[r6]),z4.2.1,z4.2.2.1,z4.2.2.2.1,z4.2.2.2.2+1)else Aa .i64 (z4.2.2.1+1)<|bif decide (z4.2.2.1+1<r6.1)then bif !z4.2.2.2.1 then Af (List.length z4.1+1<=Ag)<|Af (List.length (z4.1++[(z4.2.1,z4.2.2.1)])+1<=Ag)<|nx5 (((z4.1++[(z4.2.1,z4.2.2.1)])++[r6]),z4.2.1,z4.2.2.1,Br,z4.2.2.2.2+1)else Af (List.length z4.1+1<=Ag)<|nx5 ((z4.1++[r6]),z4.2.1,z4.2.2.1,z4.2.2.2.1,z4.2.2.2.2+1)else Aa .i64 (if r6.1<z4.2.1 then r6.1 else z4.2.1)<|Aa .i64 (if r6.2>z4.2.2.1 then r6.2 else z4.2.2.1)<|nx5 (z4.1,(if r6.1<z4.2.1 then r6.1 else z4.2.1),(if z4.2.2.1<r6.2 then r6.2 else z4.2.2.1),z4.2.2.2.1,z4.2.2.2.2+1)else bif !z4.2.2.2.1 then Af (List.length z4.1+1<=Ag)<|nx2 ((z4.1++[(z4.2.1,z4.2.2.1)]),z1.2+1)else nx2 ((z4.1,z1.2+1))) (([],r3.1,r3.2,Ap,0))else Ac z1.1) (([],0))
def yd:=bQ [] Tryz.func312 [BE] [BE] dh (la:=lk [(3,⟨[.Ae BE, .nat],[(3, .AG 0),(10, .Ak),(11, .Ak),(12, .AH 1 301)],[(0, .row 63 0)],1⟩),(9,⟨[.Ae BE, .Ae Aj, .Ae Aj, .Ae .bool, .nat],[(5, .Ak),(6, .AG 2),(7, .v 3 .bool),(10, .Ak),(11, .Ak),(12, .Ak),(21, .Ak),(22, .Ak),(23, .AH 4 904)],[(0, .c 0),(1, .Ah 63 [(1, .v 1 Aj),(1, .v 2 Aj)]),(2, .row 63 0)],3⟩)]) (pt:=lg [(2,[.own 3 63 Ea]),(8,[.own 6 63 Ea]),(25,[.fz 2])])
def df(fu:Nat)(x0:Ba):Option (List (Int×Int)):=Ad fu (λ(z1:List (Int×Int)×Nat) nx2=>bif decide ((z1.2:Int)<x0.1.length)then Ab (idx x0.1 z1.2) λr3=>Aa .i64 (if(-100000000000:Int)>r3.1 then(-100000000000:Int)else r3.1)<|Aa .i64 (if(100000000000:Int)<r3.2 then(100000000000:Int)else r3.2)<|Af (List.length z1.1+1<=Ag)<|nx2 ((z1.1++[((if r3.1<(-100000000000:Int)then(-100000000000:Int)else r3.1),(if(100000000000:Int)<r3.2 then(100000000000:Int)else r3.2))]),z1.2+1)else Ab (dh fu z1.1) λr4=>Ac r4) (([],0))
def yc:=bQ [yd] Tryz.func259 [EU] [BE] df (la:=lk [(3,⟨[.Ae BE, .nat],[(3, .AG 1),(7, .Ak),(8, .Ak),(9, .AH 1 301)],[(1, .row 63 0)],2⟩)]) (pr:=lg [(7,[.fz 3])]) (pt:=lg [(2,[.own 3 63 Ea])])
def UC(fu:Nat)(x0:Int):Option Bool:=Af ((10000:Int)≠0)<|Aa .i64 (Int.tmod x0 (10000:Int))<|some (decide ((Int.tmod x0 (10000:Int))=0))
def yb:=bQ [] Tryz.func193 [Aj] [.bool] UC
def de(fu:Nat)(x0:Int):Option Int:=Af ((10000:Int)≠0)<|Aa .i64 (Int.tdiv x0 (10000:Int))<|Af ((10000:Int)≠0)<|Aa .i64 (Int.tmod x0 (10000:Int))<|bif decide (Int.tmod x0 (10000:Int)<0)then Aa .i64 (Int.tdiv x0 (10000:Int)-1)<|some (((Int.tdiv x0 (10000:Int))-1))else Ac (Int.rec (λa=>Int.ofNat (a/10000)) (λa=>Nat.rec (0:Int) (λn n_ih=>Int.negSucc n) (Nat.succ a/10000)) x0)
def B270:=bQ [] Tryz.func333 [Aj] [Aj] de
def KM(fu:Nat)(x0:Int):Option Int:=Ab (de fu x0) λr1=>Aa .i64 (r1*9999)<|Aa .i64 (r1*10000)<|Aa .i64 (x0-r1*10000)<|Aa .i64 (r1*9999+(x0-r1*10000))<|Aa .i64 (r1*9999+(x0-r1*10000)-1)<|some (((r1*9999+(x0-r1*10000))-1))
def B271:=bQ [B270] Tryz.func313 [Aj] [Aj] KM
def dc(fu:Nat)(x0:Ba):Option (List (Int×Int)):=Ad fu (λ(z1:List (Int×Int)×Nat) nx2=>bif decide ((z1.2:Int)<x0.2.length)then Ab (idx x0.2 z1.2) λr3=>Aa .i64 (if(-1000000000000000:Int)>r3.1 then(-1000000000000000:Int)else r3.1)<|Aa .i64 (if(1000000000000000:Int)<r3.2 then(1000000000000000:Int)else r3.2)<|bif decide ((if(1000000000000000:Int)<r3.2 then(1000000000000000:Int)else r3.2)<if(-1000000000000000:Int)>r3.1 then(-1000000000000000:Int)else r3.1)then nx2 (z1.1,z1.2+1)else Ab (UC fu ((if r3.1<(-1000000000000000:Int)then(-1000000000000000:Int)else r3.1))) λr4=>bif r4 then Aa .i64 ((if(-1000000000000000:Int)>r3.1 then(-1000000000000000:Int)else r3.1)+1)<|Ab (UC fu ((if(1000000000000000:Int)<r3.2 then(1000000000000000:Int)else r3.2))) λr5=>bif r5 then Aa .i64 ((if(1000000000000000:Int)<r3.2 then(1000000000000000:Int)else r3.2)-1)<|bif decide ((if(-1000000000000000:Int)>r3.1 then(-1000000000000000:Int)else r3.1)+1<=(if(1000000000000000:Int)<r3.2 then(1000000000000000:Int)else r3.2)-1)then Ab (KM fu (((if(-1000000000000000:Int)>r3.1 then(-1000000000000000:Int)else r3.1)+1))) λr6=>Ab (KM fu (((if(1000000000000000:Int)<r3.2 then(1000000000000000:Int)else r3.2)-1))) λr7=>Af (List.length z1.1+1<=Ag)<|nx2 ((z1.1++[(r6,r7)]),z1.2+1)else nx2 (z1.1,z1.2+1)else bif decide ((if(-1000000000000000:Int)>r3.1 then(-1000000000000000:Int)else r3.1)+1<=if(1000000000000000:Int)<r3.2 then(1000000000000000:Int)else r3.2)then Ab (KM fu (((if(-1000000000000000:Int)>r3.1 then(-1000000000000000:Int)else r3.1)+1))) λr8=>Ab (KM fu ((if(1000000000000000:Int)<r3.2 then(1000000000000000:Int)else r3.2))) λr9=>Af (List.length z1.1+1<=Ag)<|nx2 ((z1.1++[(r8,r9)]),z1.2+1)else nx2 (z1.1,z1.2+1)else Ab (UC fu ((if(1000000000000000:Int)<r3.2 then(1000000000000000:Int)else r3.2))) λr10=>bif r10 then Aa .i64 ((if(1000000000000000:Int)<r3.2 then(1000000000000000:Int)else r3.2)-1)<|bif decide ((if(-1000000000000000:Int)>r3.1 then(-1000000000000000:Int)else r3.1)<=(if(1000000000000000:Int)<r3.2 then(1000000000000000:Int)else r3.2)-1)then Ab (KM fu ((if r3.1<(-1000000000000000:Int)then(-1000000000000000:Int)else r3.1))) λr11=>Ab (KM fu (((if(1000000000000000:Int)<r3.2 then(1000000000000000:Int)else r3.2)-1))) λr12=>Af (List.length z1.1+1<=Ag)<|nx2 ((z1.1++[(r11,r12)]),z1.2+1)else nx2 (z1.1,z1.2+1)else bif decide ((if(-1000000000000000:Int)>r3.1 then(-1000000000000000:Int)else r3.1)<=if(1000000000000000:Int)<r3.2 then(1000000000000000:Int)else r3.2)then Ab (KM fu ((if r3.1<(-1000000000000000:Int)then(-1000000000000000:Int)else r3.1))) λr13=>Ab (KM fu ((if(1000000000000000:Int)<r3.2 then(1000000000000000:Int)else r3.2))) λr14=>Af (List.length z1.1+1<=Ag)<|nx2 ((z1.1++[(r13,r14)]),z1.2+1)else nx2 (z1.1,z1.2+1)else Ab (dh fu z1.1) λr15=>Ac r15) (([],0))
def ya:=bQ [yb,yd,B271] Tryz.func260 [EU] [BE] dc (la:=lk [(3,⟨[.Ae BE, .nat],[(3, .AG 1),(9, .Ak),(10, .Ak),(11, .AH 1 301)],[(1, .row 63 0)],2⟩)]) (pr:=lg [(14,[.fz 3])]) (pt:=lg [(2,[.own 3 63 Ea])])
def c_(fu:Nat)(x0:Int):Option Int:=Af ((9999:Int)≠0)<|Aa .i64 (Int.tdiv x0 (9999:Int))<|Af ((9999:Int)≠0)<|Aa .i64 (Int.tmod x0 (9999:Int))<|bif decide (Int.tmod x0 (9999:Int)<0)then Aa .i64 (Int.tdiv x0 (9999:Int)-1)<|Aa .i64 ((Int.tdiv x0 (9999:Int)-1)*10000)<|Aa .i64 ((Int.tdiv x0 (9999:Int)-1)*9999)<|Aa .i64 (x0-(Int.tdiv x0 (9999:Int)-1)*9999)<|Aa .i64 ((Int.tdiv x0 (9999:Int)-1)*10000+(x0-(Int.tdiv x0 (9999:Int)-1)*9999))<|Aa .i64 ((Int.tdiv x0 (9999:Int)-1)*10000+(x0-(Int.tdiv x0 (9999:Int)-1)*9999)+1)<|some ((((Int.tdiv x0 (9999:Int)-1)*10000+(x0-(Int.tdiv x0 (9999:Int)-1)*9999))+1))else Aa .i64 (Int.tdiv x0 (9999:Int)*10000)<|Aa .i64 (Int.tdiv x0 (9999:Int)*9999)<|Aa .i64 (x0-Int.tdiv x0 (9999:Int)*9999)<|Aa .i64 (Int.tdiv x0 (9999:Int)*10000+(x0-Int.tdiv x0 (9999:Int)*9999))<|Aa .i64 (Int.tdiv x0 (9999:Int)*10000+(x0-Int.tdiv x0 (9999:Int)*9999)+1)<|some (((Int.tdiv x0 (9999:Int)*10000+(x0-Int.tdiv x0 (9999:Int)*9999))+1))
def B273:=bQ [] Tryz.func311 [Aj] [Aj] c_
def c8(fu:Nat):(List (Int×Int))×List (Int×Int)->Option Ba|(x0,x1)=>Ad fu (λ(z1:List (Int×Int)×Nat) nx2=>bif decide ((z1.2:Int)<x1.length)then Ab (idx x1 z1.2) λr3=>Ab (c_ fu r3.1) λr4=>Ab (c_ fu r3.2) λr5=>Af (List.length z1.1+1<=Ag)<|nx2 ((z1.1++[(r4,r5)]),z1.2+1)else Ac ((x0,z1.1))) (([],0))
def x_:=bQ [B273] Tryz.func258 [BE,BE] [EU] c8 (la:=lk [(3,⟨[.Ae BE, .nat],(kp [4,5,10,11] [(12, .AH 1 301)]),[(1, .Ah 24 [(1, .Ak),(1, .AG 2)]),(0, .c 0),(2, .row 63 0)],3⟩)]) (pt:=lg [(2,[.Ed 5 1 63 Ea]),(7,[.PZ 4 1])])
def QC(fu:Nat)(x0:Ba):Option Ba:=Ab (df fu x0) λr1=>Ab (dc fu x0) λr2=>Ab (c8 fu (r1,r2)) λr3=>Ac r3
def tH:=bQ [x_,yc,ya] Tryz.func186 [EU] [EU] QC
def jf(fu:Nat):(List (Int×Int))×List (Int×Int)->Option Bool|(x0,x1)=>bif decide ((x0.length:Int)≠x1.length)then Ac Ap else Ad fu (λ(z1:Nat) nx2=>bif decide ((z1:Int)<x0.length)then Ab (idx x0 z1) λr3=>Ab (idx x1 z1) λr4=>bif !decide (r3.1::[r3.2]=r4.1::[r4.2])then Ac Ap else nx2 (z1+1)else Ac Br) (0)
def B276:=bQ [] Tryz.func257 [BE,BE] [.bool] jf (la:=lk [(4,⟨[.nat],(kp [0,1,12] [(13, .AH 0 400)]),[],0⟩)])
def je(fu:Nat):Ba×Ba->Option Bool|(x0,x1)=>Ab (jf fu (x0.1,x1.1)) λr1=>bif r1 then Ab (jf fu (x0.2,x1.2)) λr2=>Ac r2 else Ac Ap
def B277:=bQ [B276] Tryz.func185 [EU,EU] [.bool] je
def jd(fu:Nat)(x0:Ba):Option Bool:=Ab (QC fu x0) λr1=>Ab (je fu (x0,r1)) λr2=>Ac r2
def B278:=bQ [B277,tH] Tryz.func128 [EU] [.bool] jd
def SY(fu:Nat)(x0:HD):Option Bool:=Ab (jd fu x0.2.2.2.1) λr1=>bif r1 then Ab (uu fu x0.2.2.2.2) λr2=>Ac r2 else Ac Ap
def x9:=bQ [B278,B21] Tryz.func76 [y8] [.bool] SY
def X8(fu:Nat)(x0:List (Au×Int×AF)):Option Bool:=Ad fu (λ(z1:Nat) nx2=>bif decide ((z1:Int)<x0.length)then Ab (idx x0 z1) λr3=>bif decide (r3.2.1≠1)then Ab (idx x0 z1) λr4=>bif decide (r4.2.1≠2)then Ac Ap else bif decide ((0:Int)<z1)then Aa .i64 ((z1:Int)-1)<|Ab (idx x0 ((z1:Int)-1)) λr5=>Ab (idx x0 z1) λr6=>bif !Go.Op.bytesLess r5.1 r6.1 then Ac Ap else nx2 (z1+1)else nx2 (z1+1)else bif decide ((0:Int)<z1)then Aa .i64 ((z1:Int)-1)<|Ab (idx x0 ((z1:Int)-1)) λr7=>Ab (idx x0 z1) λr8=>bif !Go.Op.bytesLess r7.1 r8.1 then Ac Ap else nx2 (z1+1)else nx2 (z1+1)else Ac Br) (0)
def B280:=bQ [] Tryz.func77 [L3] [.bool] X8 (la:=lk [(2,⟨[.nat],[(0, .Ak),(3, .AH 0 200)],[],0⟩)])
def jc(fu:Nat):List Int×List Int->Option Bool|(x0,x1)=>Ad fu (λ(z1:Nat) nx2=>bif decide ((z1:Int)<x0.length)then Ab (idx x0 z1) λr3=>Ab (idx x1 z1) λr4=>bif decide (r3≠r4)then Ac Ap else nx2 (z1+1)else Ac Br) (0)
def B281:=bQ [] Tryz.func261 [Fx,Fx] [.bool] jc (la:=lk [(2,⟨[.nat],(kp [0,1] [(5, .AH 0 200)]),[],0⟩)])
def ja(fu:Nat):List (List Int)×List Int->Option Bool|(x0,x1)=>Ad fu (λ(z1:Nat) nx2=>bif decide ((z1:Int)<x0.length)then Ab (idx x0 z1) λr3=>Ab (jc fu (r3,x1)) λr4=>bif r4 then Ac Br else nx2 (z1+1)else Ac Ap) (0)
def B282:=bQ [B281] Tryz.func188 [J6,Fx] [.bool] ja (la:=lk [(2,⟨[.nat],(kp [0,1] [(5, .AH 0 200)]),[],0⟩)])
def i_(fu:Nat)(x0:List A4):Option Bool:=Ad fu (λ(z1:List Int×Nat) nx2=>bif decide ((z1.2:Int)<x0.length)then Ab (idx x0 z1.2) λr3=>bif decide ((r3.length:Int)=0)then Af (List.length z1.1+1<=Ag)<|nx2 ((z1.1++[(-1:Int)]),z1.2+1)else Af (List.length z1.1+1<=Ag)<|nx2 ((z1.1++[(0:Int)]),z1.2+1)else Ad fu (λ(z4:List (List Int)×Nat) nx5=>bif decide ((z4.2:Int)<z4.1.length)then Ad fu (λ(z6:Int×Nat) nx7=>bif decide ((z6.2:Int)<x0.length)then Ab (idx z4.1 z4.2) λr8=>Ab (idx r8 z6.2) λr9=>bif decide ((0:Int)<=r9)then Ab (idx x0 z6.2) λr10=>Ab (idx z4.1 z4.2) λr11=>Ab (idx r11 z6.2) λr12=>Ab (idx r10 r12) λr13=>bif r13.1 then Aa .i64 (z6.1+1)<|nx7 ((z6.1+1),z6.2+1)else nx7 (z6.1,z6.2+1)else nx7 (z6.1,z6.2+1)else bif decide (z6.1≠1)then Ac Ap else Ad fu (λ(z14:List (List Int)×Int) nx15=>bif decide (z14.2<256)then Ad fu (λ(z16:List Int×Nat) nx17=>bif decide ((z16.2:Int)<x0.length)then Ab (idx x0 z16.2) λr18=>Ab (idx z14.1 z4.2) λr19=>Ab (idx r19 z16.2) λr20=>Aa .u8 (z14.2)<|Ab (tj fu (r18,r20,z14.2)) λr21=>Af (List.length z16.1+1<=Ag)<|nx17 ((z16.1++[r21]),z16.2+1)else Ab (ja fu (z14.1,z16.1)) λr22=>bif !r22 then Af (List.length z14.1+1<=Ag)<|Ab (idx (z14.1++[z16.1]) (z4.2:Int)) λr23=>Ab (jh fu (x0,r23,z14.2)) λr24=>nx15 ((z14.1++[z16.1]),r24)else Ab (idx z14.1 z4.2) λr25=>Ab (jh fu (x0,r25,z14.2)) λr26=>nx15 ((z14.1,r26))) (([],0))else nx5 ((z14.1,z4.2+1))) ((z4.1,0))) ((0,0))else Ac Br) (([z1.1],0))) (([],0))
def B283:=bQ [B26,B14,B282] Tryz.func130 [(.sl y3)] [.bool] i_ (la:=lk [(3,⟨[.Ae DZ, .nat],[(0, .Ak),(3, .AG 0),(4, .AH 1 301)],[(0, .row 3 0)],1⟩),(10,⟨[.Ae J6, .nat],[(0, .Ak),(5, .AG 1),(6, .AH 1 1001)],[(1, .row 140 0)],2⟩),(14,⟨[.Ae Aj, .nat],(kp [0,5,6] [(7, .v 0 Aj),(8, .AH 1 1401)]),[(1, .c 0)],2⟩),(21,⟨[.Ae J6, .Ae Aj],[(0, .Ak),(5, .AG 1),(6, .Ak),(9, .v 1 Aj)],[(1, .row 140 0)],2⟩),(25,⟨[.Ae DZ, .nat],(kp [0,5,6,9] [(10, .AG 2),(11, .AH 1 2501)]),[(1, .c 0),(2, .row 3 0)],3⟩)]) (pr:=lg [(8,[.fz 3]),(29,[.fz 10])]) (pt:=lg [(2,[.own 3 3 Aj]),(24,[.own 10 3 Aj])])
def X7(fu:Nat)(x0:BK):Option Bool:=Ad fu (λ(z1:List A4×Nat) nx2=>bif decide ((z1.2:Int)<x0.2.length)then Ab (idx x0.2 z1.2) λr3=>Ab (uu fu r3.1) λr4=>bif !r4 then Ac Ap else bif decide ((r3.1.length:Int)=0)then Ac Ap else Af (List.length z1.1+1<=Ag)<|nx2 ((z1.1++[r3.1]),z1.2+1)else Ad fu (λ(z5:List A4×Nat) nx6=>bif decide ((z5.2:Int)<x0.1.length)then Ab (idx x0.1 z5.2) λr7=>Ab (F7 fu r7.1) λr8=>Af (List.length z5.1+1<=Ag)<|nx6 ((z5.1++[r8]),z5.2+1)else Ab (i_ fu z5.1) λr9=>Ac r9) ((z1.1,0))) (([],0))
def B284:=bQ [B7,B21,B283] Tryz.func78 [Cp] [.bool] X7 (la:=lk [(3,⟨[.Ae (.sl y3), .nat],[(1, .Ak),(3, .AG 1),(4, .AH 1 301)],[(0, .c 0),(1, .row 27 0)],2⟩),(10,⟨[.Ae (.sl y3), .nat],[(1, .Ak),(3, .AG 1),(6, .AH 1 1001)],[(1, .row 27 0),(0, .c 0)],2⟩)]) (pt:=lg [(2,[.own 3 27 y3])])
def cZ(fu:Nat)(x0:Cb):Option (List AF):=Af (0+List.length x0.1<=4294967296)<|Af (List.length ([]++x0.1)+List.length x0.2<=4294967296)<|some ((([]++x0.1)++x0.2))
def B285:=bQ [] Tryz.func131 [Cs] [Df] cZ (pt:=lg [(3,[.fz 2])])
def cY(fu:Nat)(x0:BK):Option (List AF):=Ad fu (λ(z1:List AF×Nat) nx2=>bif decide ((z1.2:Int)<x0.1.length)then Ab (idx x0.1 z1.2) λr3=>Af (List.length z1.1+1<=4294967296)<|nx2 ((z1.1++[r3.2.2]),z1.2+1)else Ad fu (λ(z4:List AF×Nat) nx5=>bif decide ((z4.2:Int)<x0.2.length)then Ab (idx x0.2 z4.2) λr6=>Af (List.length z4.1+1<=4294967296)<|nx5 ((z4.1++[r6.2]),z4.2+1)else Ac z4.1) ((z1.1,0))) (([],0))
def B286:=bQ [] Tryz.func132 [Cp] [Df] cY (la:=lk [(3,⟨[.Ae Df, .nat],[(1, .Ak),(3, .AG 1),(4, .AH 1 301)],[(0, .c 0),(1, .row 35 0)],2⟩),(7,⟨[.Ae Df, .nat],[(1, .Ak),(3, .AG 1),(5, .AH 1 701)],[(1, .row 35 0),(0, .c 0)],2⟩)]) (pt:=lg [(2,[.own 3 35 BH]),(10,[.fz 2])])
def X6(fu:Nat)(x0:Vl):Option (List AF):=Ad fu (λ(z1:List AF×Nat) nx2=>bif decide ((z1.2:Int)<(Vl.lists x0).length)then Ab (idx (Vl.lists x0) (z1.2:Int)) λr3=>Ab (cZ fu r3) λr4=>Af (List.length z1.1+List.length r4<=4294967296)<|nx2 ((z1.1++r4),z1.2+1)else Ad fu (λ(z5:List AF×Nat) nx6=>bif decide ((z5.2:Int)<(Vl.structs x0).length)then Ab (idx (Vl.structs x0) (z5.2:Int)) λr7=>Ab (cY fu r7) λr8=>Af (List.length z5.1+List.length r8<=4294967296)<|nx6 ((z5.1++r8),z5.2+1)else Ac z5.1) ((z1.1,0))) (([],0))
def B287:=bQ [B285,B286] Tryz.func79 [BP] [Df] X6 (la:=lk [(3,⟨[.Ae Df, .nat],[(1, .Ak),(3, .AG 1),(4, .AH 1 301)],[(0, .c 0),(1, .row 35 0)],2⟩),(7,⟨[.Ae Df, .nat],[(1, .Ak),(3, .AG 1),(5, .AH 1 701)],[(1, .row 35 0),(0, .c 0)],2⟩)]) (pt:=lg [(2,[.own 3 35 BH]),(10,[.fz 2])])
abbrev nr:Type:=IY 47 [BP,Aj] [.bool]
def wF(n:Nat):nr:=Nat.rec (motive:=λ_=>nr) (tQ Tryz.func47) (λfu g0=>sQ (EL g0::bs [B266,x9,B280,B284,B287] fu) fu Tryz.func47 [BP,Aj] [.bool] (la:=lk [(4,⟨[.nat],(kp [1,2] [(5, .AH 0 400)]),[(0, .c 0)],1⟩),(9,⟨[.nat],(kp [1,2] [(6, .AH 0 900)]),[(0, .c 0)],1⟩),(15,⟨[.nat],(kp [1,7] [(8, .AH 0 1500)]),[],1⟩)])) n
def B288(fu:Nat):=EL (wF fu)
abbrev NQ(fu:Nat)(x:(Vl)×(Int)):Option Bool:=(wF fu).1 x
def xf(fu:Nat)(x0:Vl)(x1:Int):Option Bool:=bif decide ((16:Int)<x1)then Ac Ap else bif Vl.any x0 then Ab (jg fu x0) λr1=>bif !r1 then Ac Ap else Ab (SY fu (Vl.sc x0)) λr2=>bif !r2 then Ac Ap else Ad fu (λ(z3:Nat) nx4=>bif decide ((z3:Int)<(Vl.lists x0).length)then Ab (idx (Vl.lists x0) (z3:Int)) λr5=>bif decide ((1:Int)<r5.2.length)then Ac Ap else nx4 (z3+1)else Ad fu (λ(z6:Nat) nx7=>bif decide ((z6:Int)<(Vl.structs x0).length)then Ab (idx (Vl.structs x0) (z6:Int)) λr8=>Ab (X8 fu r8.1) λr9=>bif !r9 then Ac Ap else Ab (idx (Vl.structs x0) (z6:Int)) λr10=>Ab (X7 fu r10) λr11=>bif !r11 then Ac Ap else nx7 (z6+1)else Ab (X6 fu x0) λr12=>Ad fu (λ(z13:Nat) nx14=>bif decide ((z13:Int)<r12.length)then Ab (idx r12 z13) λr15=>Aa .i64 (x1+1)<|Ab (NQ fu (r15.1,(x1+1))) λr16=>bif !r16 then Ac Ap else Ab (idx r12 z13) λr17=>Aa .i64 (x1+1)<|Ab (NQ fu (r17.2,(x1+1))) λr18=>bif !r18 then Ac Ap else nx14 (z13+1)else Ac Br) (0)) (0)) (0)else Ab (SY fu (Vl.sc x0)) λr19=>bif !r19 then Ac Ap else Ad fu (λ(z20:Nat) nx21=>bif decide ((z20:Int)<(Vl.lists x0).length)then Ab (idx (Vl.lists x0) (z20:Int)) λr22=>bif decide ((1:Int)<r22.2.length)then Ac Ap else nx21 (z20+1)else Ad fu (λ(z23:Nat) nx24=>bif decide ((z23:Int)<(Vl.structs x0).length)then Ab (idx (Vl.structs x0) (z23:Int)) λr25=>Ab (X8 fu r25.1) λr26=>bif !r26 then Ac Ap else Ab (idx (Vl.structs x0) (z23:Int)) λr27=>Ab (X7 fu r27) λr28=>bif !r28 then Ac Ap else nx24 (z23+1)else Ab (X6 fu x0) λr29=>Ad fu (λ(z30:Nat) nx31=>bif decide ((z30:Int)<r29.length)then Ab (idx r29 z30) λr32=>Aa .i64 (x1+1)<|Ab (NQ fu (r32.1,(x1+1))) λr33=>bif !r33 then Ac Ap else Ab (idx r29 z30) λr34=>Aa .i64 (x1+1)<|Ab (NQ fu (r34.2,(x1+1))) λr35=>bif !r35 then Ac Ap else nx31 (z30+1)else Ac Br) (0)) (0)) (0)
theorem d289(fu x0 x1):NQ (fu+1) (x0,x1)=xf fu x0 x1:=by kernel_rfl
def cX(fu:Nat)(x0:Vl):Option Bool:=Ab (NQ fu (x0,1)) λr1=>Ac r1
def B289:=bQ [B288] Tryz.func35 [BP] [.bool] cX
def X5(fu:Nat)(x0:AF):Option Bool:=Ab (cX fu x0.1) λr1=>bif r1 then Ab (cX fu x0.2) λr2=>Ac r2 else Ac Ap
def B290:=bQ [B289] Tryz.func22 [BH] [.bool] X5
def UB(fu:Nat):Bool×Bool->Option Int|(x0,x1)=>bif x0==x1 then Ac 0 else bif x0 then Ac ((-1:Int))else Ac 1
def B291:=bQ [] Tryz.func80 [.bool, .bool] [Aj] UB
def cW(fu:Nat):(List (Int×Int))×Int×Int->Option (List (Int×Int))|(x0,x1,x2)=>Ad fu (λ(z1:List (Int×Int)×Int×Nat) nx2=>bif decide ((z1.2.2:Int)<x0.length)then Ab (idx x0 z1.2.2) λr3=>bif decide (z1.2.1<r3.1)then Aa .i64 (r3.1-1)<|Af (List.length z1.1+1<=Ag)<|Aa .i64 (r3.2+1)<|nx2 ((z1.1++[(z1.2.1,(r3.1-1))]),(r3.2+1),z1.2.2+1)else Aa .i64 (r3.2+1)<|nx2 (z1.1,(r3.2+1),z1.2.2+1)else bif decide (z1.2.1<=x2)then Af (List.length z1.1+1<=Ag)<|some ((z1.1++[(z1.2.1,x2)]))else Ac z1.1) (([],x1,0))
def B292:=bQ [] Tryz.func262 [BE,Aj,Aj] [BE] cW (la:=lk [(3,⟨[.Ae BE, .Ae Aj, .nat],[(1, .v 1 Aj),(2, .Ak),(7, .AG 0),(10, .Ak),(11, .Ak),(12, .AH 2 302)],[(0, .row 63 0)],1⟩)]) (pt:=lg [(2,[.own 7 63 Ea]),(11,[.fz 6])])
def QB(fu:Nat)(x0:Ba):Option Ba:=Ab (df fu x0) λr1=>Ab (cW fu (r1,(-100000000000:Int),100000000000)) λr2=>Ab (dc fu x0) λr3=>Ab (cW fu (r3,(-999900000000000:Int),999899999999999)) λr4=>Ab (c8 fu (r2,r4)) λr5=>Ac r5
def x8:=bQ [x_,yc,ya,B292] Tryz.func191 [EU] [EU] QB
def cV(fu:Nat):Ba×Ba->Option Ba|(x0,x1)=>Af (0+List.length x0.1<=Ag)<|Af (List.length ([]++x0.1)+List.length x1.1<=Ag)<|Af (0+List.length x0.2<=Ag)<|Af (List.length ([]++x0.2)+List.length x1.2<=Ag)<|Ab (QC fu ((([]++x0.1)++x1.1),(([]++x0.2)++x1.2))) λr1=>Ac r1
def x7:=bQ [tH] Tryz.func134 [EU,EU] [EU] cV (pr:=lg [(6,[.fz 16, .fz 28])])
def iZ(fu:Nat):Ba×Ba->Option Ba|(x0,x1)=>Ab (QB fu x0) λr1=>Ab (QB fu x1) λr2=>Ab (cV fu (r1,r2)) λr3=>Ab (QB fu r3) λr4=>Ac r4
def B295:=bQ [x7,x8] Tryz.func190 [EU,EU] [EU] iZ
def X4(fu:Nat):Ba×Ba->Option Ba|(x0,x1)=>Ab (QB fu x1) λr1=>Ab (iZ fu (x0,r1)) λr2=>Ac r2
def B296:=bQ [B295,x8] Tryz.func135 [EU,EU] [EU] X4
def rZ(fu:Nat):Int×Int->Option Bool|(x0,x1)=>Aa .i64 ((0:Int)-x0)<|Aa .i64 (if(0:Int)-x0>x0 then(0:Int)-x0 else x0)<|Aa .i64 ((0:Int)-x1)<|Aa .i64 (if(0:Int)-x1>x1 then(0:Int)-x1 else x1)<|bif decide ((if(0:Int)-x0>x0 then(0:Int)-x0 else x0)<if(0:Int)-x1>x1 then(0:Int)-x1 else x1)then Ac Br else bif decide ((if(0:Int)-x0>x0 then(0:Int)-x0 else x0)=if(0:Int)-x1>x1 then(0:Int)-x1 else x1)then Ac (decide (x1<x0))else Ac Ap
def B297:=bQ [] Tryz.func189 [Aj,Aj] [.bool] rZ
def cU(fu:Nat)(x0:Ba):Option (Int×Bool):=Ab (QC fu x0) λr1=>Ad fu (λ(z2:List Int×Nat) nx3=>bif decide ((z2.2:Int)<r1.1.length)then Ab (idx r1.1 z2.2) λr4=>bif decide (r4.1<=0)then bif decide ((0:Int)<=r4.2)then Ac ((0,Br))else Aa .i64 (r4.1*10000)<|Aa .i64 (r4.2*10000)<|Af (List.length z2.1+2<=Ag)<|nx3 ((z2.1++[(r4.1*10000),(r4.2*10000)]),z2.2+1)else Aa .i64 (r4.1*10000)<|Aa .i64 (r4.2*10000)<|Af (List.length z2.1+2<=Ag)<|nx3 ((z2.1++[(r4.1*10000),(r4.2*10000)]),z2.2+1)else Ad fu (λ(z5:List Int×Nat) nx6=>bif decide ((z5.2:Int)<r1.2.length)then Ab (idx r1.2 z5.2) λr7=>Af (List.length z5.1+2<=Ag)<|bif decide (r7.1<0)then bif decide ((0:Int)<r7.2)then Af (List.length (z5.1++[r7.1,r7.2])+1<=Ag)<|nx6 (((z5.1++[r7.1,r7.2])++[(1:Int)]),z5.2+1)else nx6 ((z5.1++[r7.1,r7.2]),z5.2+1)else nx6 ((z5.1++[r7.1,r7.2]),z5.2+1)else Ad fu (λ(z8:Int×Bool×Nat) nx9=>bif decide ((z8.2.2:Int)<z5.1.length)then Ab (idx z5.1 z8.2.2) λr10=>bif !z8.2.1 then nx9 (r10,Br,z8.2.2+1)else Ab (rZ fu (r10,z8.1)) λr11=>bif r11 then nx9 (r10,Br,z8.2.2+1)else nx9 (z8.1,z8.2.1,z8.2.2+1)else Ac ((z8.1,z8.2.1))) ((0,Ap,0))) ((z2.1,0))) (([],0))
def B298:=bQ [tH,B297] Tryz.func133 [EU] [Aj, .bool] cU (la:=lk [(4,⟨[.Ae DZ, .nat],[(4, .Ak),(5, .AG 2),(17, .Ak),(18, .Ak),(19, .AH 1 401)],[(1, .c 0),(2, .row 2 0)],3⟩),(11,⟨[.Ae DZ, .nat],[(5, .AG 2),(42, .Ak),(43, .Ak),(44, .AH 1 1101)],[(2, .row 2 0)],3⟩),(19,⟨[.Ae Aj, .Ae .bool, .nat],[(10, .v 0 Aj),(11, .v 1 .bool),(67, .Ak),(68, .Ak),(69, .AH 2 1902)],[(2, .c 0)],3⟩)]) (pt:=lg [(3,[.own 5 2 Aj])])
def iY(fu:Nat)(x0:Int):Option Bool:=bif decide ((-1000000000000000:Int)<=x0)then Ac (decide (x0<=1000000000000000))else Ac Ap
def B299:=bQ [] Tryz.func192 [Aj] [.bool] iY
def iX(fu:Nat):Ba×Int->Option Bool|(x0,x1)=>Ab (iY fu x1) λr1=>bif !r1 then Ac Ap else Ab (UC fu x1) λr2=>bif r2 then Af ((10000:Int)≠0)<|Aa .i64 (Int.tdiv x1 (10000:Int))<|Ad fu (λ(z3:Nat) nx4=>bif decide ((z3:Int)<x0.1.length)then Ab (idx x0.1 z3) λr5=>bif decide (r5.1<=Int.tdiv x1 (10000:Int))then bif decide (Int.tdiv x1 (10000:Int)<=r5.2)then Ac Br else nx4 (z3+1)else nx4 (z3+1)else Ac Ap) (0)else Ad fu (λ(z6:Nat) nx7=>bif decide ((z6:Int)<x0.2.length)then Ab (idx x0.2 z6) λr8=>bif decide (r8.1<=x1)then bif decide (x1<=r8.2)then Ac Br else nx7 (z6+1)else nx7 (z6+1)else Ac Ap) (0)
def B300:=bQ [B299,yb] Tryz.func136 [EU,Aj] [.bool] iX (la:=lk [(7,⟨[.nat],(kp [6,21,22] [(23, .AH 0 700)]),[],1⟩)])
def QA(fu:Nat):Ba×Ba->Option Int|(x0,x1)=>Ab (X4 fu (x0,x1)) λr1=>Ab (X4 fu (x1,x0)) λr2=>Ab (cV fu (r1,r2)) λr3=>Ab (cU fu r3) λr4=>bif !r4.2 then Ac 0 else Ab (iX fu (x0,r4.1)) λr5=>bif r5 then Ac ((-1:Int))else Ac 1
def B301:=bQ [B298,x7,B296,B300] Tryz.func81 [EU,EU] [Aj] QA
def iW(fu:Nat):A4×Int->Option (List Au)|(x0,x1)=>Ab (nF fu x0) λr1=>bif decide ((r1.length:Int)=0)then Ac []else Aa .i64 (if(1000:Int)<x1 then(1000:Int)else x1)<|Aa .i64 ((r1.length:Int)+1)<|Aa .i64 (if(0:Int)>if(1000:Int)<x1 then(1000:Int)else x1 then(0:Int)else if(1000:Int)<x1 then(1000:Int)else x1)<|Aa .i64 ((if(0:Int)>if(1000:Int)<x1 then(1000:Int)else x1 then(0:Int)else if(1000:Int)<x1 then(1000:Int)else x1)+1)<|Aa .i64 (((r1.length:Int)+1)*((if(0:Int)>if(1000:Int)<x1 then(1000:Int)else x1 then(0:Int)else if(1000:Int)<x1 then(1000:Int)else x1)+1))<|none
def B302:=bQ [B22] Tryz.func194 [y3,Aj] [Tg] iW
def cT(fu:Nat)(x0:A4):Option (Au×Bool):=Ab (iW fu (x0,1)) λr1=>bif decide ((r1.length:Int)=0)then Ac (([],Ap))else Ab (idx r1 (0:Int)) λr2=>Ac ((r2,Br))
def B303:=bQ [B302] Tryz.func137 [y3] [.str, .bool] cT
def rY(fu:Nat):Au×Au->Option Int|(x0,x1)=>bif decide ((x0.length:Int)≠x1.length)then bif decide ((x0.length:Int)<x1.length)then Ac ((-1:Int))else Ac 1 else bif Go.Op.bytesLess x0 x1 then Ac ((-1:Int))else bif !(Go.Op.bytesLess x0 x1||decide (x0=x1))then Ac 1 else Ac 0
def B304:=bQ [] Tryz.func138 [.str, .str] [Aj] rY
def cR(fu:Nat):A4×A4->Option Int|(x0,x1)=>Ab (r_ fu (x0,x1)) λr1=>Ab (cT fu r1) λr2=>Ab (r_ fu (x1,x0)) λr3=>Ab (cT fu r3) λr4=>bif !r2.2 then bif !r4.2 then Ac 0 else bif r2.2 then bif !r4.2 then Ac ((-1:Int))else Ab (rY fu (r2.1,r4.1)) λr5=>bif decide (r5<0)then Ac ((-1:Int))else Ac 1 else Ac 1 else bif r2.2 then bif !r4.2 then Ac ((-1:Int))else Ab (rY fu (r2.1,r4.1)) λr6=>bif decide (r6<0)then Ac ((-1:Int))else Ac 1 else Ac 1
def x6:=bQ [B30,B303,B304] Tryz.func82 [y3,y3] [Aj] cR
def iV(fu:Nat):HD×HD->Option Int|(x0,x1)=>Ab (SY fu x0) λr1=>bif !r1 then Ac 0 else Ab (SY fu x1) λr2=>bif !r2 then Ac 0 else Ab (UB fu (x0.1,x1.1)) λr3=>Ab (UB fu (x0.2.1,x1.2.1)) λr4=>Ab (UB fu (x0.2.2.1,x1.2.2.1)) λr5=>Ab (QA fu (x0.2.2.2.1,x1.2.2.2.1)) λr6=>Ab (cR fu (x0.2.2.2.2,x1.2.2.2.2)) λr7=>Ad fu (λ(z8:Nat) nx9=>bif decide ((z8:Int)< ↑(5))then Ab (idx [r3,r4,r5,r6,r7] (z8:Int)) λr10=>bif decide (r10≠0)then Ac r10 else nx9 (z8+1)else Ac 0) (0)
def B306:=bQ [x9,B291,B301,x6] Tryz.func48 [y8,y8] [Aj] iV (la:=lk [(4,⟨[.nat],(kp [40,41] [(42, .AH 0 400)]),[(2, .c 0)],3⟩)])
def GR(fu:Nat):Int×Int->Option Int|(x0,x1)=>bif decide (x0<x1)then Ac ((-1:Int))else bif decide (x1<x0)then Ac 1 else Ac 0
def kB:=bQ [] Tryz.func50 [Aj,Aj] [Aj] GR
def iU(fu:Nat):Au×Au->Option Int|(x0,x1)=>bif Go.Op.bytesLess x0 x1 then Ac ((-1:Int))else bif !(Go.Op.bytesLess x0 x1||decide (x0=x1))then Ac 1 else Ac 0
def B308:=bQ [] Tryz.func139 [.str, .str] [Aj] iU
abbrev nq:Type:=IY 49 [Cs,Cs] [Aj]×IY 83 [Es,Es] [Aj]×IY 84 [Fy,Fy] [Aj]×IY 51 [Cp,Cp] [Aj]×IY 36 [BP,BP] [Aj]×IY 23 [BH,BH] [Aj]
def Uy(n:Nat):nq:=Nat.rec (motive:=λ_=>nq) (tQ Tryz.func49,tQ Tryz.func83,tQ Tryz.func84,tQ Tryz.func51,tQ Tryz.func36,tQ Tryz.func23) (λfu ⟨g0,g1,g2,g3,g4,g5⟩=>(sQ (EL g5::bs [kB] fu) fu Tryz.func49 [Cs,Cs] [Aj] (la:=lk [(6,⟨[.nat],(kp [2,3] [(5, .AH 0 600)]),[(1, .c 0),(0, .c 0)],2⟩),(12,⟨[.nat],(kp [2,3] [(7, .AH 0 1200)]),[(1, .c 0),(0, .c 0)],2⟩)]),sQ (EL g5::bs [kB,B308] fu) fu Tryz.func83 [Es,Es] [Aj],sQ (EL g5::bs [x6] fu) fu Tryz.func84 [Fy,Fy] [Aj],sQ (EL g1::EL g2::bs [kB] fu) fu Tryz.func51 [Cp,Cp] [Aj] (la:=lk [(2,⟨[.nat],(kp [2,3] [(5, .AH 0 200)]),[(1, .c 0),(0, .c 0)],2⟩),(10,⟨[.nat],(kp [2,3] [(7, .AH 0 1000)]),[(1, .c 0),(0, .c 0)],2⟩)]),sQ (EL g0::EL g3::bs [B306,kB] fu) fu Tryz.func36 [BP,BP] [Aj] (la:=lk [(9,⟨[.nat],(kp [2,3] [(6, .AH 0 900)]),[(1, .c 0),(0, .c 0)],2⟩),(17,⟨[.nat],(kp [2,3] [(8, .AH 0 1700)]),[(1, .c 0),(0, .c 0)],2⟩)]),sQ [EL g4] fu Tryz.func23 [BH,BH] [Aj])) n
abbrev iS(fu:Nat)(x:Cb×Cb):Option Int:=(Uy fu).1.1 x
abbrev rX(fu:Nat)(x:(Au×Int×AF)×(Au×Int×AF)):Option Int:=(Uy fu).2.1.1 x
abbrev iR(fu:Nat)(x:(A4×AF)×(A4×AF)):Option Int:=(Uy fu).2.2.1.1 x
abbrev cQ(fu:Nat)(x:BK×BK):Option Int:=(Uy fu).2.2.2.1.1 x
abbrev X3(fu:Nat)(x:(Vl)×(Vl)):Option Int:=(Uy fu).2.2.2.2.1.1 x
def B314(fu:Nat):=EL (Uy fu).2.2.2.2.2
abbrev Qz(fu:Nat)(x:AF×AF):Option Int:=(Uy fu).2.2.2.2.2.1 x
def xd(fu:Nat)(x0:Cb)(x1:Cb):Option Int:=bif decide ((x0.1.length:Int)≠x1.1.length)then Ab (GR fu ((x0.1.length:Int),(x1.1.length:Int))) λr1=>Ac r1 else bif decide ((x0.2.length:Int)≠x1.2.length)then Ab (GR fu ((x1.2.length:Int),(x0.2.length:Int))) λr2=>Ac r2 else Ad fu (λ(z3:Nat) nx4=>bif decide ((z3:Int)<x0.1.length)then Ab (idx x0.1 z3) λr5=>Ab (idx x1.1 z3) λr6=>Ab (Qz fu (r5,r6)) λr7=>bif decide (r7≠0)then Ac r7 else nx4 (z3+1)else Ad fu (λ(z8:Nat) nx9=>bif decide ((z8:Int)<x0.2.length)then Ab (idx x0.2 z8) λr10=>Ab (idx x1.2 z8) λr11=>Ab (Qz fu (r10,r11)) λr12=>bif decide (r12≠0)then Ac r12 else nx9 (z8+1)else Ac 0) (0)) (0)
theorem d331(fu x0 x1):iS (fu+1) (x0,x1)=xd fu x0 x1:=by kernel_rfl
def xc(fu:Nat)(x0:Au×Int×AF)(x1:Au×Int×AF):Option Int:=Ab (iU fu (x0.1,x1.1)) λr1=>bif decide (r1≠0)then Ac r1 else Ab (GR fu (x0.2.1,x1.2.1)) λr2=>bif decide (r2≠0)then Ac r2 else Ab (Qz fu (x0.2.2,x1.2.2)) λr3=>Ac r3
theorem d332(fu x0 x1):rX (fu+1) (x0,x1)=xc fu x0 x1:=by kernel_rfl
def xb(fu:Nat)(x0:A4×AF)(x1:A4×AF):Option Int:=Ab (cR fu (x0.1,x1.1)) λr1=>bif decide (r1≠0)then Ac r1 else Ab (Qz fu (x0.2,x1.2)) λr2=>Ac r2
theorem d333(fu x0 x1):iR (fu+1) (x0,x1)=xb fu x0 x1:=by kernel_rfl
def xa(fu:Nat)(x0:BK)(x1:BK):Option Int:=Ad fu (λ(z1:Nat) nx2=>bif decide ((z1:Int)<x0.1.length)then bif decide ((z1:Int)<x1.1.length)then Ab (idx x0.1 z1) λr3=>Ab (idx x1.1 z1) λr4=>Ab (rX fu (r3,r4)) λr5=>bif decide (r5≠0)then Ac r5 else nx2 (z1+1)else bif decide ((x0.1.length:Int)≠x1.1.length)then Ab (GR fu ((x0.1.length:Int),(x1.1.length:Int))) λr6=>Ac r6 else Ad fu (λ(z7:Nat) nx8=>bif decide ((z7:Int)<x0.2.length)then bif decide ((z7:Int)<x1.2.length)then Ab (idx x0.2 z7) λr9=>Ab (idx x1.2 z7) λr10=>Ab (iR fu (r9,r10)) λr11=>bif decide (r11≠0)then Ac r11 else nx8 (z7+1)else Ab (GR fu ((x0.2.length:Int),(x1.2.length:Int))) λr12=>Ac r12 else Ab (GR fu ((x0.2.length:Int),(x1.2.length:Int))) λr13=>Ac r13) (0)else bif decide ((x0.1.length:Int)≠x1.1.length)then Ab (GR fu ((x0.1.length:Int),(x1.1.length:Int))) λr14=>Ac r14 else Ad fu (λ(z15:Nat) nx16=>bif decide ((z15:Int)<x0.2.length)then bif decide ((z15:Int)<x1.2.length)then Ab (idx x0.2 z15) λr17=>Ab (idx x1.2 z15) λr18=>Ab (iR fu (r17,r18)) λr19=>bif decide (r19≠0)then Ac r19 else nx16 (z15+1)else Ab (GR fu ((x0.2.length:Int),(x1.2.length:Int))) λr20=>Ac r20 else Ab (GR fu ((x0.2.length:Int),(x1.2.length:Int))) λr21=>Ac r21) (0)) (0)
theorem d334(fu x0 x1):cQ (fu+1) (x0,x1)=xa fu x0 x1:=by kernel_rfl
def w_(fu:Nat)(x0:Vl)(x1:Vl):Option Int:=bif !Vl.any x0==Vl.any x1 then bif Vl.any x0 then Ac ((-1:Int))else Ac 1 else Ab (iV fu (Vl.sc x0,Vl.sc x1)) λr1=>bif decide (r1≠0)then Ac r1 else Ad fu (λ(z2:Nat) nx3=>bif decide ((z2:Int)<(Vl.lists x0).length)then bif decide ((z2:Int)<(Vl.lists x1).length)then Ab (idx (Vl.lists x0) (z2:Int)) λr4=>Ab (idx (Vl.lists x1) (z2:Int)) λr5=>Ab (iS fu (r4,r5)) λr6=>bif decide (r6≠0)then Ac r6 else nx3 (z2+1)else bif decide (((Vl.lists x0).length:Int)≠((Vl.lists x1).length:Int))then Ab (GR fu (((Vl.lists x0).length:Int),((Vl.lists x1).length:Int))) λr7=>Ac r7 else Ad fu (λ(z8:Nat) nx9=>bif decide ((z8:Int)<(Vl.structs x0).length)then bif decide ((z8:Int)<(Vl.structs x1).length)then Ab (idx (Vl.structs x0) (z8:Int)) λr10=>Ab (idx (Vl.structs x1) (z8:Int)) λr11=>Ab (cQ fu (r10,r11)) λr12=>bif decide (r12≠0)then Ac r12 else nx9 (z8+1)else Ab (GR fu (((Vl.structs x0).length:Int),((Vl.structs x1).length:Int))) λr13=>Ac r13 else Ab (GR fu (((Vl.structs x0).length:Int),((Vl.structs x1).length:Int))) λr14=>Ac r14) (0)else bif decide (((Vl.lists x0).length:Int)≠((Vl.lists x1).length:Int))then Ab (GR fu (((Vl.lists x0).length:Int),((Vl.lists x1).length:Int))) λr15=>Ac r15 else Ad fu (λ(z16:Nat) nx17=>bif decide ((z16:Int)<(Vl.structs x0).length)then bif decide ((z16:Int)<(Vl.structs x1).length)then Ab (idx (Vl.structs x0) (z16:Int)) λr18=>Ab (idx (Vl.structs x1) (z16:Int)) λr19=>Ab (cQ fu (r18,r19)) λr20=>bif decide (r20≠0)then Ac r20 else nx17 (z16+1)else Ab (GR fu (((Vl.structs x0).length:Int),((Vl.structs x1).length:Int))) λr21=>Ac r21 else Ab (GR fu (((Vl.structs x0).length:Int),((Vl.structs x1).length:Int))) λr22=>Ac r22) (0)) (0)
theorem d335(fu x0 x1):X3 (fu+1) (x0,x1)=w_ fu x0 x1:=by kernel_rfl
def xe(fu:Nat)(x0:AF)(x1:AF):Option Int:=Ab (X3 fu (x0.1,x1.1)) λr1=>bif decide (r1≠0)then Ac r1 else Ab (X3 fu (x0.2,x1.2)) λr2=>Ac r2
theorem d330(fu x0 x1):Qz (fu+1) (x0,x1)=xe fu x0 x1:=by kernel_rfl
def iQ(fu:Nat):AF×AF->Option Bool|(x0,x1)=>Ab (X5 fu x0) λr1=>bif r1 then Ab (X5 fu x1) λr2=>bif r2 then Ab (Qz fu (x0,x1)) λr3=>Ac (decide (r3=0))else Ac Ap else Ac Ap
def B315:=bQ [B290,B314] Tryz.func8 [BH,BH] [.bool] iQ
def zr(fu:Nat):AF×(List (Au×Int))×List (Au×Int)->Option Bool|(x0,x1,x2)=>Ab (zq fu x0) λr1=>bif !r1 then Ab (QD fu ()) λr2=>Ac r2 else bif decide ((4:Int)<x1.length)then Ab (QD fu ()) λr3=>Ac r3 else bif decide ((4:Int)<x2.length)then Ab (QD fu ()) λr4=>Ac r4 else Ab (wI fu x1) λr5=>bif !r5 then Ab (QD fu ()) λr6=>Ac r6 else Ab (wI fu x2) λr7=>bif !r7 then Ab (QD fu ()) λr8=>Ac r8 else Af (0+List.length x1<=Ag)<|Af (List.length x1+List.length x2<=Ag)<|Ab (nA fu (x0,(x1++x2))) λr9=>Ab (nA fu (x0,x1)) λr10=>bif decide (r10.2≠0)then bif decide (r9.2=r10.2)then Ab (QD fu ()) λr11=>Ac r11 else Ac Ap else Ab (nA fu (r10.1,x2)) λr12=>bif decide (r9.2=r12.2)then Ab (iQ fu (r9.1,r12.1)) λr13=>bif r13 then Ab (QD fu ()) λr14=>Ac r14 else Ac Ap else Ac Ap
theorem okAg(fu:Nat):Dw TP 3 (⟨[BH,Th,Th],[.bool],zr fu⟩:FQ NL):=uZ (sQ (bs [B4,B263,B900,B265,B315] fu) fu Tryz.func3 [BH,Th,Th] [.bool]).2 λx=>by kernel_rfl
end
end Go.GV
namespace Go.GL
open Go.GK
def Ok{α:Type}(x:Option α)(P:α->Prop):Prop:= ∃r,x=Ac r/\P r
section
variable {α β X R : Type} {P Q : R -> Prop}
section
variable{x y:Option R}{p:Prop}{k:α->Option R}{l:List α}{n:Nat}{S:Type}{fu:Nat}{b:Bool}{s:S}{r:R}{i:Int}
theorem Ok.some(h:P r):Ok (Ac r) P:=⟨r,rfl,h⟩
theorem Ok.mono(h:Ok x P)(k:∀r,P r->Q r):Ok x Q:=by obtain⟨r,e,h⟩:=h;exact⟨r,e,k r h⟩
theorem Ok.eq(h:Ok x (λa=>a=r)):x= .some r:=by obtain⟨_,e,rfl⟩:=h;exact e
theorem Ok.Af[Decidable p](a:p)(h:Ok x P):Ok (Af p x) P:=by unfold GK.Af;rw[if_pos a];exact h
theorem Ok.Ab{x:Option α}{Q:α->Prop}(h:Ok x Q)(b:∀a,Q a->Ok (k a) P):Ok (Ab x k) P:=by obtain⟨r,rfl,h⟩:=h;exact b r h
theorem IN{x:Option α}{a:α}(h:x= .some a)(b:Ok (k a) P):Ok (GK.Ab x k) P:=by subst h;exact b
theorem Ok.bif(ht:b=Br->Ok x P)(a:b=Ap->Ok y P):Ok (bif b then x else y) P:=by
 cases b;· exact a rfl
 ·exact ht rf
theorem Ok.ite[Decidable p](ht:p->Ok x P)(a:¬p->Ok y P):Ok (bif decide p then x else y) P:=
 Ok.bif (λh=>ht (of_decide_eq_true h)) (λh=>a (of_decide_eq_false h))
theorem Ok.T(h:b=Br)(a:Ok x P):Ok (bif b then x else y) P:=by subst h;exact a
theorem Ok.F(h:b=Ap)(a:Ok y P):Ok (bif b then x else y) P:=by subst h;exact a
theorem Ok.iT[Decidable p](h:p)(a:Ok x P):Ok (bif decide p then x else y) P:=Ok.T (decide_eq_true h) a
theorem Ok.iF[Decidable p](h:¬p)(a:Ok y P):Ok (bif decide p then x else y) P:=Ok.F (decide_eq_false h) a
theorem Ok.iu[Decidable p](hx:Ok x P)(h:p:=by first|omega|(dsimp only;omega)):Ok (bif decide p then x else y) P:=Ok.iT h hx
theorem Ok.io[Decidable p](hy:Ok y P)(h:¬p:=by first|omega|(dsimp only;omega)):Ok (bif decide p then x else y) P:=Ok.iF h hy
theorem Aby[Decidable p](h:Ok x P)(hp:p:=by first|omega|(dsimp only;omega)):Ok (GK.Af p x) P:=Ok.Af hp h
theorem Bj(h:n<l.length):idx l (n:Int)= .some l[n]:=by unfold idx;rw[if_pos (by omega)];simp[h]
theorem E4(h0:0<=i)(h1:i<(l.length:Nat)):idx l i= .some (l[i.toNat]'(by omega)):=by unfold idx;rw[if_pos h0];exact BY _
theorem Aal(h:n<l.length)(a:Ok (k l[n]) P):Ok (GK.Ab (idx l (n:Int)) k) P:=IN (Bj h) a
theorem Aeb(h0:0<=i)(h1:i<(l.length:Nat))(a:Ok (k (l[i.toNat]'(by omega))) P):Ok (GK.Ab (idx l i) k) P:=IN (E4 h0 h1) a
theorem MN{s:Au}(h:n<s.length):ER s (n:Int)= .some ((s[n].toNat:Nat):Int):=by unfold ER;rw[if_pos (by omega)];simp[h]
theorem Ok.ER{s:Au}{k:Int->Option R}(h:n<s.length)(a:Ok (k ((s[n].toNat:Nat):Int)) P):Ok (GK.Ab (ER s (n:Int)) k) P:=IN (MN h) a
theorem Ok.loop{b:X->(X->Option R)->Option R}(I:X->Prop)(m:X->Nat):∀ {fu:Nat} {x:X},I x->m x<fu->
  (∀x nx,I x->m x<fu->(∀a,I a->m a<m x->Ok (nx a) P)->Ok (b x nx) P)->Ok (Ad fu b x) P
 |0,_,_,h,_=>by omega
 |fu+1,x,d,e,step=>by show Ok (b x (Ad fu b)) P;refine step x _ d e λa c f=>Ok.loop I m c (by omega) λy nx i g h=>step y nx i (by omega) h
theorem Ok.range{b:S×Nat->(S×Nat->Option R)->Option R}(J:Nat->S->Prop)(n:Nat)(h0:J 0 s)(f:n<fu)
  (step:∀k s nx,k<n->J k s->(∀a,J (k+1) a->Ok (nx (a,k+1)) P)->Ok (b (s,k) nx) P)
  (stop:∀s nx,J n s->Ok (b (s,n) nx) P):Ok (Ad fu b (s,0)) P:=by
 refine Ok.loop (λx=>x.2<=n/\J x.2 x.1) (λx=>n-x.2) ⟨by simp,h0⟩ (by simpa using f) λx nx e _ g=>?_;obtain⟨s,k⟩:=x;obtain⟨c,d⟩:=e;rcases Aak k n with h|h;· exact step k s nx h d λa i=>g (a,k+1) ⟨by show k+1<=n;omega,i⟩ (by show n-(k+1)<n-k;omega)
 ·have c:k<=n:=c;obtain rfl:k=n:=by omega
  exact stop s nx d
theorem Ok.G8{S:Type}(mk:S->Nat->X){b:X->(X->Option R)->Option R}(J:Nat->S->Prop)(n:Nat)
  (step:∀k s nx,k<n->J k s->(∀a,J (k+1) a->Ok (nx (mk a (k+1))) P)->Ok (b (mk s k) nx) P)
  (stop:∀s nx,J n s->Ok (b (mk s n) nx) P):∀(fu k:Nat) (s:S),J k s->k<=n->n-k<fu->Ok (Ad fu b (mk s k)) P
 |0,_,_,_,_,h=>by omega
 |fu+1,k,s,c,f,e=>by
  show Ok (b (mk s k) (Ad fu b)) P;rcases Aak k n with h|h;· exact step k s _ h c λa d=>Ok.G8 mk J n step stop fu (k+1) a d h (by omega)
  ·obtain rfl:k=n:=by omega
   exact stop s _ c
theorem Ok.Ev{T:Type}{b:S×T×Nat->(S×T×Nat->Option R)->Option R}(J:Nat->S->T->Prop)(n:Nat){t:T}(h0:J 0 s t)(g:n<fu)
  (step:∀k s t nx,k<n->J k s t->(∀a c,J (k+1) a c->Ok (nx (a,c,k+1)) P)->Ok (b (s,t,k) nx) P)
  (stop:∀s t nx,J n s t->Ok (b (s,t,n) nx) P):Ok (Ad fu b (s,t,0)) P:=
 Ok.G8 (λ(s:S×T) k=>(s.1,s.2,k)) (λk s=>J k s.1 s.2) n (λk s nx e d f=>step k s.1 s.2 nx e d λa c h=>f (a,c) h) (λs nx d=>stop s.1 s.2 nx d) fu 0 (s,t) h0 (by omega) (by omega)
theorem Ok.TD{T U:Type}{b:S×T×U×Nat->(S×T×U×Nat->Option R)->Option R}(J:Nat->S->T->U->Prop)(n:Nat){t:T}{u:U}(h0:J 0 s t u)(i:n<fu)
  (step:∀k s t u nx,k<n->J k s t u->(∀a c d,J (k+1) a c d->Ok (nx (a,c,d,k+1)) P)->Ok (b (s,t,u,k) nx) P)
  (stop:∀s t u nx,J n s t u->Ok (b (s,t,u,n) nx) P):Ok (Ad fu b (s,t,u,0)) P:=
 Ok.G8 (λ(s:S×T×U) k=>(s.1,s.2.1,s.2.2,k)) (λk s=>J k s.1 s.2.1 s.2.2) n (λk s nx f e g=>step k s.1 s.2.1 s.2.2 nx f e λa c d h=>g (a,c,d) h) (λs nx e=>stop s.1 s.2.1 s.2.2 nx e) fu 0 (s,t,u) h0 (by omega) (by omega)
theorem Ok.count{b:Nat->(Nat->Option R)->Option R}(J:Nat->Prop)(n:Nat)(h0:J 0)(d:n<fu)
  (step:∀k nx,k<n->J k->(J (k+1)->Ok (nx (k+1)) P)->Ok (b k nx) P)
  (stop:∀nx,J n->Ok (b n nx) P):Ok (Ad fu b 0) P:=by
 refine Ok.loop (λx=>x<=n/\J x) (λx=>n-x) ⟨by simp,h0⟩ (by simpa using d) λk nx c _ e=>?_;obtain⟨g,a⟩:=c;rcases Aak k n with h|h;· exact step k nx h a λf=>e (k+1) ⟨by omega,f⟩ (by omega)
 ·obtain rfl:k=n:=by omega
  exact stop nx a
end
end
end Go.GL
namespace Go.GL
open Go Go.GV Go.GK
section
variable{R:Type}{x:Option R}{P:R->Prop}{i:Int}
theorem mX{p:Prop} [Decidable p](h:p):GK.Af p x=x:=by unfold GK.Af;rw[if_pos h]
theorem Aca(h: -9223372036854775808<=i/\i<=9223372036854775807)(a:Ok x P):Ok (Aa Kj.i64 i x) P:=by show Ok (GK.Af (GK.Dn i) x) P;exact Ok.Af (by unfold GK.Dn;omega) a
theorem Aaq(hx:Ok x P)(h: -9223372036854775808<=i/\i<=9223372036854775807:=by first|omega|(dsimp only;omega)):Ok (Aa Kj.i64 i x) P:=Aca h hx
theorem gg{α:Type}{cmp:α->α->Option Int}{le:α->α->Prop}(tot:∀x y,le x y\/le y x)(tr:∀x y z,le x y->le y z->le x z){l:List α}
  (hc:∀x∈l,∀y∈l,Ok (cmp x y) λc=>c<0↔¬le y x) {fu:Nat} (hn:l.length<1099511627776) (hf:l.length+1<fu):
  Ok (IH cmp fu 0 l.length l) λr=>r.Perm l/\r.Pairwise le:=by
 unfold IH;refine Aca (by omega) ?_;refine Ok.loop (λz:List α×Int=>z.1.Perm l/\1<=z.2/\∃A C,z.1=A++C/\A.Pairwise le/\((A.length:Int)=z.2\/(C=[]/\A.length<z.2))) (λz=>l.length+1-z.2.toNat) ?_ (by simp;omega) ?_;· refine⟨.refl _,by omega,?_⟩;cases l with
  |nil=>exact⟨[],[],rfl, .nil, .inr ⟨rfl,by simp⟩⟩
  |cons x l=>exact⟨[x],l,rfl,Acl .., .inl (by simp)⟩
 ·rintro⟨
      m,i⟩ nx ⟨k,X,A,C,e,t,n⟩ W M;dsimp only at k X e n;have D:m.length=l.length:=k.length_eq;refine Ok.ite (λc=>?_) (λc=>?_)
  ·have V:i<l.length:=c;have w:(A.length:Int)=i:=by
    rcases n with n|⟨n,L⟩;· exact n
    ·subst n;simp at e;subst e;omega
   obtain⟨q,C,rfl⟩:∃q S,C=q::S:=by
    cases C with
    |nil=>simp at e;subst e;omega
    |cons q C=>exact⟨q,C,rfl⟩
   refine Ok.loop (λz:List α×Int=>z.1.Perm l/\∃A q B C,z.1=A++q::(B++C)/\(A.length:Int)=z.2/\(A++B).Pairwise le/\(∀b∈B,le q b)/\(A.length:Int)+B.length=i) (λz=>z.2.toNat) ⟨k,A,q,[],C,e,w,by simpa using t,by simp,by simpa using w⟩ (by show i.toNat<fu;omega) ?_;rintro⟨m,j⟩ nx' ⟨k,A,q,B,C,e,K,t,I,J⟩ _ E;dsimp only at k e K;have D:m.length=l.length:=k.length_eq;have out:(A++q::B).Pairwise le->Ok (nx (m,i+1)) (λr=>r.Perm l/\r.Pairwise le):=λZ=>
    M (m,i+1) ⟨k,by show 1<=i+1;omega,A++q::B,C,by simp[e],Z, .inl (by simp only[Pd,Aav];omega)⟩ (by show l.length+1-(i+1).toNat<l.length+1-i.toNat;omega);refine Ok.ite (λc=>?_) (λc=>?_)
   ·have c:0<j:=c;obtain⟨A,p,rfl⟩:∃G p,A=G++[p]:=by
     rcases Afd A with h|⟨G,p,h⟩;· subst h;simp at K;omega
     ·exact⟨G,p,by simpa using h⟩
    have g:m=A++p::q::(B++C):=by simp[e]
    simp only[Pd,Aav,Ady]at K J;have H:idx m j=Ac q:=by unfold idx;rw[if_pos (by omega),g,Aab (by omega)];rw[show j.toNat-A.length=1 by omega];rfl
    have O:idx m (j-1)=Ac p:=by unfold idx;rw[if_pos (by omega),g,Aab (by omega)];rw[show(j-1).toNat-A.length=0 by omega];rfl
    have Y:m.length=A.length+(1+1+(B.length+C.length)):=by rw[g];simp only[Pd,Aav];omega
    refine IN H (Aaq (IN O (Ok.Ab (hc q (k.mem_iff.1 (by simp[e])) p (k.mem_iff.1 (by simp[e]))) λr P=>?_)));have F:=Abg.1 t;have N:=Abg.1 F.1;refine Ok.ite (λd=>?_) (λd=>?_)
    ·have d:=P.1 d;have T:le q p:=(tot p q).resolve_left d;refine Aaq (Aaq (IN O (IN H (IN H ?_))));have Q:m.set j.toNat p=A++p::p::(B++C):=by
      rw[g,Adq _ _ (by omega),show j.toNat-A.length=1 by omega];rfl
     have R:(m.set j.toNat p).set (j-1).toNat q=A++q::p::(B++C):=by rw[Q,Adq _ _ (by omega),show(j-1).toNat-A.length=0 by omega];rfl
     have U:idx (m.set j.toNat p) (j-1)=Ac p:=by unfold idx;rw[if_pos (by omega),Q,Aab (by omega)];rw[show(j-1).toNat-A.length=0 by omega];rfl
     refine IN U (Aca (by omega) ?_);refine E _ ⟨?_,A,q,p::B,C,?_,?_,?_,?_,?_⟩ (by show(j-1).toNat<j.toNat;omega);· show((m.set j.toNat p).set (j-1).toNat q).Perm l;rw[R];refine List.Perm.trans ?_ k;rw[g];exact List.Perm.append_left _ (List.Perm.swap ..)
     ·show(m.set j.toNat p).set (j-1).toNat q=_;rw[R];simp
     ·show(A.length:Int)=j-1;omega
     ·simpa using t
     ·intro b v;rcases Aay.1 v with rfl|v;· exact T
      ·exact I b v
     ·simp only[Aav];omega
    ·have d:le p q:=GB λh=>d (P.2 h);refine Aaq (out ?_);refine Abg.2 ⟨F.1,Abk.2 ⟨I,F.2.1⟩,λa u b v=>?_⟩;rcases Aay.1 v with rfl|v
     ·rcases AT.1 u with u|u;· exact tr _ _ _ (N.2.2 a u p (by simp)) d
      ·simp at u;subst u;exact d
     ·exact F.2.2 a u b v
   ·have c:¬0<j:=c;obtain rfl:A=[]:=Aae.1 (by omega);refine Aaq (out ?_);simp at t;simpa using⟨I,t⟩
  ·refine Ok.some ⟨k,?_⟩;rcases n with n|⟨n,L⟩
   ·have c:¬i<l.length:=c;have:C=[]:=by
     have:m.length=A.length+C.length:=by rw[e];simp
     exact Aae.1 (by omega)
    subst this;simp at e;subst e;exact t
   ·subst n;simp at e;subst e;exact t
end
end Go.GL
namespace Go.GL
abbrev Sp:=Int×Int
section
variable{l:List Sp}{n:Int}{s:Sp}{m:List Sp}
def AX(l:List Sp)(n:Int):Prop:= ∃s∈l,s.1<=n/\n<=s.2
theorem A8{n:Int} :¬AX [] n:=λ⟨_,h,_⟩=>by cases h
theorem AD:AX (s::l) n↔(s.1<=n/\n<=s.2)\/AX l n:=by simp only[AX,Aay,exists_eq_or_imp]
theorem CS:AX (l++m) n↔AX l n\/AX m n:=by simp only[AX,AT,or_and_right,exists_or]
theorem Oe(h:l.Perm m) :AX l n↔AX m n:=by simp only[AX,h.mem_iff]
structure Nf(l:List Sp):Prop where
 ne:∀s∈l,s.1<=s.2
 ord:l.Pairwise λs t=>s.2+1<t.1
theorem Nf.nil:Nf []:=⟨λ_ h=>(by cases h), .nil⟩
theorem Nf.tail(h:Nf (s::l)):Nf l:=⟨λt a=>h.ne t (Aag _ a),(Abk.1 h.ord).2⟩
theorem Nf.head(h:Nf (s::l)):s.1<=s.2:=h.ne s (Aaj ..)
theorem Nf.gt(h:Nf (s::l))(k:AX l n):s.2+1<n:=by obtain⟨t,a,b,c⟩:=k;have:=(Abk.1 h.ord).1 t a;omega
theorem Nf.unique:∀ {l m:List Sp},Nf l->Nf m->(∀n,AX l n↔AX m n)->l=m
 | [],[],_,_,_=>rfl
 | [],t::m,_,d,h=>absurd ((h t.1).2 (AD.2 (.inl ⟨Abn _,d.head⟩))) A8
 |s::l,[],a,_,h=>absurd ((h s.1).1 (AD.2 (.inl ⟨Abn _,a.head⟩))) A8
 |s::l,t::m,a,d,h=>by
  have i:=(h s.1).1 (AD.2 (.inl ⟨Abn _,a.head⟩));have j:=(h t.1).2 (AD.2 (.inl ⟨Abn _,d.head⟩));have r:=a.head;have u:=d.head;have o:s.1=t.1:=by
   rcases AD.1 i with e|e<;>rcases AD.1 j with f|f;· omega
   ·have:=a.gt f;omega
   ·have:=d.gt e;omega
   ·have:=a.gt f;have:=d.gt e;omega
  have p:s.2=t.2:=by
   rcases Int.lt_trichotomy s.2 t.2 with c|c|c
   ·exfalso;rcases AD.1 ((h (s.2+1)).2 (AD.2 (.inl ⟨by omega,by omega⟩)))with b|b;· omega
    ·have:=a.gt b;omega
   ·exact c
   ·exfalso;rcases AD.1 ((h (t.2+1)).1 (AD.2 (.inl ⟨by omega,by omega⟩)))with b|b;· omega
    ·have:=d.gt b;omega
  have q:s=t:=Acr o p;subst q;rw[Nf.unique a.tail d.tail λn=>?_];constructor
  ·intro k;have g:=a.gt k;rcases AD.1 ((h n).1 (AD.2 (.inr k)))with b|b;· omega
   ·exact b
  ·intro k;have g:=d.gt k;rcases AD.1 ((h n).2 (AD.2 (.inr k)))with b|b;· omega
   ·exact b
def Hf:List Sp->List Sp->List Sp
 |a,[]=>a
 |a,s::l=>match a.getLast? with
  |none=>Hf [s] l
  |some t=>if s.1<=t.2+1 then Hf (a.dropLast++[(t.1,max t.2 s.2)]) l else Hf (a++[s]) l
theorem EA:∀(l b:List Sp),Nf b->(∀s∈l,s.1<=s.2)->l.Pairwise (λs t=>s.1<=t.1)->(∀t∈b.getLast?,∀s∈l,t.1<=s.1)->Nf (Hf b l)/\∀n,AX (Hf b l) n↔AX b n\/AX l n
 | [],b,h,_,_,_=>⟨h,λn=>⟨.inl,λk=>k.elim id λk=>absurd k A8⟩⟩
 |s::l,b,h,v,D,C=>by
  have y:=v s (Aaj ..);have j:∀s∈l,s.1<=s.2:=λt i=>v t (Aag _ i);have f:=Abk.1 D;unfold Hf;split;· next e=>
   have:b=[]:=by simpa using e
   subst this;obtain⟨q,r⟩:=EA l [s] ⟨λt i=>by simp at i;subst i;exact y,Acl ..⟩ j f.2 (λt i u a=>by simp at i;subst i;exact f.1 u a);refine⟨q,λn=>?_⟩;rw[r,AD,AD (l:=l)];have:= @A8 n;simp[this]
  ·next t e=>
   obtain⟨o,rfl⟩:∃o,b=o++[t]:=List.getLast?_eq_some_iff.1 e;have w:Nf o:=⟨λu a=>h.ne u (Abu _ a),(Abg.1 h.ord).1⟩;have p:∀u∈o,u.2+1<t.1:=λu a=>(Abg.1 h.ord).2.2 u a t (by simp);have i:t.1<=t.2:=h.ne t (by simp);have E:t.1<=s.1:=C t (by simp) s (Aaj ..);have A:∀(x:Sp) (n:Int),AX (o++[x]) n↔AX o n\/(x.1<=n/\n<=x.2):=λx n=>by rw[CS,AD];simp[@A8 n]
   split;
      · next c=>
    have B:(o++[t]).dropLast=o:=by simp
    rw[B];obtain⟨q,r⟩:=EA l (o++[(t.1,max t.2 s.2)]) ⟨λu a=>by
     rcases AT.1 a with a|a;· exact w.ne u a
     ·simp at a;subst a;show t.1<=max t.2 s.2;omega,Abg.2 ⟨w.ord,Acl ..,λu a x g=>by simp at g;subst g;exact p u a⟩⟩ j f.2 (λx g u a=>by simp at g;subst g;show t.1<=u.1;have:=f.1 u a;omega);refine⟨q,λn=>?_⟩;rw[r,A,A,AD];constructor
    ·rintro((k|⟨k,z⟩)|k);· exact .inl (.inl k)
     ·have k:t.1<=n:=k;have z:n<=max t.2 s.2:=z;by_cases d:n<=t.2;· exact .inl (.inr ⟨k,d⟩)
      ·exact .inr (.inl ⟨by omega,by omega⟩)
     ·exact .inr (.inr k)
    ·rintro((k|k)|k|k);· exact .inl (.inl k)
     ·exact .inl (.inr ⟨k.1,show n<=max t.2 s.2 by omega⟩)
     ·exact .inl (.inr ⟨show t.1<=n by omega,show n<=max t.2 s.2 by omega⟩)
     ·exact .inr k
   ·next c=>
    obtain⟨q,r⟩:=EA l (o++[t]++[s]) ⟨λu a=>by
     rcases AT.1 a with a|a;· exact h.ne u a
     ·simp at a;subst a;exact y,Abg.2 ⟨h.ord,Acl ..,λu a x g=>by
      simp at g;subst g;rcases AT.1 a with a|a;· have:=p u a;omega
      ·simp at a;subst a;omega⟩⟩ j f.2 (λx g u a=>by simp at g;subst g;exact f.1 u a);refine⟨q,λn=>?_⟩;rw[r,CS,AD,AD (l:=l)];simp[@A8 n,or_assoc]
def EM:Sp->List Sp->List Sp
 |s,[]=>[s]
 |s,x::l=>if x.2+1<s.1 then x::EM s l else if s.2+1<x.1 then s::x::l else EM (min s.1 x.1,max s.2 x.2) l
theorem KJ:∀(l:List Sp) (s:Sp),Nf l->s.1<=s.2->Nf (EM s l)/\(∀n,AX (EM s l) n↔(s.1<=n/\n<=s.2)\/AX l n)
 | [],s,_,i=>⟨⟨λt f=>by simp[EM]at f;subst f;exact i,Acl ..⟩,λn=>AD⟩
 |x::l,s,h,i=>by
  have o:=h.head;unfold EM;split;· next c=>
   obtain⟨g,j⟩:=KJ l s h.tail i;refine⟨⟨λt f=>?_,Abk.2 ⟨λt f=>?_,g.ord⟩⟩,λn=>?_⟩
   ·rcases Aay.1 f with rfl|f;· exact o
    ·exact g.ne t f
   ·have m:=g.ne t f;rcases(j t.1).1 ⟨t,f,Abn _,m⟩with e|e;· omega
    ·have:=h.gt e;omega
   ·rw[AD,j,AD];exact⟨λk=>by rcases k with k|k|k<;>simp[k],λk=>by rcases k with k|k|k<;>simp[k]⟩
  ·split;
      · next c d=>
    refine⟨⟨λt f=>?_,Abk.2 ⟨λt f=>?_,h.ord⟩⟩,λn=>AD⟩
    ·rcases Aay.1 f with rfl|f;· exact i
     ·exact h.ne t f
    ·rcases Aay.1 f with rfl|f;· exact d
     ·have:=(Abk.1 h.ord).1 t f;omega
   ·next c d=>
    obtain⟨g,j⟩:=KJ l (min s.1 x.1,max s.2 x.2) h.tail (show min s.1 x.1<=max s.2 x.2 by omega);refine⟨g,λn=>?_⟩;rw[j,AD];constructor
    ·rintro(⟨a,b⟩|k)
     ·have a:min s.1 x.1<=n:=a;have b:n<=max s.2 x.2:=b;by_cases e:s.1<=n/\n<=s.2;· exact .inl e
      ·exact .inr (.inl (by omega))
     ·exact .inr (.inr k)
    ·rintro(k|k|k);· exact .inl ⟨show min s.1 x.1<=n by omega,show n<=max s.2 x.2 by omega⟩
     ·exact .inl ⟨show min s.1 x.1<=n by omega,show n<=max s.2 x.2 by omega⟩
     ·exact .inr k
def DB:Int->Int->List Sp->List Sp
 |b,a,[]=>if b<=a then [(b,a)]else []
 |b,a,s::l=>if b<s.1 then(b,s.1-1)::DB (s.2+1) a l else DB (s.2+1) a l
theorem FN:∀(l:List Sp) (lo hi:Int),Nf l->(∀s∈l,lo<=s.1/\s.2<=hi)->Nf (DB lo hi l)/\(∀n,AX (DB lo hi l) n↔(lo<=n/\n<=hi)/\¬AX l n)
 | [],lo,hi,_,_=>by
  unfold DB;split;· next c=>exact⟨⟨λt f=>by simp at f;subst f;exact c,Acl ..⟩,λn=>by rw[AD];simp[@A8 n]⟩
  ·next c=>exact⟨.nil,λn=>⟨λk=>absurd k A8,λk=>absurd k.1 (by omega)⟩⟩
 |s::l,lo,hi,h,j=>by
  have o:=h.head;have m:=j s (Aaj ..);obtain⟨g,i⟩:=FN l (s.2+1) hi h.tail λt f=>⟨by have:=(Abk.1 h.ord).1 t f;omega,(j t (Aag _ f)).2⟩;unfold DB;split;· next c=>
   refine⟨⟨λt f=>?_,Abk.2 ⟨λt f=>?_,g.ord⟩⟩,λn=>?_⟩
   ·rcases Aay.1 f with rfl|f;· show lo<=s.1-1;omega
    ·exact g.ne t f
   ·have:=((i t.1).1 ⟨t,f,Abn _,g.ne t f⟩).1;show s.1-1+1<t.1;omega
   ·rw[AD,i,AD];constructor
    ·rintro(⟨a,b⟩|⟨a,b⟩)
     ·have b:n<=s.1-1:=b;have a:lo<=n:=a;refine⟨⟨a,by omega⟩,λk=>?_⟩;rcases k with k|k;· omega
      ·have:=h.gt k;omega
     ·exact⟨⟨by omega,a.2⟩,λk=>k.elim (λk=>by omega) b⟩
    ·rintro⟨a,b⟩;by_cases d:n<s.1;· exact .inl ⟨a.1,show n<=s.1-1 by omega⟩
     ·exact .inr ⟨⟨by have:=λe=>b (.inl ⟨by omega,e⟩);omega,a.2⟩,λk=>b (.inr k)⟩
  ·next c=>
   refine⟨g,λn=>?_⟩;rw[i,AD];constructor;· rintro⟨a,b⟩;exact⟨⟨by omega,a.2⟩,λk=>k.elim (λk=>by omega) b⟩
   ·rintro⟨a,b⟩;exact⟨⟨by have:=λe=>b (.inl ⟨by omega,e⟩);omega,a.2⟩,λk=>b (.inr k)⟩
def Em(a b:List Sp):List Sp:=a.flatMap λx=>b.filterMap λy=>if max x.1 y.1<=min x.2 y.2 then Ac (max x.1 y.1,min x.2 y.2)else C7
theorem So{a b:List Sp} :AX (Em a b) n↔AX a n/\AX b n:=by
 simp only[AX,Em,Aac,Aeu];constructor
 ·rintro⟨s,⟨x,c,y,d,e⟩,f,g⟩;split at e;· injection e with e;subst e;have f:max x.1 y.1<=n:=f;have g:n<=min x.2 y.2:=g;exact⟨⟨x,c,by omega,by omega⟩,⟨y,d,by omega,by omega⟩⟩
  ·cases e
 ·rintro⟨⟨x,c,h,i⟩,⟨y,d,j,k⟩⟩;exact⟨(max x.1 y.1,min x.2 y.2),⟨x,c,y,d,if_pos (by omega)⟩,show max x.1 y.1<=n by omega,show n<=min x.2 y.2 by omega⟩
end
end Go.GL
namespace Go.GL
open Go Go.GV Go.GK Go.Proofs
section
variable{fu:Nat}{x:List Sp×List Sp}{l:List Sp}{r:List Sp×List Sp}{y b:Int}{a:List Sp}{I F:Int->Prop}{gu:Nat}{c:Int}{s x0:Sp}{m:List Sp}{n:Nat}{g:Int->Int}{lo hi v d u:Int}
theorem Eh:4294967296<=Ag:=by decide
theorem ZV(fu:Nat):((List.range 13).all λn=>(Dn fu (n:Int)).isSome)=Br:=by kernel_rfl
theorem Gz(h:n<=12):Ok (rW fu n) λ_=>True:=by
 rw[rW];have k:=OF.1 (ZV fu) n (Abb.2 (by omega));cases h:Dn fu n with
 |none=>rw[h]at k;cases k
 |some r=>exact⟨r,rfl,trivial⟩
theorem bB{a:Int} :zI fu (a,b)=Ac (if a<b then-1 else if b<a then 1 else 0):=by rw[zI];have e (x:Int):zJ fu x=Ac Ap:=(by show(Ac (decide (x≠x)):Option Bool)=Ac Ap;simp);simp only[e];show(bif decide (a<b)then _ else bif decide (b<a)then _ else _)=_;by_cases c:a<b<;>by_cases d:b<a<;>simp[c,d]
theorem KS(h:l.length<=12)(a:20<fu):Ok (wO fu l) λr=>r.Perm l/\r.Pairwise λs t=>s.1<=t.1:=by
 rw[wO];have e:(Int.ofNat (l.length %Int.natAbs (18446744073709551616:Int)))=(l.length:Nat):=by show((l.length %18446744073709551616:Nat):Int)=_;rw[Aec (by omega)]
 rw[e];refine Ok.Ab (Gz h) λr _=>?_;rw[F70];obtain⟨f,rfl⟩:∃f,fu=f+1:=⟨fu-1,by omega⟩;refine Ok.Ab (Q:=λr:List Sp=>r.Perm l/\r.Pairwise λs t=>s.1<=t.1) ?_ λr h=>Ok.some h;rw[Ad];refine Aaq (Ok.iT (by omega) ?_);refine Ok.Ab (Q:=λr:List Sp=>r.Perm l/\r.Pairwise λs t=>s.1<=t.1) ?_ λr h=>Ok.some h;have e:zG (f+1) (0,(l.length:Int),l)=D69 (f+1) 0 l.length l:=d69 (f+1) 0 l.length l;rw[e];show Ok (IH (λx y=>zH (f+1) (x,y)) (f+1) 0 l.length l) _;refine gg (l:=l) (le:=λs t:Sp=>s.1<=t.1) (λx y=>Ajf ..) (λx y z h k=>Int.le_trans h k) (λx _ y _=>?_) (by omega) (by omega);rw[zH];rw[bB];refine⟨_,rfl,?_⟩;by_cases c:x.1<y.1<;>by_cases d:y.1<x.1<;>simp[c,d]<;>omega
def Eg(g:Int->Int):List Sp->List Sp->List Sp
 |out,[]=>out
 |out,s::l=>match out.getLast? with
  |none=>Eg g [s] l
  |some t=>if s.1<=g t.2 then Eg g (out.dropLast++[(t.1,max t.2 s.2)]) l else Eg g (out++[s]) l
theorem LK:∀(l out:List Sp),Eg (· +1) out l=Hf out l
 | [],_=>rfl
 |s::l,out=>by
  unfold Eg Hf;cases out.getLast? with
  |none=>exact LK l _
  |some t=>dsimp only;rw[LK l,LK l]
noncomputable def VE(e:Int->Option Int)(fu:Nat)(f:List Sp):Option (List Sp):=
 Ad fu (λ(a:List (Int×Int)×Nat) b=>
  bif decide ((↑a.2:Int)<(↑(List.length f):Int))then
   Ab (idx f (↑a.2:Int)) λc=>
   bif decide ((0:Int)<(↑(List.length a.1):Int))then
    Aa (Kj.i64) ((↑(List.length a.1):Int)-(1:Int))<|
    Ab (idx a.1 ((↑(List.length a.1):Int)-(1:Int))) λg=>
    Ab (e g.2) λh=>
    bif decide (c.1<=h)then
     Aa (Kj.i64) ((↑(List.length a.1):Int)-(1:Int))<|
     Aa (Kj.i64) ((↑(List.length a.1):Int)-(1:Int))<|
     Ab (idx a.1 ((↑(List.length a.1):Int)-(1:Int))) λd=>
     Aa (Kj.i64) (if c.2>d.2 then c.2 else d.2)<|
     Ab (idx a.1 ((↑(List.length a.1):Int)-(1:Int))) λi=>
     b (((a.1.set (Int.toNat ((↑(List.length a.1):Int)-(1:Int))) (i.1,(if d.2<c.2 then c.2 else d.2))),a.2+1))
    else
     Af (List.length a.1+1<=Ag)<|
     b (((a.1++[c]),a.2+1))
   else
    Af (List.length a.1+1<=Ag)<|
    b (((a.1++[c]),a.2+1))
  else
   Ac (a.1)) (([],0))
def BO(b:Int)(s:Sp):Prop:= -b<=s.1/\s.1<=b/\ -b<=s.2/\s.2<=b
theorem RT{p:Int->Option Int}(D:b<=2000000000000000)(B:∀x, -b<=x->x<=b->p x=Ac (g x))(C:∀s∈l,BO b s)(E:l.length<4294967296)(A:l.length<fu):
  Ok (VE p fu l) λr=>r=Eg g [] l:=by
 unfold VE;refine Ok.range (λk out=>Eg g out (l.drop k)=Eg g [] l/\out.length<=k/\∀s∈out,BO b s) l.length ⟨rfl,by simp,by simp⟩ A ?_ ?_
 ·intro k out nx v ⟨h,q,u⟩ n;have w:l.drop k=l[k]::l.drop (k+1):=Aaw v;have j:=C l[k] (AN v);refine Ok.iT (by show(k:Int)<l.length;omega) (Aal v ?_);have app:out.getLast?=C7\/(∃t,out.getLast?=Ac t/\¬l[k].1<=g t.2)->Ok (Af (out.length+1<=Ag) (nx (out++[l[k]],k+1))) (λr=>r=Eg g [] l):=λc=>by
   refine Ok.Af (by have:=Eh;omega) (n _ ⟨?_,by simp;omega,?_⟩)
   ·rw[<-h,w];conv=>rhs;unfold Eg
    rcases c with c|⟨t,c,d⟩
    ·rw[c];have:out=[]:=by simpa using c
     subst this;rfl
    ·rw[c];dsimp only;rw[if_neg d]
   ·intro s f;rcases AT.1 f with f|f;· exact u s f
    ·simp at f;subst f;exact j
  refine Ok.ite (λc=>?_) (λc=>?_)
  ·have c:(
        0:Int)<out.length:=c;obtain⟨o,t,rfl⟩:∃o t,out=o++[t]:=by
    rcases Afd out with e|⟨o,t,e⟩;· subst e;simp at c
    ·exact⟨o,t,by simpa using e⟩
   have m:=u t (by simp);have e:idx (o++[t]) (((o++[t]).length:Int)-1)=Ac t:=by unfold idx;simp only[Pd,Aav,Ady];rw[if_pos (by omega),show((((o.length+(0+1):Nat):Int)-1).toNat)=o.length by omega];simp
   have i:(o++[t]).length=o.length+1:=by simp
   refine Aca (by simp only[i]at q⊢;omega) (IN e (IN (B _ m.2.2.1 m.2.2.2) (Ok.ite (λd=>?_) (λd=>?_))))
   ·refine Aca (by simp only[i]at q⊢;omega) (Aca (by simp only[i]at q⊢;omega) (IN e (Aca ?_ (IN e ?_))));· have:=j.2.2;have:=m.2.2;dsimp only;split<;>omega
    ·have y:(if t.2<l[k].2 then l[k].2 else t.2)=max t.2 l[k].2:=by split<;>omega
     have z:(o++[t]).set (((o++[t]).length:Int)-1).toNat (t.1,if t.2<l[k].2 then l[k].2 else t.2)=o++[(t.1,max t.2 l[k].2)]:=by rw[y,i,show(((o.length+1:Nat):Int)-1).toNat=o.length by omega,Adq _ _ (by omega)];simp
     have:Ok (nx (o++[(t.1,max t.2 l[k].2)],k+1)) (λr=>r=Eg g [] l):=by
      refine n _ ⟨?_,by simpa [i]using Nat.le_succ_of_le q,?_⟩
      ·rw[<-h,w];conv=>rhs;unfold Eg
       simp only[List.getLast?_append,Ama,Option.some_or];have d:l[k].1<=g t.2:=d;rw[if_pos d];simp
      ·intro s f;rcases AT.1 f with f|f;· exact u s (by simp[f])
       ·simp at f;subst f;refine⟨m.1,m.2.1,?_,?_⟩;· show-b<=max t.2 l[k].2;have:=m.2.2;omega
        ·show max t.2 l[k].2<=b;have:=m.2.2;have:=j.2.2;omega
     rw[<-z]at this;exact this
   ·exact app (.inr ⟨t,by simp,d⟩)
  ·have c:¬(0:Int)<out.length:=c;exact app (.inl (by have:out=[]:=Aae.1 (by omega);simp[this]))
 ·intro out nx ⟨h,_,_⟩;refine Ok.iF (by show¬(l.length:Int)<l.length;omega) (Ok.some ?_);simpa [Eg]using h
theorem Q4(i:b<=2000000000000000)(hi:∀s∈l,BO b s)(f:∀s∈l,s.1<=s.2)(h:l.length<=12)(j:20<fu):
  Ok (zF fu l) λr=>Nf r/\∀n,AX r n↔AX l n:=by
 rw[zF];have c:=Eh;have e:List.take (min l.length (List.replicate l.length ((0:Int),(0:Int))).length) l++List.drop (min l.length (List.replicate l.length ((0:Int),(0:Int))).length) (List.replicate l.length ((0:Int),(0:Int)))=l:=by simp
 refine Aby (Ok.Af (by simp only[Acq];omega) ?_);rw[e];refine Ok.Ab (KS h j) λr ⟨d,k⟩=>?_;have t:=d.length_eq;show Ok (VE (λx=>nD fu x) fu r) _;refine(RT (g:=(· +1)) (b:=b) i (λx p q=>?_) (λs f=>hi s (d.mem_iff.1 f)) (by omega) (by omega)).mono λu e=>?_;· rw[nD];exact(Aca (P:=λr=>r=x+1) (by omega) (Ok.some rf)).eq
 ·subst e;rw[LK];obtain⟨m,o⟩:=EA r [] .nil (λs h=>f s (d.mem_iff.1 h)) k (by simp);exact⟨m,λn=>by rw[o,<-Oe d];simp[@A8 n]⟩
noncomputable def wA(fu:Nat)(f:List (Int×Int))(e:Int×Int)(d:List (Int×Int)->Option (List (Int×Int))):Option (List (Int×Int)):=
 Ad fu (
      λ(a:List (Int×Int)×Int×Int×Bool×Nat) c=>
  bif decide ((↑a.2.2.2.2:Int)<(↑(List.length f):Int))then
   Ab (idx f (↑a.2.2.2.2:Int)) λb=>
   Aa (Kj.i64) (b.2+(1:Int))<|
   bif decide (b.2+(1:Int)<a.2.1)then
    Af (List.length a.1+1<=Ag)<|
    c (((a.1++[b]),a.2.1,a.2.2.1,a.2.2.2.1,a.2.2.2.2+1))
   else
    Aa (Kj.i64) (a.2.2.1+(1:Int))<|
    bif decide (a.2.2.1+(1:Int)<b.1)then
     bif !a.2.2.2.1 then
      Af (List.length a.1+1<=Ag)<|
      Af (List.length (a.1++[(a.2.1,a.2.2.1)])+1<=Ag)<|
      c ((((a.1++[(a.2.1,a.2.2.1)])++[b]),a.2.1,a.2.2.1,Br,a.2.2.2.2+1))
     else
      Af (List.length a.1+1<=Ag)<|
      c (((a.1++[b]),a.2.1,a.2.2.1,a.2.2.2.1,a.2.2.2.2+1))
    else
     Aa (Kj.i64) (if b.1<a.2.1 then b.1 else a.2.1)<|
     Aa (Kj.i64) (if b.2>a.2.2.1 then b.2 else a.2.2.1)<|
     c ((a.1,(if b.1<a.2.1 then b.1 else a.2.1),(if a.2.2.1<b.2 then b.2 else a.2.2.1),a.2.2.2.1,a.2.2.2.2+1))
  else
   bif !a.2.2.2.1 then
    Af (List.length a.1+1<=Ag)<|
    d ((a.1++[(a.2.1,a.2.2.1)]))
   else
    d (a.1)) (([],e.1,e.2,Ap,0))
theorem Nk:∀(l:List Sp) (s:Sp),(EM s l).length<=l.length+1
 | [],_=>by simp[EM]
 |x::l,s=>by
  unfold EM;split;· have:=Nk l s;simp;omega
  ·split;· simp
   ·have:=Nk l (min s.1 x.1,max s.2 x.2);simp;omega
theorem Qu{b:Int} :∀(l:List Sp) (s:Sp),BO b s->(∀x∈l,BO b x)->∀x∈EM s l,BO b x
 | [],s,h,_=>by simpa [EM]using h
 |y::l,s,h,d=>by
  have e:=d y (by simp);have c:∀x∈l,BO b x:=λx a=>d x (by simp[a]);unfold EM;split
  ·intro x a;rcases Aay.1 a with rfl|a;· exact e
   ·exact Qu l s h c x a
  ·split
   ·intro x a;rcases Aay.1 a with rfl|a;· exact h
    ·exact d x a
   ·exact Qu l _ (by unfold BO at*;dsimp only;omega) c
theorem iH{nx:List Sp->Option (List Sp)}{P:List Sp->Prop}(L:b<=2000000000000000)(H:∀x∈l,BO b x)(C:BO b s)(D:s.1<=s.2)(B:Nf l)(N:l.length<1000000000)(M:l.length<fu)
  (u:Ok (nx (EM s l)) P):Ok (wA fu l s nx) P:=by
 unfold wA;refine Ok.G8 (λ(s:List Sp×Int×Int×Bool) k=>(s.1,s.2.1,s.2.2.1,s.2.2.2,k))
  (λk z=>z.2.1<=z.2.2.1/\BO b (z.2.1,z.2.2.1)/\z.1.length<=k+1/\(z.2.2.2=Ap->z.1.length<=k/\z.1++EM (z.2.1,z.2.2.1) (l.drop k)=EM s l)/\(z.2.2.2=Br->z.1++l.drop k=EM s l/\∀x∈l.drop k,z.2.2.1+1<x.1)) l.length ?_ ?_ fu 0 ([],s.1,s.2,Ap) ⟨D,C,by simp,λ_=>⟨by simp,rfl⟩,λh=>(by cases h)⟩ (by omega) (by omega)
 ·rintro k ⟨
       out,f,a,r⟩ E w ⟨p,i,A,j,n⟩ g;dsimp only at p i A j n⊢;have o:l.drop k=l[k]::l.drop (k+1):=Aaw w;have q:=H l[k] (AN w);have J:=B.ne l[k] (AN w);have y:=Eh;refine Ok.iT (by show(k:Int)<l.length;omega) (Aal w (Aca (by unfold BO at q;omega) ?_));have v:l[k]∈l.drop k:=by rw[o];exact Aaj ..
  refine Ok.ite (λc=>?_) (λc=>?_)
  ·have c:l[k].2+1<f:=c;have I:r=Ap:=by
    cases r with
    |false=>rfl
    |true=>have:=(n rfl).2 _ v;omega
   subst I;have K:=(j rfl).1;refine Aby (g (out++[l[k]],f,a,Ap) ⟨p,i,by simp;omega,λ_=>⟨by simp;omega,?_⟩,λe=>(by cases e)⟩);show(out++[l[k]])++EM (f,a) (l.drop (k+1))=_;rw[<-(j rfl).2,o,Aam];congr 1;conv=>rhs;unfold EM
   rw[if_pos c];rfl
  ·have c:¬l[k].2+1<f:=c;refine Aca (by unfold BO at i;dsimp only at i;omega) ?_;refine Ok.ite (λd=>?_) (λd=>?_);· have d:a+1<l[k].1:=d;cases r with
    |false=>
     refine Ok.T rf ?_;have K:=(j rf).1
     ·refine Aby (Ok.Af (by simp;omega) (g ((out++[(f,a)])++[l[k]],f,a,Br) ⟨p,i,by simp;omega,λe=>(by cases e),λ_=>⟨?_,λx q=>?_⟩⟩))
      ·show((out++[(f,a)])++[l[k]])++l.drop (k+1)=_;rw[<-(j rfl).2,o];conv=>rhs;unfold EM
       rw[if_neg c,if_pos d];simp
      ·have t:Nf (l.drop k):=⟨λs C=>B.ne s (List.mem_of_mem_drop C),B.ord.sublist (List.drop_sublist ..)⟩;rw[o]at t;have:=(Abk.1 t.ord).1 x q;show a+1<x.1;omega
    |true=>
     refine Ok.F rfl (Aby (g (out++[l[k]],f,a,Br) ⟨p,i,by simp;omega,λe=>(by cases e),λ_=>⟨?_,λx q=>(n rfl).2 x (by rw[o];exact Aag _ q)⟩⟩));show(out++[l[k]])++l.drop (k+1)=_;rw[<-(n rfl).1,o];simp
   ·have d:¬a+1<l[k].1:=d;have F:(if l[k].1<f then l[k].1 else f)=min f l[k].1:=by split<;>omega
    have G:(if a<l[k].2 then l[k].2 else a)=max a l[k].2:=by split<;>omega
    unfold BO at i q;dsimp only at i;refine Aca (by split<;>omega) (Aca (by split<;>omega) ?_);rw[F,G];refine g (out,min f l[k].1,max a l[k].2,r) ⟨by show min f l[k].1<=max a l[k].2;omega,by unfold BO;dsimp only;omega,by show out.length<=k+1+1;omega,λe=>⟨by have:=(j e).1;show out.length<=k+1;omega,?_⟩,λe=>?_⟩
    ·show out++EM (min f l[k].1,max a l[k].2) (l.drop (k+1))=_;rw[<-(j e).2,o];conv=>rhs;unfold EM
     rw[if_neg c,if_neg d]
    ·have:=(n e).2 l[k] v;omega
 ·rintro⟨out,f,a,r⟩ E ⟨p,i,A,j,n⟩;dsimp only at p i A j n⊢;have y:=Eh;refine Ok.iF (by show¬(l.length:Int)<l.length;omega) ?_;cases r with
  |false=>
   refine Ok.T rf (Ok.Af (by omega) ?_);have:=(j rf).2;simp[EM]at this;rw[this];exact u
  |true=>
   refine Ok.F rf ?_;have:=(n rf).1;simp at this;rw[this];exact u
theorem N_(v:b<=2000000000000000)(hi:∀s∈l,s.1<=s.2->BO b s)(x:l.length<1000000000)(w:l.length<fu):
  Ok (dh fu l) λr=>Nf r/\(∀n,AX r n↔AX l n)/\r.length<=l.length/\∀s∈r,BO b s:=by
 rw[dh];have mt (k:Nat) (a:k<l.length) (n:Int):AX (l.take (k+1)) n↔AX (l.take k) n\/(l[k].1<=n/\n<=l[k].2):=by rw[IT a,CS,AD];simp[@A8 n]
 refine Ok.range (λk r=>Nf r/\(∀n,AX r n↔AX (l.take k) n)/\r.length<=k/\∀s∈r,BO b s) l.length ⟨.nil,λn=>by simp,by simp,by simp⟩ w ?_ ?_
 ·intro k r nx a ⟨d,i,j,f⟩ g;refine Ok.iT (by show(k:Int)<l.length;omega) (Aal a ?_);refine Ok.ite (λc=>?_) (λc=>?_)
  ·have c:l[k].2<l[k].1:=c;refine g r ⟨d,λn=>?_,by omega,f⟩;rw[mt k a,i];constructor;· exact .inl
   ·rintro(h|h);· exact h
    ·omega
  ·have c:¬l[k].2<l[k].1:=c;have m:=hi l[k] (AN a) (by omega);obtain⟨p,q⟩:=KJ r l[k] d (by omega);have t:r.length<1000000000:=Agh j (by omega);have u:r.length<fu:=Agh j (by omega);refine iH (nx:=λo=>nx (o,k+1)) v f m (by omega) d t u ?_;refine g (EM l[k] r) ⟨p,λn=>?_,by have:=Nk r l[k];omega,Qu r l[k] m f⟩;rw[q,mt k a,i];exact Or.comm
 ·intro r nx ⟨d,i,j,f⟩;refine Ok.iF (by show¬(l.length:Int)<l.length;omega) (Ok.some ⟨d,λn=>?_,j,f⟩);rw[i];simp
def CY(b:Int)(s:Sp):Sp:=(max (-b) s.1,min b s.2)
theorem Sy(h:(CY b s).1<=(CY b s).2):BO b (CY b s):=by unfold BO CY at*;dsimp only at*;omega
theorem Od{n:Int} :AX (l.map (CY b)) n↔AX l n/\ -b<=n/\n<=b:=by
 simp only[AX,By,CY];constructor;· rintro⟨_,⟨s,a,rfl⟩,c,d⟩;dsimp only at c d;exact⟨⟨s,a,by omega,by omega⟩,by omega,by omega⟩
 ·rintro⟨⟨s,a,c,d⟩,e,f⟩;exact⟨_,⟨s,a,rfl⟩,by show max (-b) s.1<=n;omega,by show n<=min b s.2;omega⟩
def D7(s:Sp):Prop:=GK.Dn s.1/\GK.Dn s.2
theorem VI(v:∀s∈x.1,D7 s)(y:x.1.length<1000000000)(u:x.1.length<fu):
  Ok (df fu x) λr=>Nf r/\(∀n,AX r n↔AX x.1 n/\ -100000000000<=n/\n<=100000000000)/\r.length<=x.1.length/\∀s∈r,BO 100000000000 s:=by
 rw[df];have i:=Eh;refine Ok.range (λk r=>r=(x.1.take k).map (CY 100000000000)) x.1.length (by simp) u ?_ ?_
 ·intro k r nx c h d;have f:=v _ (AN c);unfold D7 GK.Dn at f;have w:r.length=k:=by rw[h];simp;omega
  refine Ok.iT (by show(k:Int)<x.1.length;omega) (Aal c ?_);refine Aca (by dsimp only;split<;>omega) (Aca (by dsimp only;split<;>omega) (Ok.Af (by dsimp only;omega) ?_));refine d _ ?_;rw[IT c,Aan,h];have j:(if x.1[k].1< -100000000000 then-100000000000 else x.1[k].1)=max (-100000000000) x.1[k].1:=by split<;>omega
  have l:(if 100000000000<x.1[k].2 then 100000000000 else x.1[k].2)=min 100000000000 x.1[k].2:=by split<;>omega
  dsimp only;rw[j,l];rfl
 ·intro r nx h;refine Ok.iF (by show¬(x.1.length:Int)<x.1.length;omega) ?_;subst h;refine Ok.Ab (N_ (b:=100000000000) (by omega) (λs f h=>?_) (by simp;omega) (by simp;omega)) λr ⟨m,o,p,q⟩=>Ok.some ⟨m,λn=>?_,by simpa using p,q⟩;· obtain⟨t,_,rfl⟩:=By.1 f;exact Sy h
  ·rw[o,Aau,Od]
def rk(x:Int):Int:=(x/10000)*9999+x %10000-1
def ur(y:Int):Int:=(y/9999)*10000+y %9999+1
theorem Ig{x:Int}(h:x %10000≠0):ur (rk x)=x:=by unfold ur rk;omega
theorem U6:rk (ur y)=y:=by unfold ur rk;omega
theorem US{y:Int} :ur y %10000≠0:=by unfold ur;omega
theorem G7{x:Int}(a:x %10000≠0)(b:y %10000≠0):rk x<rk y↔x<y:=by unfold rk;omega
theorem kJ(x:Int):x=10000*Int.tdiv x 10000+Int.tmod x 10000/\(0<=x->0<=Int.tmod x 10000/\Int.tmod x 10000<10000)/\(x<=0->Int.tmod x 10000<=0/\ -10000<Int.tmod x 10000):=by
 have h:=Int.mul_tdiv_add_tmod x 10000;refine⟨h.symm,λk=>⟨Ahe _ k,Agl _ (by omega)⟩,λk=>?_⟩;have e:Int.tmod x 10000= -Int.tmod (-x) 10000:=by rw[Int.neg_tmod];omega
 have c:=Ahe 10000 (a:= -x) (by omega);have d:=Agl (-x) (b:=10000) (by omega);omega
theorem U_{x:Int}(h: -1000000000000001<=x/\x<=1000000000000001):KM fu x=Ac (rk x):=by
 rw[KM];have d:de fu x=Ac (x/10000):=by
  obtain⟨f,t2,t3⟩:=kJ x;have:Ok (de fu x) (λr=>r=x/10000):=by
   rw[de];refine Aby (Aaq (Aby (Aaq (Ok.ite (λc=>Aaq (Ok.some (by omega))) (λc=>Ok.some ?_)))));have c:¬Int.tmod x 10000<0:=c;refine Eq.trans (b:=Int.tdiv x 10000) ?_ (by omega);clear f t2 t3 c h;cases x with
   |ofNat a=>rfl
   |negSucc a=>
    show(Nat.rec (0:Int) (λn _=>Int.negSucc n) ((a+1)/10000):Int)= -(((a+1)/10000:Nat):Int);cases(a+1)/10000<;>rfl
  exact this.eq
 refine(IN d (Aaq (Aaq (Aaq (Aaq (Aaq (Ok.some (P:=λr=>r=rk x) ?_))))))).eq;unfold rk;omega
def NK(s:Sp):Int:=let a:=max (-1000000000000000) s.1;if a %10000=0 then a+1 else a
def MP(s:Sp):Int:=let a:=min 1000000000000000 s.2;if a %10000=0 then a-1 else a
theorem TV(s:Sp):NK s=if max (-1000000000000000) s.1 %10000=0 then max (-1000000000000000) s.1+1 else max (-1000000000000000) s.1:=rfl
theorem T2(s:Sp):MP s=if min 1000000000000000 s.2 %10000=0 then min 1000000000000000 s.2-1 else min 1000000000000000 s.2:=rfl
def QG(s:Sp):List Sp:=if NK s<=MP s then [(NK s,MP s)]else []
def GU(s:Sp):Sp:=(rk s.1,rk s.2)
def KQ(s:Sp):Sp:=(ur s.1,ur s.2)
def vT(s:Sp):Prop:=(NK s %10000≠0/\ -1000000000000000<=NK s)/\(MP s %10000≠0/\MP s<=1000000000000000)
theorem Jz(s:Sp):vT s:=by unfold vT NK MP;dsimp only;omega
theorem PC:AX ((l.flatMap QG).map GU) y↔AX l (ur y)/\ -1000000000000000<=ur y/\ur y<=1000000000000000:=by
 have g:= @US y;have key:∀s:Sp,(rk (NK s)<=y↔NK s<=ur y)/\(y<=rk (MP s)↔ur y<=MP s):=λs=>by obtain⟨⟨c,_⟩,d,_⟩:=Jz s;have a:=G7 g c;have b:=G7 d g;rw[U6]at a b;omega
 simp only[AX,By,Aac];constructor
 ·rintro⟨_,⟨t,⟨s,f,e⟩,rfl⟩,c,d⟩;unfold QG at e;split at e;· simp at e;subst e;have c:=(key s).1.1 c;have d:=(key s).2.1 d;rw[TV]at c;rw[T2]at d;exact⟨⟨s,f,by omega,by omega⟩,by omega,by omega⟩
  ·simp at e
 ·rintro⟨⟨s,f,c,d⟩,j,k⟩;have h:NK s<=ur y:=by rw[TV];omega
  have i:ur y<=MP s:=by rw[T2];omega
  exact⟨_,⟨(NK s,MP s),⟨s,f,by unfold QG;rw[if_pos (by omega)];simp⟩,rf⟩,(key s).1.2 h,(key s).2.2 i⟩
theorem I3{x:Int}(h:GK.Dn x):UC fu x=Ac (decide (x %10000=0)):=by obtain⟨a,t2,t3⟩:=kJ x;refine Ok.eq ?_;rw[UC];unfold GK.Dn at h;refine Aby (Aaq (Ok.some ?_));rw[decide_eq_decide];omega
theorem Jy(l:List Sp):(l.flatMap QG).length<=l.length:=by
 induction l with
 |nil=>simp
 |cons s l b=>
  have:(QG s).length<=1:=by unfold QG;split<;>simp
  simp only[Aem,Pd,Aav];omega
theorem R5(O:∀s∈x.2,D7 s)(V:x.2.length<1000000000)(L:x.2.length<fu):
  Ok (dc fu x) λr=>Nf r/\(∀y,AX r y↔AX x.2 (ur y)/\ -1000000000000000<=ur y/\ur y<=1000000000000000)/\r.length<=x.2.length/\∀s∈r,BO 1000000000000000 s:=by
 rw[dc];have A:=Eh;refine Ok.range (λk r=>r=((x.2.take k).flatMap QG).map GU) x.2.length (by simp) L ?_ ?_
 ·intro k r nx q h l;have v:=O _ (AN q);unfold D7 GK.Dn at v;have N:r.length<=k:=by rw[h,Aah];have:=Jy (x.2.take k);simp only[Aas]at this;omega
  refine Ok.iT (by show(k:Int)<x.2.length;omega) (Aal q ?_);have o:=Jz x.2[k];have B:(if x.2[k].1< -1000000000000000 then-1000000000000000 else x.2[k].1)=max (-1000000000000000) x.2[k].1:=by split<;>omega
  have C:(if 1000000000000000<x.2[k].2 then 1000000000000000 else x.2[k].2)=min 1000000000000000 x.2[k].2:=by split<;>omega
  have st:((x.2.take (k+1)).flatMap QG).map GU=r++(QG x.2[k]).map GU:=by rw[IT q,Acg,Aan,h];simp
  have S:NK x.2[k]=if max (-1000000000000000) x.2[k].1 %10000=0 then max (-1000000000000000) x.2[k].1+1 else max (-1000000000000000) x.2[k].1:=rfl;have T:MP x.2[k]=if min 1000000000000000 x.2[k].2 %10000=0 then min 1000000000000000 x.2[k].2-1 else min 1000000000000000 x.2[k].2:=rfl;have w:QG x.2[k]=if NK x.2[k]<=MP x.2[k]then [(NK x.2[k],MP x.2[k])]else []:=rfl;rw[w]at st;have no:¬NK x.2[k]<=MP x.2[k]->Ok (nx (r,k+1)) (λr=>Nf r/\(∀y,AX r y↔AX x.2 (ur y)/\ -1000000000000000<=ur y/\ur y<=1000000000000000)/\r.length<=x.2.length/\∀s∈r,BO 1000000000000000 s):=λc=>l r (by rw[st,if_neg c];simp);have yes:∀a b,a=NK x.2[k]->b=MP x.2[k]->a<=b->Ok (Ab (KM fu a) λQ=>Ab (KM fu b) λR=>Af (r.length+1<=Ag) (nx (r++[(Q,R)],k+1))) (λr=>Nf r/\(∀y,AX r y↔AX x.2 (ur y)/\ -1000000000000000<=ur y/\ur y<=1000000000000000)/\r.length<=x.2.length/\∀s∈r,BO 1000000000000000 s):=λa b J p K=>by unfold vT at o;refine IN (U_ (by omega)) (IN (U_ (by omega)) (Aby (l _ ?_)));rw[st,if_pos (by omega),J,p];rfl
  generalize NK x.2[k]=P at*;generalize MP x.2[k]=M at*;simp only[gt_iff_lt,B,C];generalize E:max (-1000000000000000) x.2[k].1=W at*;generalize D:min 1000000000000000 x.2[k].2=U at*;refine Aaq (Aaq (Ok.ite (λc=>no (by omega)) (λc=>IN (I3 (by unfold GK.Dn;omega)) (Ok.ite (λz=>Aaq (IN (I3 (by unfold GK.Dn;omega)) (Ok.ite (λm=>Aaq (Ok.ite (λf=>yes _ _ (by omega) (by omega) f) (λf=>no (by omega)))) (λm=>Ok.ite (λf=>yes _ _ (by omega) (by omega) f) (λf=>no (by omega)))))) (λz=>IN (I3 (by unfold GK.Dn;omega)) (Ok.ite (λm=>Aaq (Ok.ite (λf=>yes _ _ (by omega) (by omega) f) (λf=>no (by omega)))) (λm=>Ok.ite (λf=>yes _ _ (by omega) (by omega) f) (λf=>no (by omega)))))))))
 ·intro r nx h;refine Ok.iF (by show¬(x.2.length:Int)<x.2.length;omega) ?_;subst h;have N:=Jy x.2;rw[Aau];refine Ok.Ab (N_ (b:=1000000000000000) (by omega) (λs v h=>?_) (by simp only[Aah];omega) (by simp only[Aah];omega)) λr ⟨F,G,H,I⟩=>Ok.some ⟨F,λn=>?_,by simp only[Aah]at H;omega,I⟩
  ·obtain⟨t,j,rfl⟩:=By.1 v;obtain⟨u,_,j⟩:=Aac.1 j;have o:=Jz u;unfold QG at j;split at j;· simp at j;subst j;unfold vT at o;unfold BO GU rk;dsimp only;omega
   ·simp at j
  ·rw[G,PC]
theorem NX(h: -1000000000000001<=y/\y<=1000000000000001):c_ fu y=Ac (ur y):=by
 have t:y=9999*Int.tdiv y 9999+Int.tmod y 9999/\(0<=y->0<=Int.tmod y 9999/\Int.tmod y 9999<9999)/\(y<=0->Int.tmod y 9999<=0/\ -9999<Int.tmod y 9999):=by
  have h:=Int.mul_tdiv_add_tmod y 9999;refine⟨h.symm,λk=>⟨Ahe _ k,Agl _ (by omega)⟩,λk=>?_⟩;have e:Int.tmod y 9999= -Int.tmod (-y) 9999:=by rw[Int.neg_tmod];omega
  have d:=Ahe 9999 (a:= -y) (by omega);have f:=Agl (-y) (b:=9999) (by omega);omega
 obtain⟨g,t2,t3⟩:=t;refine Ok.eq ?_;rw[c_];unfold ur;refine Aby (Aaq (Aby (Aaq (Ok.ite (λc=>?_) (λc=>?_)))));· exact Aaq (Aaq (Aaq (Aaq (Aaq (Aaq (Ok.some (by omega)))))))
 ·exact Aaq (Aaq (Aaq (Aaq (Aaq (Ok.some (by omega))))))
theorem mD(i:∀s∈l,BO 1000000000000000 s)(m:l.length<1000000000)(g:l.length<fu):c8 fu (a,l)=Ac (a,l.map KQ):=by
 refine Ok.eq ?_;rw[c8];have f:=Eh;refine Ok.range (λk r=>r=(l.take k).map KQ) l.length (by simp) g ?_ ?_
 ·intro k r nx b h c;have j:=i _ (AN b);unfold BO at j;have d:r.length=k:=by rw[h];simp;omega
  refine Ok.iT (by show(k:Int)<l.length;omega) (Aal b (IN (NX (y:=l[k].1) (by omega)) (IN (NX (y:=l[k].2) (by omega)) (Aby (c _ ?_)))));rw[IT b,Aan,h];rfl
 ·intro r nx h;refine Ok.iF (by show¬(l.length:Int)<l.length;omega) (Ok.some ?_);subst h;simp
def A5(r:List Sp×List Sp)(n:Int):Prop:=AX r.1 n/\ -100000000000<=n/\n<=100000000000
def A3(r:List Sp×List Sp)(y:Int):Prop:=AX r.2 (ur y)/\ -1000000000000000<=ur y/\ur y<=1000000000000000
theorem MG(h1:∀s∈x.1,D7 s)(h2:∀s∈x.2,D7 s)(p:x.1.length<1000000000)(q:x.2.length<1000000000)(l:x.1.length<fu)(o:x.2.length<fu):
  Ok (QC fu x) λr=> ∃m,r.2=m.map KQ/\Nf r.1/\(∀s∈r.1,BO 100000000000 s)/\Nf m/\(∀s∈m,BO 1000000000000000 s)/\(∀n,AX r.1 n↔A5 x n)/\(∀y,AX m y↔A3 x y)/\r.1.length<=x.1.length/\m.length<=x.2.length:=by
 rw[QC];refine Ok.Ab (VI h1 p l) λa ⟨d,f,g,h⟩=>Ok.Ab (R5 h2 q o) λm ⟨i,j,k,c⟩=>?_;refine IN (mD c (by omega) (by omega)) (Ok.some ⟨m,rfl,d,h,i,c,f,j,g,k⟩)
def NJ(s:Sp):Prop:=s.1 %10000≠0/\s.2 %10000≠0
def KI(x:Int):Int:=if(x+1) %10000=0 then x+2 else x+1
theorem cm{x:Int}(a:x %10000≠0):KI x %10000≠0:=by unfold KI;omega
theorem Zc{x:Int}(h:x %10000≠0):rk (KI x)=rk x+1:=by unfold KI rk;omega
theorem oa{x:Int}(a:x %10000≠0)(b:y %10000≠0):rk (max x y)=max (rk x) (rk y):=by
 have:=G7 a b;have:=G7 b a;rcases Ajf x y with h|h;· rw[Int.max_eq_right h];omega
 ·rw[Int.max_eq_left h];omega
theorem Jo:∀(l out:List Sp),(∀s∈l,NJ s)->(∀s∈out,NJ s)->(Eg KI out l).map GU=Hf (out.map GU) (l.map GU)/\∀s∈Eg KI out l,NJ s
 | [],out,_,d=>⟨rfl,d⟩
 |s::l,out,g,d=>by
  have e:=g s (by simp);have b:∀s∈l,NJ s:=λt h=>g t (by simp[h]);rcases Afd out with rfl|⟨o,t,rfl⟩;· exact Jo l [s] b (by simpa using e)
  ·rw[List.concat_eq_append]at d⊢;have f:=d t (by simp);have i:=G7 (cm f.2) e.1;rw[Zc f.2]at i;unfold Eg Hf;simp only[Aap,Aan,Ada,List.getLast?_append,Ama,Option.some_or,List.dropLast_concat]
   by_cases c:s.1<=KI t.2;· rw[if_pos c,if_pos (show(GU s).1<=(GU t).2+1 by unfold GU;dsimp only;omega)];have:=Jo l (o++[(t.1,max t.2 s.2)]) b (λu a=>by
     rcases AT.1 a with a|a;· exact d u (by simp[a])
     ·simp at a;subst a;exact⟨f.1,by show max t.2 s.2 %10000≠0;have:=f.2;have:=e.2;omega⟩);simp only[Aan,Aap,Ada]at this;rw[show GU (t.1,max t.2 s.2)=((GU t).1,max (GU t).2 (GU s).2)from by unfold GU;dsimp only;rw[oa f.2 e.2]]at this;exact this
   ·rw[if_neg c,if_neg (show¬(GU s).1<=(GU t).2+1 by unfold GU;dsimp only;omega)];have:=Jo l (o++[t]++[s]) b (λu a=>by
     rcases AT.1 a with a|a;· exact d u a
     ·simp at a;subst a;exact e);simpa only[Aan,Aap,Ada]using this
theorem WD(h:∀s∈l,NJ s):(l.map GU).map KQ=l:=by rw[Aao];refine(Abt λs a=>?_).trans (Aga l);have:=h s a;show(ur (rk s.1),ur (rk s.2))=s;rw[Ig this.1,Ig this.2]
theorem R6(hi:∀s∈l,BO 1000000000000000 s)(j:∀s∈l,s.1<=s.2)(q:∀s∈l,NJ s)(h:l.length<=12)(p:20<fu):
  Ok (zE fu l) λr=> ∃m,r=m.map KQ/\Nf m/\∀y,AX m y↔AX (l.map GU) y:=by
 rw[zE];have c:=Eh;have e:List.take (min l.length (List.replicate l.length ((0:Int),(0:Int))).length) l++List.drop (min l.length (List.replicate l.length ((0:Int),(0:Int))).length) (List.replicate l.length ((0:Int),(0:Int)))=l:=by simp
 refine Aby (Ok.Af (by simp only[Acq];omega) ?_);rw[e];refine Ok.Ab (KS h p) λr ⟨i,u⟩=>?_;have D:=i.length_eq;show Ok (VE (λx=>nC fu x) fu r) _;refine(RT (g:=KI) (b:=1000000000000000) (by omega) (λx B C=>?_) (λs j=>hi s (i.mem_iff.1 j)) (by omega) (by omega)).mono λE e=>?_;· obtain⟨F,t2,t3⟩:=kJ (x+1);refine Ok.eq ?_;rw[nC];unfold KI;exact Aaq (Aby (Aaq (Ok.ite (λc=>Aaq (Ok.some (by rw[if_pos (by omega)]))) (λc=>Aaq (Ok.some (by rw[if_neg (by omega)]))))))
 ·subst e;have d:∀s∈r,NJ s:=λs h=>q s (i.mem_iff.1 h);obtain⟨v,w⟩:=Jo r [] d (by simp);obtain⟨z,A⟩:=EA (r.map GU) [] .nil (λs h=>by
   obtain⟨t,k,rfl⟩:=By.1 h;have a:=d t k;have b:=j t (i.mem_iff.1 k);have:=G7 a.2 a.1;show rk t.1<=rk t.2;omega) (by
   rw[Adv];refine u.imp_of_mem λ{a b} n o h=>?_;have:=G7 (d b o).1 (d a n).1;show rk a.1<=rk b.1;omega) (by simp);refine⟨Hf [] (r.map GU),?_,z,λy=>?_⟩;· have:=WD w;rw[v]at this;exact this.symm
  ·rw[A,<-Oe (i.map GU)];simp[@A8 y]
def Xj(s:Sp):List Sp:=if(CY 100000000000 s).1<=(CY 100000000000 s).2 then [CY 100000000000 s]else []
theorem Vr{n:Int} :AX (l.flatMap Xj) n↔AX l n/\ -100000000000<=n/\n<=100000000000:=by
 rw[<-Od];simp only[AX,Aac,By];constructor
 ·rintro⟨t,⟨s,d,a⟩,b,c⟩;unfold Xj at a;split at a;· simp at a;subst a;exact⟨_,⟨s,d,rfl⟩,b,c⟩
  ·simp at a
 ·rintro⟨_,⟨s,d,rfl⟩,b,c⟩;exact⟨_,⟨s,d,by unfold Xj;rw[if_pos (by omega)];simp⟩,b,c⟩
theorem PR(l:List Sp):(l.flatMap Xj).length<=l.length:=by
 induction l with
 |nil=>simp
 |cons s l b=>
  have:(Xj s).length<=1:=by unfold Xj;split<;>simp
  simp only[Aem,Pd,Aav];omega
theorem au:∀s∈l.flatMap Xj,s.1<=s.2/\BO 100000000000 s:=λs b=>by
 obtain⟨u,_,a⟩:=Aac.1 b;unfold Xj at a;split at a;· next c=>simp at a;subst a;exact⟨c,Sy c⟩
 ·simp at a
theorem T5:∀s∈l.flatMap QG,s.1<=s.2/\NJ s/\BO 1000000000000000 s:=λs d=>by
 obtain⟨u,_,a⟩:=Aac.1 d;have b:=Jz u;unfold vT at b;unfold QG at a;split at a;· next c=>simp at a;subst a;exact⟨c,⟨b.1.1,b.2.1⟩,by unfold BO;dsimp only;omega⟩
 ·simp at a
theorem RC(h1:∀s∈x.1,D7 s)(h2:∀s∈x.2,D7 s)(V:x.1.length<=12)(W:x.2.length<=12)(C:20<fu):
  Ok (UA fu x) λr=> ∃m,r.2=m.map KQ/\Nf r.1/\Nf m/\(∀n,AX r.1 n↔A5 x n)/\(∀y,AX m y↔A3 x y):=by
 rw[UA];have G:=Eh;refine Ok.range (λk r=>r=(x.1.take k).flatMap Xj) x.1.length (by simp) (by omega) ?_ ?_
 ·intro k r nx o h j;have v:=h1 _ (AN o);unfold D7 GK.Dn at v;have N:r.length<=k:=by rw[h];have:=PR (x.1.take k);simp only[Aas]at this;omega
  refine Ok.iT (by show(k:Int)<x.1.length;omega) (Aal o ?_);have q:(if x.1[k].1< -100000000000 then-100000000000 else x.1[k].1)=(CY 100000000000 x.1[k]).1:=by unfold CY;dsimp only;split<;>omega
  have t:(if 100000000000<x.1[k].2 then 100000000000 else x.1[k].2)=(CY 100000000000 x.1[k]).2:=by unfold CY;dsimp only;split<;>omega
  have st:(x.1.take (k+1)).flatMap Xj=r++Xj x.1[k]:=by rw[IT o,Acg,h];simp
  have l:Xj x.1[k]=if(CY 100000000000 x.1[k]).1<=(CY 100000000000 x.1[k]).2 then [CY 100000000000 x.1[k]]else []:=rfl;refine Aca (by dsimp only;split<;>omega) (Aca (by dsimp only;split<;>omega) ?_);dsimp only;rw[q,t];refine Ok.ite (λc=>Aby (j _ ?_)) (λc=>j _ ?_);· rw[st,l,if_pos c]
  ·rw[st,l,if_neg c];simp
 ·intro A nx w;refine Ok.iF (by show¬(x.1.length:Int)<x.1.length;omega) ?_;rw[Aau]at w;refine Ok.range (λk r=>r=(x.2.take k).flatMap QG) x.2.length (by simp) (by omega) ?_ ?_
  ·intro k r nx o h j;have v:=h2 _ (AN o);unfold D7 GK.Dn at v;have N:r.length<=k:=by rw[h];have:=Jy (x.2.take k);simp only[Aas]at this;omega
   refine Ok.iT (by show(k:Int)<x.2.length;omega) (Aal o ?_);have Z:=Jz x.2[k];have q:(if x.2[k].1< -1000000000000000 then-1000000000000000 else x.2[k].1)=max (-1000000000000000) x.2[k].1:=by split<;>omega
   have t:(if 1000000000000000<x.2[k].2 then 1000000000000000 else x.2[k].2)=min 1000000000000000 x.2[k].2:=by split<;>omega
   have st:(x.2.take (k+1)).flatMap QG=r++QG x.2[k]:=by rw[IT o,Acg,h];simp
   have X:=TV x.2[k];have Y:=T2 x.2[k];have l:QG x.2[k]=if NK x.2[k]<=MP x.2[k]then [(NK x.2[k],MP x.2[k])]else []:=rfl;rw[l]at st;have no:¬NK x.2[k]<=MP x.2[k]->Ok (nx (r,k+1)) (λr=> ∃m,r.2=m.map KQ/\Nf r.1/\Nf m/\(∀n,AX r.1 n↔A5 x n)/\(∀y,AX m y↔A3 x y)):=λc=>j r (by rw[st,if_neg c];simp);have yes:∀a b,a=NK x.2[k]->b=MP x.2[k]->a<=b->Ok (Af (r.length+1<=Ag) (nx (r++[(a,b)],k+1))) (λr=> ∃m,r.2=m.map KQ/\Nf r.1/\Nf m/\(∀n,AX r.1 n↔A5 x n)/\(∀y,AX m y↔A3 x y)):=λa b J u K=>by refine Aby (j _ ?_);rw[st,if_pos (by omega),J,u]
   generalize NK x.2[k]=R at*;generalize MP x.2[k]=M at*;simp only[gt_iff_lt,q,t];generalize I:max (-1000000000000000) x.2[k].1=Q at*;generalize H:min 1000000000000000 x.2[k].2=L at*;have t1:=kJ Q;have t2:=kJ L;refine Aaq (Aaq (Aby (Aaq (Ok.ite (λF=>Aaq (Aby (Aaq (Ok.ite (λp=>Aaq (Ok.ite (λi=>yes _ _ (by omega) (by omega) i) (λi=>no (by omega)))) (λp=>Ok.ite (λi=>yes _ _ (by omega) (by omega) i) (λi=>no (by omega))))))) (λF=>Aby (Aaq (Ok.ite (λp=>Aaq (Ok.ite (λi=>yes _ _ (by omega) (by omega) i) (λi=>no (by omega)))) (λp=>Ok.ite (λi=>yes _ _ (by omega) (by omega) i) (λi=>no (by omega))))))))))
  ·intro B nx z;refine Ok.iF (by show¬(x.2.length:Int)<x.2.length;omega) ?_;rw[Aau]at z;subst w z;have O:=PR x.1;have P:=Jy x.2;refine Ok.Ab (Q4 (b:=100000000000) (by omega) (λs h=>(au s h).2) (λs h=>(au s h).1) (Aar O V) C) λa ⟨D,E⟩=>?_;refine Ok.Ab (R6 (λs h=>(T5 s h).2.2) (λs h=>(T5 s h).1) (λs h=>(T5 s h).2.1) (Aar P W) C) λr ⟨m,S,T,U⟩=>?_;exact Ok.some ⟨m,S,D,T,λn=>by rw[E,Vr];rfl,λy=>by rw[U,PC];rfl⟩
theorem fJ(h1:∀s∈x.1,D7 s)(h2:∀s∈x.2,D7 s)(z:x.1.length<=12)(A:x.2.length<=12)(o:20<fu)(B:20<gu):
  Ok (QC gu x) λr=>UA fu x=Ac r/\∃m,r.2=m.map KQ/\Nf r.1/\(∀s∈r.1,BO 100000000000 s)/\Nf m/\(∀s∈m,BO 1000000000000000 s)/\(∀n,AX r.1 n↔A5 x n)/\(∀y,AX m y↔A3 x y)/\r.1.length<=x.1.length/\m.length<=x.2.length:=by
 obtain⟨r,e,m,h⟩:=MG (fu:=gu) h1 h2 (by omega) (by omega) (by omega) (by omega);refine⟨r,e,?_,m,h⟩;obtain⟨d,f,w,p,q,t,u,v⟩:=RC (fu:=fu) h1 h2 z A o;obtain⟨g,i,_,j,_,k,l,_⟩:=h;have a:d.1=r.1:=Nf.unique q i λn=>(u n).trans (k n).symm;have b:w=m:=Nf.unique t j λn=>(v n).trans (l n).symm;rw[f,show d=r from Acr a (by rw[p,g,b])]
def DY(r:List Sp×List Sp)(I F:Int->Prop):Prop:= ∃m,r.2=m.map KQ/\Nf r.1/\(∀s∈r.1,BO 100000000000 s)/\Nf m/\(∀s∈m,BO 1000000000000000 s)/\(∀n,AX r.1 n↔I n)/\(∀y,AX m y↔F y)
theorem DY.unique{s:List Sp×List Sp} :DY r I F->DY s I F->r=s:=by rintro⟨m,c,d,_,e,_,f,g⟩ ⟨k,h,i,_,j,_,l,o⟩;have a:r.1=s.1:=Nf.unique d i λn=>(f n).trans (l n).symm;have b:m=k:=Nf.unique e j λn=>(g n).trans (o n).symm;exact Acr a (by rw[c,h,b])
theorem Nf.ZU{r:List Sp}(h:Nf r)(D:∀n,AX r n↔AX l n):r.length<=l.length:=by
 have E:∀s∈r,∃t∈l,t.1<=s.1/\s.1<=t.2:=λs g=>by obtain⟨t,b,k,m⟩:=(D s.1).1 ⟨s,g,Abn _,h.ne s g⟩;exact⟨t,b,k,m⟩
 have key:∀(q:List Sp) (l:List Sp),q.Pairwise (λs t=>s.2+1<t.1)->(∀s∈q,s.1<=s.2)->(∀s∈q,∃t∈l,t.1<=s.1/\s.1<=t.2)->(∀s∈q,∀t∈l,t.1<=s.1->s.1<=t.2->t.2<=s.2)->q.length<=l.length:=by
  intro q;induction q with
  |nil=>intro l _ _ _ _;exact Abh _
  |cons s q I=>
   intro l G e c d;obtain⟨t,b,k,m⟩:=c s (Aaj ..);have J:=d s (Aaj ..) t b k m;have f:=Abk.1 G;have:=I (l.erase t) f.2 (λu a=>e u (Aag _ a)) (λu a=>by
    obtain⟨v,A,o,p⟩:=c u (Aag _ a);have H:=f.1 u a;have B:v≠t:=by rintro rfl;omega
    exact⟨v,(Ahk B).2 A,o,p⟩) (λu a v A o p=>d u (Aag _ a) v (List.mem_of_mem_erase A) o p);rw[Alw b]at this;have:=Aev b;rw[Aav];omega
 refine key r l h.ord h.ne E λs g t b k m=>?_;refine Ahb.1 λF=>?_;have e:=h.ne s g;obtain⟨u,a,o,p⟩:=(D (s.2+1)).2 ⟨t,b,by omega,by omega⟩;have z:u≠s:=by rintro rfl;omega
 obtain⟨i,C,rfl⟩:=Aat g;obtain⟨j,y,rfl⟩:=Aat a;have x:i≠j:=by rintro rfl;exact z rfl
 rcases Nat.lt_or_gt_of_ne x with w|w;· have:=Abd.1 h.ord i j C y w;omega
 ·have:=Abd.1 h.ord j i y C w;have:=h.ne _ (AN y);omega
theorem L9{b:List Sp}(g:a.length<fu):Ok (nB fu (a,b)) λr=>r=decide (a=b):=by
 rw[nB];refine Ok.ite (λc=>Ok.some ?_) (λc=>?_);· have c:(a.length:Int)≠b.length:=c;symm;rw[decide_eq_false_iff_not];rintro rfl;exact c rfl
 ·have c:¬(a.length:Int)≠b.length:=c;have i:a.length=b.length:=by omega
  refine Ok.count (λk=>a.take k=b.take k) a.length (by simp) g ?_ ?_
  ·intro k nx f h e;refine Ok.iu (Aal f (Aal (show k<b.length by omega) (Ok.bif (λd=>Ok.some ?_) (λd=>e ?_))));· symm;rw[decide_eq_false_iff_not];rintro rfl;simp at d
   ·have d:a[k]=b[k]:=by
     simp at d;exact Acr d.1 d.2
    rw[IT f,IT (show k<b.length by omega),h,d]
  ·intro nx h;refine Ok.io (Ok.some ?_);symm;rw[decide_eq_true_iff];rw[Aau,i,Aau]at h;exact h
theorem yX{b:List Sp}(c:a.length<fu):nB fu (a,b)=Ac (decide (a=b)):=(L9 c).eq
theorem eqR{b:List Sp}(c:a.length<fu):jf fu (a,b)=Ac (decide (a=b)):=(L9 c).eq
theorem uN{a b:List Sp×List Sp}(h1:a.1.length<fu)(h2:a.2.length<fu):zD fu (a,b)=Ac (decide (a=b)):=by
 refine(Ok.eq ?_);rw[zD];refine IN (yX h1) (Ok.ite (λc=>IN (yX h2) (Ok.some ?_)) (λc=>Ok.some ?_));· rw[decide_eq_decide,Ajd];exact⟨λh=>⟨c,h⟩,Afo⟩
 ·symm;rw[decide_eq_false_iff_not];rintro rfl;exact c rfl
theorem uM{a b:List Sp×List Sp}(h1:a.1.length<fu)(h2:a.2.length<fu):je fu (a,b)=Ac (decide (a=b)):=by
 refine(Ok.eq ?_);rw[je];refine IN (eqR h1) (Ok.ite (λc=>IN (eqR h2) (Ok.some ?_)) (λc=>Ok.some ?_));· rw[decide_eq_decide,Ajd];exact⟨λh=>⟨c,h⟩,Afo⟩
 ·symm;rw[decide_eq_false_iff_not];rintro rfl;exact c rfl
structure Lr(x:List Sp×List Sp):Prop where
 f1:∀s∈x.1,D7 s
 f2:∀s∈x.2,D7 s
 n1:x.1.length<=12
 n2:x.2.length<=12
theorem D5(h:Lr x)(q:20<fu):
  ∃r,UA fu x=Ac r/\DY r (A5 x) (A3 x)/\r.1.length<=x.1.length/\r.2.length<=x.2.length:=by
 obtain⟨r,e,m,p,k,o,i,j⟩:=RC (fu:=fu) h.f1 h.f2 h.n1 h.n2 q;refine⟨r,e,⟨m,p,k,λs f=>?_,o,λs f=>?_,i,j⟩,?_,?_⟩;· have g:=k.ne s f;have a:=((i s.1).1 ⟨s,f,Abn _,g⟩).2;have b:=((i s.2).1 ⟨s,f,g,Abn _⟩).2;unfold BO;omega
 ·have g:=o.ne s f;have a:=((j s.1).1 ⟨s,f,Abn _,g⟩).2;have b:=((j s.2).1 ⟨s,f,g,Abn _⟩).2;unfold ur at a b;unfold BO;omega
 ·exact Aar (k.ZU (l:=x.1.flatMap Xj) λn=>(i n).trans Vr.symm) (PR _)
 ·rw[p,Aah];refine Aar (o.ZU (l:=(x.2.flatMap QG).map GU) λn=>(j n).trans PC.symm) ?_;rw[Aah];exact Jy _
theorem Vs(h:Lr x)(o:20<fu)(p:20<gu):
  ∃r,QC gu x=Ac r/\UA fu x=Ac r/\DY r (A5 x) (A3 x)/\r.1.length<=x.1.length/\r.2.length<=x.2.length:=by
 obtain⟨r,e,c,m,b,d,f,g,i,j,k,l,n⟩:=fJ (fu:=fu) (gu:=gu) h.f1 h.f2 h.n1 h.n2 o p;exact⟨r,e,c,⟨m,b,d,f,g,i,j,k⟩,l,by rw[b,Aah];exact n⟩
theorem FO:∀(l:List Sp) (lo hi:Int),(DB lo hi l).length<=l.length+1
 | [],lo,hi=>by unfold DB;split<;>simp
 |s::l,lo,hi=>by have:=FO l (s.2+1) hi;unfold DB;split<;>simp<;>omega
theorem R2(p:b<=2000000000000000)(n:∀s∈l,BO b s)(r:l.length<1000000000)(q:l.length<fu):cW fu (l,lo,hi)=Ac (DB lo hi l):=by
 refine(Ok.eq ?_);rw[cW];have i:=Eh;generalize j:DB lo hi l=G;refine Ok.G8 (λ(s:List Sp×Int) k=>(s.1,s.2,k)) (λk s=>s.1.length<=k/\s.1++DB s.2 hi (l.drop k)=G) l.length ?_ ?_ fu 0 ([],lo) ⟨by simp,j⟩ (by omega) (by omega)
 ·rintro k ⟨out,d⟩ nx h ⟨g,a⟩ e;dsimp only at g a⊢;have m:l.drop k=l[k]::l.drop (k+1):=Aaw h;have o:=n l[k] (AN h);unfold BO at o;have eq:=a;rw[m]at eq;unfold DB at eq;refine Ok.iu (Aal h (Ok.ite (λc=>?_) (λc=>?_)));· have c:d<l[k].1:=c;rw[if_pos c]at eq;refine Aaq (Aby (Aaq (e (out++[(d,l[k].1-1)],l[k].2+1) ⟨by simp;omega,?_⟩)));rw[<-eq];simp
  ·have c:¬d<l[k].1:=c;rw[if_neg c]at eq;exact Aaq (e (out,l[k].2+1) ⟨by show out.length<=k+1;omega,eq⟩)
 ·rintro⟨out,d⟩ nx ⟨g,a⟩;dsimp only at g a⊢;rw[Afz]at a;unfold DB at a;refine Ok.io (Ok.ite (λc=>Aby (Ok.some ?_)) (λc=>Ok.some ?_));· have c:d<=hi:=c;rw[if_pos c]at a;exact a
  ·have c:¬d<=hi:=c;rw[if_neg c]at a;simpa using a
def NI(I:Int->Prop)(n:Int):Prop:=(-100000000000<=n/\n<=100000000000)/\¬I n
def Py(F:Int->Prop)(y:Int):Prop:=(-999900000000000<=y/\y<=999899999999999)/\¬F y
theorem PY:∀(l:List Sp),lo>= -b->hi<=b->Nf (DB lo hi l)->(∀n,AX (DB lo hi l) n->lo<=n/\n<=hi)->∀s∈DB lo hi l,BO b s:=λl f g e d s c=>by have h:=e.ne s c;have a:=d s.1 ⟨s,c,Abn _,h⟩;have b:=d s.2 ⟨s,c,h,Abn _⟩;unfold BO;omega
structure iK(x:List Sp×List Sp)(fu:Nat):Prop where
 f1:∀s∈x.1,D7 s
 f2:∀s∈x.2,D7 s
 n1:x.1.length<100000000/\x.1.length+2<fu
 n2:x.2.length<100000000/\x.2.length+2<fu
theorem Lr.lg(h:Lr x)(a:20<fu):iK x fu:=by have:=h.n1;have:=h.n2;exact⟨h.f1,h.f2,by omega,by omega⟩
theorem Jg(h:iK x fu):
  ∃r,QB fu x=Ac r/\DY r (NI (A5 x)) (Py (A3 x))/\r.1.length<=x.1.length+1/\r.2.length<=x.2.length+1:=by
 have F:=h.n1;have G:=h.n2;have:Ok (QB fu x) (λr=>DY r (NI (A5 x)) (Py (A3 x))/\r.1.length<=x.1.length+1/\r.2.length<=x.2.length+1):=by
  rw[QB];refine Ok.Ab (VI h.f1 (by omega) (by omega)) λa ⟨v,w,B,i⟩=>IN (R2 (b:=100000000000) (by omega) i (by omega) (by omega)) (Ok.Ab (R5 h.f2 (by omega) (by omega)) λm ⟨j,f,C,z⟩=>IN (R2 (b:=1000000000000000) (by omega) z (by omega) (by omega)) ?_);have A:∀s∈a, -100000000000<=s.1/\s.2<=100000000000:=λs d=>by have:=i s d;unfold BO at this;omega
  have kb:∀s∈m, -999900000000000<=s.1/\s.2<=999899999999999:=λs d=>by have h:=j.ne s d;have p:=((f s.1).1 ⟨s,d,Abn _,h⟩).2;have q:=((f s.2).1 ⟨s,d,h,Abn _⟩).2;unfold ur at p q;omega
  obtain⟨k,l⟩:=FN a (-100000000000) 100000000000 v A;obtain⟨o,t⟩:=FN m (-999900000000000) 999899999999999 j kb;have D:=FO a (-100000000000) 100000000000;have E:=FO m (-999900000000000) 999899999999999;have u:=PY (b:=1000000000000000) m (by omega) (by omega) o (λn g=>((t n).1 g).1);refine IN (mD u (by omega) (by omega)) (Ok.some ⟨⟨_,rfl,k,PY a (by omega) (by omega) k (λn g=>((l n).1 g).1),o,u,λn=>?_,λy=>?_⟩,by dsimp only;omega,by dsimp only;rw[Aah];omega⟩);· rw[l,w];rfl
  ·rw[t,f];rfl
 exact this
def FP(g p:Int->Int):Int->Int->List Sp->List Sp
 |b,a,[]=>if b<=a then [(b,a)]else []
 |b,a,s::l=>if b<=p s.1 then(b,p s.1)::FP g p (g s.2) a l else FP g p (g s.2) a l
theorem aC:∀(l:List Sp) (lo hi:Int),FP (· +1) (· -1) lo hi l=DB lo hi l
 | [],_,_=>rfl
 |s::l,lo,hi=>by
  unfold FP DB;rw[aC l];by_cases c:lo<s.1;· rw[if_pos c,if_pos (by omega)]
  ·rw[if_neg c,if_neg (by omega)]
def Qn(x:Int):Int:=if(x-1) %10000=0 then x-2 else x-1
theorem bV{x:Int}(a:x %10000≠0):Qn x %10000≠0:=by unfold Qn;omega
theorem Zb{x:Int}(h:x %10000≠0):rk (Qn x)=rk x-1:=by unfold Qn rk;omega
theorem VN:∀(l:List Sp) (lo hi:Int),lo %10000≠0->hi %10000≠0->(∀s∈l,NJ s)->(FP KI Qn lo hi l).map GU=DB (rk lo) (rk hi) (l.map GU)/\∀s∈FP KI Qn lo hi l,NJ s
 | [],lo,hi,b,d,_=>by
  have:=G7 d b;unfold FP DB;by_cases c:lo<=hi;· simp only[Ada];rw[if_pos c,if_pos (by omega)];exact⟨rfl,λs a=>by simp at a;subst a;exact⟨b,d⟩⟩
  ·simp only[Ada];rw[if_neg c,if_neg (by omega)];exact⟨rfl,λs a=>by cases a⟩
 |s::l,lo,hi,b,d,g=>by
  have a:=g s (by simp);obtain⟨f,i⟩:=VN l (KI s.2) hi (cm a.2) d λt h=>g t (by simp[h]);have:=G7 (bV a.1) b;rw[Zb a.1]at this;rw[Zc a.2]at f;unfold FP;simp only[Aap];unfold DB;by_cases c:lo<=Qn s.1
  ·rw[if_pos c,if_pos (show rk lo<(GU s).1 by show rk lo<rk s.1;omega)];refine⟨?_,λt e=>?_⟩;· rw[Aap,f];show(rk lo,rk (Qn s.1))::_=_;rw[Zb a.1];rfl
   ·rcases Aay.1 e with rfl|e;· exact⟨b,bV a.1⟩
    ·exact i t e
  ·rw[if_neg c,if_neg (show¬rk lo<(GU s).1 by show¬rk lo<rk s.1;omega)];exact⟨f,i⟩
theorem PW{nb na:Int->Option Int}{g p:Int->Int}{x0:Sp}{l:List Sp}(h1:∀s∈l,nb s.1=Ac (p s.1))(h2:∀s∈l,na s.2=Ac (g s.2)):∀(d fu k:Nat) (b:Int),k+d=l.length->d<fu->
  Ok (Ad fu (λ(e:Int×Nat) f=>
  bif decide ((↑e.2:Int)<(↑(List.length l):Int))then
   Ab (idx l (↑e.2:Int)) λi=>
   Ab (nb i.1) λm=>
   bif decide (e.1<=m)then
    Iu ((e.1,m)) (
     Ac (([],Br))) (
     Ab (na i.2) λt=>
     f ((t,e.2+1)))
   else
    Ab (na i.2) λu=>
    f ((u,e.2+1))
  else
   bif decide (e.1<=x0.2)then
    Iu ((e.1,x0.2)) (
     Ac (([],Br))) (
     Ac (([],Br)))
   else
    Ac (([],Br))) ((b,k))) λr=>r=(FP g p b x0.2 (l.drop k),Br)
 |_,0,_,_,_,o=>by omega
 |0,fu+1,k,b,q,_=>by
  rw[Ad];obtain rfl:k=l.length:=by omega
  rw[Afz];unfold FP;refine Ok.iF (by show¬(l.length:Int)<l.length;omega) (Ok.ite (λc=>Ok.some ?_) (λc=>Ok.some ?_));· have c:b<=x0.2:=c;rw[if_pos c]
  ·have c:¬b<=x0.2:=c;rw[if_neg c]
 |d+1,fu+1,k,b,q,o=>by
  rw[Ad];have a:k<l.length:=by omega
  rw[Aaw a];unfold FP;have n:=h1 _ (AN a);have j:=h2 _ (AN a);have h:=PW (x0:=x0) h1 h2 d fu (k+1) (g l[k].2) (by omega) (by omega);refine Ok.iT (by show(k:Int)<l.length;omega) (Aal a (IN n (Ok.ite (λc=>?_) (λc=>?_))));· have c:b<=p l[k].1:=c;rw[if_pos c];have h:=h.eq;refine⟨_,?_,rfl⟩;dsimp only;rw[j];show Iu _ _ (Ad fu _ (g l[k].2,k+1))=_;rw[h];rfl
  ·have c:¬b<=p l[k].1:=c;rw[if_neg c];exact IN j h
theorem Kz{x0:Sp}{b:List Sp} :∀(l o:List Sp),o.length+l.length<4294967296->E_ (λ(e:Int×Int) (c:List (Int×Int)) a=>Af (List.length c+1<=Ag)<|a ((c++[e]))) (λf=>ND Br<|some ((f,x0,b))) l o=Ac (o++l,x0,b)
 | [],o,_=>by simp[E_,ND]
 |y::l,o,h=>by have d:=Eh;simp only[Aav]at h;rw[E_,mX (show o.length+1<=Ag by omega)];rw[Kz l (o++[y]) (by simp;omega)];simp
theorem Jw(g p:Int->Int):∀(l:List Sp) (lo hi:Int),(FP g p lo hi l).length<=l.length+1
 | [],lo,hi=>by unfold FP;split<;>simp
 |s::l,lo,hi=>by have:=Jw g p l (g s.2) hi;unfold FP;split<;>simp<;>omega
theorem aB(b:∀s∈l,BO 100000000000 s)(f:l.length<1000000000)(e:l.length<fu):jX fu (x0,l)=Ac (DB x0.1 x0.2 l,x0,l):=by
 refine(Ok.eq ?_);rw[jX];have c:tc fu (x0,l)=Ac (DB x0.1 x0.2 l,Br):=by
  refine(Ok.eq ?_);have:=PW (nb:=λx=>jZ fu x) (na:=λx=>nD fu x) (g:=(· +1)) (p:=(· -1)) (x0:=x0) (l:=l) (λs a=>by
   refine(Ok.eq ?_);rw[jZ];have:=b s a;unfold BO at this;exact Aaq (Ok.some rf)) (λs a=>by
   refine(Ok.eq ?_);rw[nD];have:=b s a;unfold BO at this;exact Aaq (Ok.some rf)) l.length fu 0 x0.1 (by omega) e;rw[aC]at this;exact this
 have h:=FO l x0.1 x0.2;have d:jY fu (x0,l)=Ac (DB x0.1 x0.2 l,x0,l):=by refine(Ok.eq ?_);rw[jY];exact IN c ⟨_,(Kz _ [] (by simp;omega)),rf⟩
 exact IN d (Ok.some rf)
theorem aA(b:∀s∈l,BO 1000000000000000 s)(i:l.length<1000000000)(f:l.length<fu):jU fu (x0,l)=Ac (FP KI Qn x0.1 x0.2 l,x0,l):=by
 refine(Ok.eq ?_);rw[jU];have d:s_ fu (x0,l)=Ac (FP KI Qn x0.1 x0.2 l,Br):=by
  refine(Ok.eq ?_);exact PW (nb:=λx=>jW fu x) (na:=λx=>nC fu x) (g:=KI) (p:=Qn) (x0:=x0) (l:=l) (λs a=>by
   refine(Ok.eq ?_);rw[jW];unfold Qn;have:=b s a;unfold BO at this;obtain⟨h,t2,t3⟩:=kJ (s.1-1);exact Aaq (Aby (Aaq (Ok.ite (λc=>Aaq (Ok.some (by rw[if_pos (by omega)]))) (λc=>Aaq (Ok.some (by rw[if_neg (by omega)]))))))) (λs a=>by
   refine(Ok.eq ?_);rw[nC];unfold KI;have:=b s a;unfold BO at this;obtain⟨h,t2,t3⟩:=kJ (s.2+1);exact Aaq (Aby (Aaq (Ok.ite (λc=>Aaq (Ok.some (by rw[if_pos (by omega)]))) (λc=>Aaq (Ok.some (by rw[if_neg (by omega)]))))))) l.length fu 0 x0.1 (by omega) f
 have j:=Jw KI Qn l x0.1 x0.2;have e:jV fu (x0,l)=Ac (FP KI Qn x0.1 x0.2 l,x0,l):=by refine(Ok.eq ?_);rw[jV];exact IN d ⟨_,(Kz _ [] (by simp;omega)),rf⟩
 exact IN e (Ok.some rf)
theorem DY.congr{b a:Int->Prop}(h:DY r I F)(hi:∀n,I n↔b n)(k:∀y,F y↔a y):DY r b a:=by obtain⟨m,c,d,e,f,g,i,j⟩:=h;exact⟨m,c,d,e,f,g,λn=>(i n).trans (hi n),λy=>(j y).trans (k y)⟩
theorem ME(h:∀s∈l,NJ s) :AX l (ur y)↔AX (l.map GU) y:=by
 have d:= @US y;have key:∀s∈l,(s.1<=ur y/\ur y<=s.2)↔((GU s).1<=y/\y<=(GU s).2):=λs c=>by have a:=G7 d (h s c).1;have b:=G7 (h s c).2 d;rw[U6]at a b;show _↔(rk s.1<=y/\y<=rk s.2);omega
 simp only[AX,By];constructor;· rintro⟨s,c,k⟩;exact⟨_,⟨s,c,rfl⟩,(key s c).1 k⟩
 ·rintro⟨_,⟨s,c,rfl⟩,k⟩;exact⟨s,c,(key s c).2 k⟩
theorem FA:(m.map KQ).map GU=m:=by rw[Aao];refine(Abt λs _=>?_).trans (Aga m);show(rk (ur s.1),rk (ur s.2))=s;rw[U6,U6]
theorem J4:∀s∈m.map KQ,NJ s:=λs a=>by obtain⟨t,_,rfl⟩:=By.1 a;exact⟨US,US⟩
theorem Vj(h:Lr x)(Z:x.1.length<=11)(n2:x.2.length<=11)(B:20<fu):
  ∃r,dy fu x=Ac r/\DY r (NI (A5 x)) (Py (A3 x))/\r.1.length<=x.1.length+1/\r.2.length<=x.2.length+1:=by
 obtain⟨a,e,⟨m,g,D,w,z,V,E,i⟩,W,am⟩:=D5 h B;have Q:∀s∈a.1, -100000000000<=s.1/\s.2<=100000000000:=λs d=>by have:=w s d;unfold BO at this;omega
 have ends:∀s∈m,(-1000000000000000<=ur s.1/\ur s.1<=1000000000000000)/\(-1000000000000000<=ur s.2/\ur s.2<=1000000000000000):=λs d=>by have h:=z.ne s d;exact⟨((i s.1).1 ⟨s,d,Abn _,h⟩).2,((i s.2).1 ⟨s,d,h,Abn _⟩).2⟩
 have kb:∀s∈m, -999900000000000<=s.1/\s.2<=999899999999999:=λs d=>by have:=ends s d;unfold ur at this;omega
 have nm:∀s∈a.2,NJ s:=by rw[g];exact J4
 have P:∀s∈a.2,BO 1000000000000000 s:=λs d=>by rw[g]at d;obtain⟨t,N,rfl⟩:=By.1 d;have:=ends t N;unfold BO KQ;dsimp only;omega
 obtain⟨K,A⟩:=FN a.1 (-100000000000) 100000000000 D Q;obtain⟨O,l⟩:=FN m (-999900000000000) 999899999999999 z kb;have X:=FO a.1 (-100000000000) 100000000000;have Y:=Jw KI Qn a.2 (-999999999999999) 999999999999999;obtain⟨v,C⟩:=VN a.2 (-999999999999999) 999999999999999 (by omega) (by omega) nm;rw[g,FA,<-g,show rk (-999999999999999)= -999900000000000 from by decide,show rk 999999999999999=999899999999999 from by decide]at v;have L:=PY (b:=100000000000) a.1 (by omega) (by omega) K (λn M=>((A n).1 M).1);have R:∀y,AX (FP KI Qn (-999999999999999) 999999999999999 a.2) (ur y)↔Py (A3 x) y:=λy=>by rw[ME C,v,l,i];rfl
 have J:∀s∈FP KI Qn (-999999999999999) 999999999999999 a.2,BO 1000000000000000 s:=λs d=>by
  have f:GU s∈DB (-999900000000000) 999899999999999 m:=by rw[<-v];exact By.2 ⟨s,d,rfl⟩
  have h:=O.ne _ f;have p:=((l _).1 ⟨_,f,Abn _,h⟩).1;have q:=((l _).1 ⟨_,f,h,Abn _⟩).1;have n:=C s d;unfold GU rk at p q;unfold NJ at n;unfold BO;dsimp only at p q;omega
 have S:Lr (DB (-100000000000) 100000000000 a.1,FP KI Qn (-999999999999999) 999999999999999 a.2):=⟨λs d=>by
  have:=L s d;unfold BO at this;unfold D7 GK.Dn;omega,λs d=>by
  have:=J s d;unfold BO at this;unfold D7 GK.Dn;omega,by dsimp only;omega,by dsimp only;omega⟩;obtain⟨r,I,f,T,U⟩:=D5 S B;refine⟨r,?_,f.congr (λn=>?_) (λy=>?_),?_,?_⟩
 ·refine(Ok.eq ?_);rw[dy];have F:UG fu () =Ac ([((-100000000000:Int),(100000000000:Int))],[((-999999999999999:Int),(999999999999999:Int))]):=by
   refine(Ok.eq ?_);rw[UG];exact IN (rf) (Ok.some rf)
  have G:td fu (a.1,(-100000000000,100000000000))=Ac ((-100000000000,100000000000),a.1):=(rfl);have H:ta fu (a.2,(-999999999999999,999999999999999))=Ac ((-999999999999999,999999999999999),a.2):=(rfl);have o:a.1.length<1000000000:=by omega
  have u:a.2.length<1000000000:=by omega
  have j:a.1.length<fu:=by omega
  have k:a.2.length<fu:=by omega
  refine IN e (IN F (IN (show idx _ _=Ac (-100000000000,100000000000)from rfl) (IN G (IN (aB w o j) (IN (show idx _ _=Ac (-999999999999999,999999999999999)from rfl) (IN H (IN (aA P u k) (IN I (Ok.some rf)))))))))
 ·show(AX (DB (-100000000000) 100000000000 a.1) n/\ -100000000000<=n/\n<=100000000000)↔_;rw[A,E];unfold NI;exact⟨Ajh,λh=>⟨h,h.1⟩⟩
 ·show(AX _ (ur y)/\ -1000000000000000<=ur y/\ur y<=1000000000000000)↔_;rw[R];exact⟨Ajh,λh=>⟨h,by have:=h.1;unfold ur;omega⟩⟩
 ·dsimp only at T;have:=FO a.1 (-100000000000) 100000000000;omega
 ·dsimp only at U;have:=Jw KI Qn a.2 (-999999999999999) 999999999999999;omega
theorem fw(h:Lr x)(j:x.1.length<=11)(k:x.2.length<=11)(g:20<fu)(i:20<gu):
  ∃r,QB gu x=Ac r/\dy fu x=Ac r/\DY r (NI (A5 x)) (Py (A3 x))/\r.1.length<=x.1.length+1/\r.2.length<=x.2.length+1:=by
 obtain⟨r,e,b,d⟩:=Jg (fu:=gu) (h.lg i);obtain⟨s,c,f,_⟩:=Vj (fu:=fu) h j k g;exact⟨r,e,by rw[c,f.unique b],b,d⟩
theorem DY.lg(h:DY r I F)(g:r.1.length<100000000/\r.1.length+2<fu)(i:r.2.length<100000000/\r.2.length+2<fu):iK r fu:=by
 obtain⟨m,c,j,d,k,e,_,_⟩:=h;refine⟨λs b=>?_,λs b=>?_,g,i⟩;· have:=d s b;unfold BO at this;unfold D7 GK.Dn;omega
 ·rw[c]at b;obtain⟨t,f,rfl⟩:=By.1 b;have:=e t f;unfold BO at this;unfold D7 GK.Dn KQ ur;dsimp only;omega
theorem DY.A5(h:DY r I F)(n:Int):A5 r n↔I n/\ -100000000000<=n/\n<=100000000000:=by obtain⟨m,b,c,d,e,f,a,_⟩:=h;unfold GL.A5;rw[a]
theorem DY.A3(h:DY r I F)(y:Int):A3 r y↔F y/\ -1000000000000000<=ur y/\ur y<=1000000000000000:=by
 obtain⟨m,a,c,d,f,g,i,b⟩:=h;have e:m=r.2.map GU:=by rw[a,FA]
 have nm:∀s∈r.2,NJ s:=by rw[a];exact J4
 unfold GL.A3;rw[ME nm,<-e,b]
theorem Jt(h:A3 x y): -999900000000000<=y/\y<=999899999999999:=by have:=h.2;unfold ur at this;omega
theorem Zn{y:List Sp×List Sp}(b:iK x fu)(c:iK y fu)(z:x.1.length+y.1.length<fu/\x.2.length+y.2.length<fu):
  ∃r,cV fu (x,y)=Ac r/\DY r (λn=>A5 x n\/A5 y n) (λn=>A3 x n\/A3 y n)/\r.1.length<=x.1.length+y.1.length/\r.2.length<=x.2.length+y.2.length:=by
 have t:=b.n1;have u:=b.n2;have v:=c.n1;have w:=c.n2;have g:=Eh;obtain⟨r,e,m,f,h,i,j,k,l,o,p,q⟩:=MG (fu:=fu) (x:=(x.1++y.1,x.2++y.2)) (λs d=>(AT.1 d).elim (b.f1 s) (c.f1 s)) (λs d=>(AT.1 d).elim (b.f2 s) (c.f2 s)) (by simp;omega) (by simp;omega) (by simp;omega) (by simp;omega);refine⟨r,?_,⟨m,f,h,i,j,k,λn=>?_,λn=>?_⟩,by simpa using p,by rw[f];simpa using q⟩;· refine(Ok.eq ?_);rw[cV];exact Aby (Ok.Af (by simp;omega) (Aby (Ok.Af (by simp;omega) (IN e (Ok.some rfl)))))
 ·rw[l];unfold A5;dsimp only;rw[CS,or_and_right]
 ·rw[o];unfold A3;dsimp only;rw[CS,or_and_right]
theorem iD{y:List Sp×List Sp}(m:iK x fu)(s:iK y fu)(t:x.1.length+y.1.length+5<fu/\x.2.length+y.2.length+5<fu)(v:x.1.length+y.1.length+5<100000000/\x.2.length+y.2.length+5<100000000):
  ∃r,iZ fu (x,y)=Ac r/\DY r (λn=>A5 x n/\A5 y n) (λn=>A3 x n/\A3 y n)/\r.1.length<=x.1.length+y.1.length+3/\r.2.length<=x.2.length+y.2.length+3:=by
 obtain⟨p,i,f,A,B⟩:=Jg m;obtain⟨q,eq,g,C,D⟩:=Jg s;obtain⟨o,h,e,w,z⟩:=Zn (fu:=fu) (f.lg (by omega) (by omega)) (g.lg (by omega) (by omega)) (by omega);obtain⟨r,j,l,E,F⟩:=Jg (fu:=fu) (e.lg (by omega) (by omega));refine⟨r,?_,l.congr (λn=>?_) (λn=>?_),by omega,by omega⟩;· refine(Ok.eq ?_);rw[iZ];exact IN i (IN eq (IN h (IN j (Ok.some rfl))))
 ·unfold NI;rw[e.A5,f.A5,g.A5];unfold NI;constructor
  ·rintro⟨a,b⟩;constructor;· exact GB λc=>b ⟨.inl ⟨⟨a,c⟩,a⟩,a⟩
   ·exact GB λc=>b ⟨.inr ⟨⟨a,c⟩,a⟩,a⟩
  ·rintro⟨a,b⟩;exact⟨a.2,λ⟨k,_⟩=>k.elim (λk=>k.1.2 a) (λk=>k.1.2 b)⟩
 ·unfold Py;rw[e.A3,f.A3,g.A3];constructor
  ·rintro⟨a,b⟩;have u: -1000000000000000<=ur n/\ur n<=1000000000000000:=by unfold ur;omega
   constructor;· exact GB λc=>b ⟨.inl ⟨⟨a,c⟩,u⟩,u⟩
   ·exact GB λc=>b ⟨.inr ⟨⟨a,c⟩,u⟩,u⟩
  ·rintro⟨a,b⟩;exact⟨Jt a,λ⟨k,_⟩=>k.elim (λk=>k.1.2 a) (λk=>k.1.2 b)⟩
theorem W_{y:List Sp×List Sp}(e:iK x fu)(f:iK y fu)(g:x.1.length+y.1.length+8<fu/\x.2.length+y.2.length+8<fu)(i:x.1.length+y.1.length+8<100000000/\x.2.length+y.2.length+8<100000000):
  ∃r,X4 fu (x,y)=Ac r/\DY r (λn=>A5 x n/\¬A5 y n) (λn=>A3 x n/\¬A3 y n)/\r.1.length<=x.1.length+y.1.length+4/\r.2.length<=x.2.length+y.2.length+4:=by
 obtain⟨q,eq,b,j,k⟩:=Jg f;obtain⟨r,c,d,l,m⟩:=iD (fu:=fu) e (b.lg (by omega) (by omega)) (by omega) (by omega);refine⟨r,?_,d.congr (λn=>?_) (λn=>?_),by omega,by omega⟩;· refine(Ok.eq ?_);rw[X4];exact IN eq (IN c (Ok.some rfl))
 ·rw[b.A5];unfold NI;exact⟨λh=>⟨h.1,h.2.1.2⟩,λh=>⟨h.1,⟨h.1.2,h.2⟩,h.1.2⟩⟩
 ·rw[b.A3];unfold Py;exact⟨λh=>⟨h.1,h.2.1.2⟩,λh=>⟨h.1,⟨Jt h.1,h.2⟩,h.1.2⟩⟩
def C8(x y:Sp):Option Sp:=if max x.1 y.1<=min x.2 y.2 then Ac (max x.1 y.1,min x.2 y.2)else C7
theorem FW{x:Sp}{b:List Sp} :Em (x::a) b=b.filterMap (C8 x)++Em a b:=rfl
theorem Il(s:Sp):∀b:List Sp,Nf b->(b.filterMap (C8 s)).length+(b.filter λy=>decide (s.2<y.2)).length<=b.length+1
 | [],_=>by simp
 |y::b,h=>by
  by_cases c:s.2<y.2
  ·have e:b.filterMap (C8 s)=[]:=List.filterMap_eq_nil_iff.2 λz d=>by
    have:=(Abk.1 h.ord).1 z d;unfold C8;rw[if_neg (by omega)]
   have l:=Ahg (λy:Sp=>decide (s.2<y.2)) b;rw[Adj,e,Amc (by simpa using c)];cases C8 s y<;>simp<;>omega
  ·have f:=Il s b h.tail;rw[Adj,Amd (by simpa using c)];cases C8 s y<;>simp<;>omega
theorem K0{t:Int}{x:Sp}(h:t<x.1):∀b:List Sp,(b.filter λy=>decide (t<y.2)).filterMap (C8 x)=b.filterMap (C8 x)
 | []=>rfl
 |y::b=>by
  have d:=K0 h b;by_cases c:t<y.2;· rw[Amc (by simpa using c),Adj,Adj,d]
  ·rw[Amd (by simpa using c),d,Adj];have:C8 x y=C7:=by unfold C8;rw[if_neg (by omega)]
   rw[this]
theorem K7{t:Int} :∀ {a:List Sp},(∀x∈a,t<x.1)->∀b:List Sp,Em a (b.filter λy=>decide (t<y.2))=Em a b
 | [],_,_=>rfl
 |x::a,h,b=>by rw[FW,FW,K7 (λy c=>h y (by simp[c])),K0 (h x (by simp))]
theorem M1:∀(a b:List Sp),Nf a->Nf b->(Em a b).length<=a.length+b.length
 | [],b,_,_=>by simp[Em]
 |s::a,b,f,d=>by have i:=Il s b d;have g:Nf (b.filter λy=>decide (s.2<y.2)):=⟨λx e=>d.ne x (Aax.1 e).1,d.ord.sublist Acv⟩;have h:=M1 a _ f.tail g;rw[K7 (λx e=>by have:=(Abk.1 f.ord).1 x e;omega)]at h;rw[FW,Pd,Aav];omega
theorem Hq(x:Sp)(b:List Sp):(b.filterMap (C8 x)).length<=b.length:=List.length_filterMap_le ..
theorem gW{b:List Sp}(hc:c<=2000000000000000)(y:∀s∈a,BO c s)(z:∀s∈b,BO c s)(n:a.length<=1000/\b.length<=1000)(u:a.length<fu/\b.length<fu):
  Ok (Yb fu (a,b)) λr=>r=Em a b:=by
 rw[Yb];have v:=Eh;refine Ok.range (λk r=>r=Em (a.take k) b/\r.length<=k*1000) a.length ⟨by simp[Em],by simp⟩ u.1 ?_ ?_
 ·intro k r nx o ⟨h,C⟩ p;have A:=y _ (AN o);unfold BO at A;have st:Em (a.take (k+1)) b=r++b.filterMap (C8 a[k]):=by
   rw[IT o,h];unfold Em;rw[Acg];simp;rfl
  refine Ok.iT (by show(k:Int)<a.length;omega) (Aal o ?_);refine Ok.range (λj q=>q=r++(b.take j).filterMap (C8 a[k])) b.length (by simp) u.2 ?_ ?_
  ·intro j q t m g f;have B:=z _ (AN m);unfold BO at B;have D:q.length<=k*1000+1000:=by
    rw[g,Pd];have:=Hq a[k] (b.take j);rw[Aas]at this;omega
   have w:(if a[k].1<b[j].1 then b[j].1 else a[k].1)=max a[k].1 b[j].1:=by split<;>omega
   have x:(if b[j].2<a[k].2 then b[j].2 else a[k].2)=min a[k].2 b[j].2:=by split<;>omega
   have i:(b.take (j+1)).filterMap (C8 a[k])=(b.take j).filterMap (C8 a[k])++(C8 a[k] b[j]).toList:=by rw[IT m,List.filterMap_append,Adj];cases C8 a[k] b[j]<;>rfl
   refine Ok.iT (by show(j:Int)<b.length;omega) (Aal m (Aca (by dsimp only;split<;>omega) (Aca (by dsimp only;split<;>omega) ?_)));dsimp only;rw[w,x];refine Ok.ite (λd=>Aby (f _ ?_)) (λd=>f _ ?_);· rw[i,g];unfold C8;rw[if_pos d];simp
   ·rw[i,g];unfold C8;rw[if_neg d];simp
  ·intro q t g;refine Ok.iF (by show¬(b.length:Int)<b.length;omega) (p q ⟨?_,?_⟩);· rw[g,st,Aau]
   ·rw[g,Pd];have:=Hq a[k] (b.take b.length);rw[Aas]at this;omega
 ·intro r nx ⟨h,_⟩;refine Ok.iF (by show¬(a.length:Int)<a.length;omega) (Ok.some ?_);rw[h,Aau]
theorem bo{b:List Sp}(hc:c<=2000000000000000)(d:∀s∈a,BO c s)(e:∀s∈b,BO c s)(n:a.length<=1000/\b.length<=1000)(f:a.length<fu/\b.length<fu):Yb fu (a,b)=Ac (Em a b):=(gW hc d e n f).eq
theorem bn{b:List Sp}(e:∀s∈a,BO c s)(f:∀s∈b,BO c s):∀s∈Em a b,s.1<=s.2/\BO c s:=λs g=>by
 obtain⟨x,i,h⟩:=Aac.1 g;obtain⟨y,j,h⟩:=Aeu.1 h;have p:=e x i;have q:=f y j;unfold BO at p q;split at h;· next d=>injection h with h;subst h;refine⟨d,?_⟩;unfold BO;dsimp only;omega
 ·cases h
theorem gV{b:List Sp} :Em (a.map KQ) (b.map KQ)=(Em a b).map KQ:=by
 have mono:∀x y:Int,ur x<=ur y↔x<=y:=λx y=>by unfold ur;omega
 have f:∀x y:Int,max (ur x) (ur y)=ur (max x y):=λx y=>by have:=mono x y;have:=mono y x;rcases Ajf x y with h|h<;>simp[Int.max_eq_right,Int.max_eq_left,h]<;>omega
 have e:∀x y:Int,min (ur x) (ur y)=ur (min x y):=λx y=>by have:=mono x y;have:=mono y x;rcases Ajf x y with h|h<;>simp[Int.min_eq_right,Int.min_eq_left,h]<;>omega
 have one:∀x y:Sp,C8 (KQ x) (KQ y)=(C8 x y).map KQ:=λx y=>by
  unfold C8 KQ;dsimp only;rw[f,e];by_cases c:max x.1 y.1<=min x.2 y.2;· rw[if_pos c,if_pos ((mono _ _).2 c)];rfl
  ·rw[if_neg c,if_neg (λh=>c ((mono _ _).1 h))];rfl
 induction a with
 |nil=>rfl
 |cons x a d=>
  rw[Aap,FW,FW,d,Aan];congr 1;rw[List.filterMap_map,List.map_filterMap];congr 1;funext y;exact one x y
theorem Wl{y:List Sp×List Sp}(o:Lr x)(u:Lr y)(n:x.1.length+y.1.length<=12/\x.2.length+y.2.length<=12)(j:20<fu):
  ∃r,jT fu (x,y)=Ac r/\DY r (λn=>A5 x n/\A5 y n) (λn=>A3 x n/\A3 y n)/\r.1.length<=x.1.length+y.1.length/\r.2.length<=x.2.length+y.2.length:=by
 obtain⟨a,T,H,al,N⟩:=D5 o j;obtain⟨b,U,I,bl,Q⟩:=D5 u j;have Y:=H;have Z:=I;obtain⟨m,f,L,A,B,a5,M,C⟩:=H;obtain⟨k,g,O,D,E,b5,P,F⟩:=I;have J:∀(m:List Sp) (z:List Sp×List Sp),Nf m->(∀y,AX m y↔A3 z y)->∀s∈m.map KQ,BO 1000000000000000 s:=λm z W G s e=>by obtain⟨t,l,rfl⟩:=By.1 e;have h:=W.ne t l;have p:=((G t.1).1 ⟨t,l,Abn _,h⟩).2;have q:=((G t.2).1 ⟨t,l,h,Abn _⟩).2;unfold BO KQ;dsimp only;omega
 have v:=J m x B C;have w:=J k y E F;rw[<-f]at v;rw[<-g]at w;have n1:=o.n1;have n2:=o.n2;have n3:=u.n1;have n4:=u.n2;have R:=bo (fu:=fu) (c:=100000000000) (by omega) A D (by omega) (by omega);have S:=bo (fu:=fu) (c:=1000000000000000) (by omega) v w (by omega) (by omega);have l1:=M1 a.1 b.1 L O;have l2:=M1 m k B E;have i:Em a.2 b.2=(Em m k).map KQ:=by rw[f,g,gV]
 have lm:m.length=a.2.length:=by rw[f,Aah]
 have lk:k.length=b.2.length:=by rw[g,Aah]
 have i1:=bn A D;have i2:=bn v w;have sm:Lr (Em a.1 b.1,Em a.2 b.2):=⟨λs e=>by
  have:=(i1 s e).2;unfold BO at this;unfold D7 GK.Dn;omega,λs e=>by
  have:=(i2 s e).2;unfold BO at this;unfold D7 GK.Dn;omega,by dsimp only;omega,by dsimp only;rw[i,Aah];omega⟩;obtain⟨r,V,X,z1,K⟩:=D5 sm j;dsimp only at z1 K;rw[i,Aah]at K;refine⟨r,?_,X.congr (λn=>?_) (λz=>?_),by omega,by omega⟩;· refine(Ok.eq ?_);rw[jT];exact IN T (IN U (IN R (IN S (IN V (Ok.some rfl)))))
 ·show(AX (Em a.1 b.1) n/\ -100000000000<=n/\n<=100000000000)↔_;rw[So,M,P];exact⟨Ajh,λh=>⟨h,h.1.2⟩⟩
 ·show(AX (Em a.2 b.2) (ur z)/\ -1000000000000000<=ur z/\ur z<=1000000000000000)↔_;have:AX (Em a.2 b.2) (ur z)↔A3 x z/\A3 y z:=by
   rw[i,ME J4,FA,So,C,F]
  rw[this];exact⟨Ajh,λh=>⟨h,h.1.2⟩⟩
theorem DY.sm(h:DY r I F)(b:r.1.length<=12)(c:r.2.length<=12):Lr r:=by have:=h.lg (fu:=100) (by omega) (by omega);exact⟨this.f1,this.f2,b,c⟩
theorem HQ{y:List Sp×List Sp}(g:Lr x)(i:Lr y)(n:x.1.length+y.1.length<=11/\x.2.length+y.2.length<=11)(c:20<fu)(p:25<gu):
  ∃r,X4 gu (x,y)=Ac r/\S3 fu (x,y)=Ac r/\DY r (λn=>A5 x n/\¬A5 y n) (λn=>A3 x n/\¬A3 y n)/\r.1.length<=x.1.length+y.1.length+1/\r.2.length<=x.2.length+y.2.length+1:=by
 obtain⟨r,e,f,o⟩:=W_ (fu:=gu) (g.lg (by omega)) (i.lg (by omega)) (by omega) (by omega);obtain⟨q,eq,b,d,t,u⟩:=fw (fu:=fu) (gu:=fu) i (by omega) (by omega) c c;obtain⟨s,j,l,v,w⟩:=Wl (fu:=fu) g (d.sm (by omega) (by omega)) (by omega) c;have m:DY s (λn=>A5 x n/\¬A5 y n) (λn=>A3 x n/\¬A3 y n):=by
  refine l.congr (λn=>?_) (λn=>?_);· rw[d.A5];unfold NI;exact⟨λh=>⟨h.1,h.2.1.2⟩,λh=>⟨h.1,⟨h.1.2,h.2⟩,h.1.2⟩⟩
  ·rw[d.A3];unfold Py;exact⟨λh=>⟨h.1,h.2.1.2⟩,λh=>⟨h.1,⟨Jt h.1,h.2⟩,h.1.2⟩⟩
 have k:=m.unique f;subst k;refine⟨s,e,?_,f,by omega,by omega⟩;refine(Ok.eq ?_);rw[S3];exact IN b (IN j (Ok.some rfl))
theorem gz(h:n<4294967296):zw fu n=Ac []:=by refine(Ok.eq ?_);rw[zw];have a:=Eh;refine Ok.io (Aaq (Aaq (Ok.ite (λc=>Ok.Af (by omega) ?_) (λ_=>Ok.some rfl))));obtain⟨k,b⟩:∃k,Int.toNat ((n:Int)-((0:Int)-(0:Int)))=k+1:=⟨n-1,by omega⟩;rw[b];simp only[fC];exact Aby (Ok.Af ⟨by omega,by omega⟩ (Ok.some rfl))
theorem OQ{L:List (List Sp)}(h:L.flatten.length<1000000000)(g:L.length<fu):rT fu L=Ac L.flatten:=by
 refine(Ok.eq ?_);rw[rT];have j:=Eh;have i (k:Nat) (b:k<L.length):(L.take (k+1)).flatten=(L.take k).flatten++L[k]:=by rw[IT b,Age];simp
 have le (k:Nat):(L.take k).flatten.length<=L.flatten.length:=by have:=congrArg List.length (congrArg List.flatten (Ace k L));rw[Age,Pd]at this;omega
 refine Ok.range (λk (s:Int)=>s=((L.take k).flatten.length:Nat)) L.length (by simp) g ?_ ?_;· intro k s nx b e c;have t:=i k b;have l:=le (k+1);rw[t,Pd]at l;refine Ok.iT (by show(k:Int)<L.length;omega) (Aal b ?_);dsimp only;refine Aaq (Ok.io (c _ ?_));rw[t,Pd,e];omega
 ·intro s nx e;refine Ok.iF (by show¬(L.length:Int)<L.length;omega) ?_;rw[Aau]at e;dsimp only;rw[e];refine IN (gz (by omega)) ?_;refine Ok.range (λk out=>out=(L.take k).flatten) L.length (by simp) g ?_ ?_
  ·intro k out nx b d c;have t:=i k b;have l:=le (k+1);rw[t,Pd]at l;have m:out.length+L[k].length<=Ag:=by rw[d];omega
   refine Ok.iT (by show(k:Int)<L.length;omega) (Aal b (Ok.Af m (c _ ?_)));rw[t,d]
  ·intro out nx d;refine Ok.iF (by show¬(L.length:Int)<L.length;omega) (Ok.some ?_);rw[d,Aau]
def ab(x:Int):Int:=max (0-x) x
def BX(x y:Int):Prop:=ab x<ab y\/(ab x=ab y/\y<x)
instance(x y:Int):Decidable (BX x y):=inferInstanceAs (Decidable (_\/_))
theorem Vo{x:Int}(g: -2000000000000000<=x/\x<=2000000000000000)(i: -2000000000000000<=y/\y<=2000000000000000):Ok (UL fu (x,y)) λr=>r=decide (BX x y):=by
 rw[UL];have a:(if(0:Int)-x>x then(0:Int)-x else x)=ab x:=by unfold ab;split<;>omega
 have b:(if(0:Int)-y>y then(0:Int)-y else y)=ab y:=by unfold ab;split<;>omega
 rw[a,b];have e:0<=ab x/\ab x<=2000000000000000:=by unfold ab;omega
 have f:0<=ab y/\ab y<=2000000000000000:=by unfold ab;omega
 refine Aaq (Aaq (Aaq (Aaq (Ok.ite (λc=>Ok.some ?_) (λc=>Ok.ite (λd=>Ok.some ?_) (λd=>Ok.some ?_))))));· symm;rw[decide_eq_true_iff];exact .inl c
 ·rw[decide_eq_decide];unfold BX;have d:ab x=ab y:=d;exact⟨λh=> .inr ⟨d,h⟩,λh=>h.elim (λk=>absurd k c) Afo⟩
 ·symm;rw[decide_eq_false_iff_not];unfold BX;exact λh=>h.elim c λk=>d k.1
theorem Vp{x:Int}(a: -2000000000000000<=x/\x<=2000000000000000)(b: -2000000000000000<=y/\y<=2000000000000000):UL fu (x,y)=Ac (decide (BX x y)):=(Vo a b).eq
theorem vj{x:Int}(a: -2000000000000000<=x/\x<=2000000000000000)(b: -2000000000000000<=y/\y<=2000000000000000):rZ fu (x,y)=Ac (decide (BX x y)):=(Vo (fu:=fu) a b).eq
theorem MA{x:Int}(h:¬BX x y)(k:¬BX y x):x=y:=by unfold BX ab at*;omega
theorem MB{x:Int} :¬BX x x:=by unfold BX ab;omega
theorem Jh{x z:Int}(h:¬BX x y)(k:¬BX y z):¬BX x z:=by unfold BX ab at*;omega
def CB(o:Bool×Int)(c:Int):Bool×Int:=if !o.1||decide (BX c o.2)then(Br,c)else o
theorem Wh{b:Bool}(hc: -2000000000000000<=c/\c<=2000000000000000)(a: -2000000000000000<=v/\v<=2000000000000000):dE fu (c,b,v)=Ac (CB (b,v) c):=by
 refine(Ok.eq ?_);rw[dE];unfold CB;cases b with
 |false=>exact Ok.T rfl (Ok.some rfl)
 |true=>
  refine Ok.F rf (IN (Vp hc a) (Ok.ite (λd=>Ok.some ?_) (λd=>Ok.some ?_)));· have d:BX c v:=d;simp[d]
  ·have d:¬BX c v:=d;simp[d]
theorem OX:∀(l:List Int) (o:Bool×Int),(l.foldl CB o).1=(o.1|| !l.isEmpty)/\((l.foldl CB o).1=Br->((l.foldl CB o).2∈l\/(o.1=Br/\(l.foldl CB o).2=o.2))/\(∀c∈l,¬BX c (l.foldl CB o).2)/\(o.1=Br->¬BX o.2 (l.foldl CB o).2))
 | [],o=>⟨by simp,λh=>⟨.inr ⟨h,rfl⟩,by simp,λ_=>MB⟩⟩
 |c::l,o=>by
  obtain⟨n,p⟩:=OX l (CB o c);have j:(CB o c).1=Br:=by unfold CB;split<;>simp_all
  simp only[Adn];refine⟨by rw[n,j];simp,λh=>?_⟩;obtain⟨a,q,b⟩:=p h;have b:=b j;have hc:¬BX c (CB o c).2:=by
   unfold CB;split;· exact MB
   ·next e=>simp at e;exact e.2
  have i:o.1=Br->¬BX o.2 (CB o c).2:=λi=>by
   unfold CB;split;· next e=>simp[i]at e;exact λk=>by unfold BX ab at*;omega
   ·exact MB
  refine⟨?_,λd g=>?_,λe=>Jh (i e) b⟩
  ·rcases a with a|⟨_,a⟩;· exact .inl (by simp[a])
   ·by_cases e:(!o.1||decide (BX c o.2))=Br
    ·have f:CB o c=(Br,c):=by unfold CB;rw[if_pos e]
     exact .inl (by rw[a,f];simp)
    ·have f:CB o c=o:=by unfold CB;rw[if_neg e]
     have m:o.1=Br:=by simp at e;exact e.1
     exact .inr ⟨m,by rw[a,f]⟩
  ·rcases Aay.1 g with rfl|g;· exact Jh hc b
   ·exact q d g
def Ru(s:Sp)(d:Int):Int:=if 0<s.1 then s.1 else if s.2<0 then s.2 else d
theorem ZA:dG fu (s,d)=Ac (Ru s d):=by
 refine(Ok.eq ?_);rw[dG];unfold Ru;refine Ok.ite (λc=>Ok.some ?_) (λc=>Ok.ite (λe=>Ok.some ?_) (λe=>Ok.some ?_));· rw[if_pos c]
 ·rw[if_neg c,if_pos e]
 ·rw[if_neg c,if_neg e]
def M8(r:List Sp×List Sp):List Int:=r.1.map (λs=>Ru s 0*10000)++r.2.map (λs=>Ru s 1)
theorem Zz(h:BO b s)(a: -b<=d/\d<=b): -b<=Ru s d/\Ru s d<=b:=by
 unfold BO at h;unfold Ru;split;· omega
 ·split<;>omega
theorem Qm{o:Bool×Int}(h: -2000000000000000<=o.2/\o.2<=2000000000000000)(hc: -2000000000000000<=c/\c<=2000000000000000): -2000000000000000<=(CB o c).2/\(CB o c).2<=2000000000000000:=by
 unfold CB;split;· exact hc
 ·exact h
theorem On(e:UA fu x=Ac r)(h1:∀s∈r.1,BO 100000000000 s)(h2:∀s∈r.2,BO 1000000000000000 s)(n:r.1.length<fu/\r.2.length<fu):
  S6 fu x=Ac (((M8 r).foldl CB (Ap,0)).2,((M8 r).foldl CB (Ap,0)).1):=by
 refine(Ok.eq ?_);rw[S6];refine IN e ?_;refine Ok.G8 (λ(o:Bool×Int) k=>(o.2,o.1,k)) (λk o=>o=((r.1.take k).map λs=>Ru s 0*10000).foldl CB (Ap,0)/\ -2000000000000000<=o.2/\o.2<=2000000000000000) r.1.length ?_ ?_ fu 0 (Ap,0) ⟨by simp,by simp⟩ (by omega) (by omega);· intro k o nx f ⟨i,c⟩ g;have l:=h1 _ (AN f);have m:=Zz (d:=0) l (by omega);dsimp only;refine Ok.iu (Aal f (IN ZA (Aaq (IN (Wh (by omega) c) ?_))));refine g (CB o (Ru r.1[k] 0*10000)) ⟨?_,Qm c (by omega)⟩;rw[IT f,Aan,Acb,<-i];rfl
 ·intro o nx ⟨i,c⟩;dsimp only;refine Ok.iF (by omega) ?_;rw[Aau]at i;refine Ok.G8 (λ(o:Bool×Int) k=>(o.2,o.1,k)) (λk p=>p=((r.2.take k).map λs=>Ru s 1).foldl CB o/\ -2000000000000000<=p.2/\p.2<=2000000000000000) r.2.length ?_ ?_ fu 0 o ⟨by simp,c⟩ (by omega) (by omega);· intro k p nx f ⟨j,c⟩ g;have l:=h2 _ (AN f);have m:=Zz (d:=1) l (by omega);dsimp only;refine Ok.iu (Aal f (IN ZA (IN (Wh (by omega) c) ?_)));refine g (CB p (Ru r.2[k] 1)) ⟨?_,Qm c (by omega)⟩;rw[IT f,Aan,Acb,<-j];rfl
  ·intro p nx ⟨j,_⟩;dsimp only;refine Ok.io (Ok.some ?_);rw[Aau]at j;unfold M8;rw[Acb,<-i,<-j]
def CU(r:List Sp×List Sp)(u:Int):Prop:=(u %10000=0/\AX r.1 (u/10000))\/(u %10000≠0/\AX r.2 u)
theorem OU(b:∀s∈r.1,s.1<=s.2)(d:∀s∈r.2,s.1<=s.2/\NJ s)(h:c∈M8 r):CU r c:=by
 unfold M8 at h;rcases AT.1 h with h|h
 ·obtain⟨s,a,rfl⟩:=By.1 h;have:=b s a;refine .inl ⟨by omega,s,a,?_⟩;rw[Int.mul_ediv_cancel _ (by omega)];unfold Ru;split;· omega
  ·split<;>omega
 ·obtain⟨s,a,rfl⟩:=By.1 h;have:=d s a;unfold NJ at this;refine .inr ⟨?_,s,a,?_⟩<;>(unfold Ru;split);· omega
  ·split<;>omega
  ·omega
  ·split<;>omega
theorem K'(h:CU r u):∃c∈M8 r,¬BX u c:=by
 unfold M8;rcases h with⟨h,s,d,a,b⟩|⟨h,s,d,a,b⟩
 ·refine⟨Ru s 0*10000,Abu _ (By.2 ⟨s,d,rf⟩),?_⟩;unfold Ru BX ab;split;· omega
  ·split<;>omega
 ·refine⟨Ru s 1,Acf _ (By.2 ⟨s,d,rf⟩),?_⟩;unfold Ru BX ab;split;· omega
  ·split<;>omega
structure Fe(r:List Sp×List Sp)(v:Int)(f:Bool):Prop where
 yes:f=Br->CU r v/\∀u,CU r u->¬BX u v
 no:f=Ap->v=0/\∀u,¬CU r u
theorem Fe.unique{w:Int}{f g:Bool}(h:Fe r v f)(k:Fe r w g):v=w/\f=g:=by
 cases f<;>cases g;· exact⟨(h.no rfl).1.trans (k.no rfl).1.symm,rfl⟩
 ·exact absurd (k.yes rf).1 ((h.no rf).2 w)
 ·exact absurd (h.yes rf).1 ((k.no rf).2 v)
 ·have a:=h.yes rfl;have b:=k.yes rfl;exact⟨MA (b.2 v a.1) (a.2 w b.1),rfl⟩
theorem IF{l:List Int}(h1:∀c∈l,CU r c)(h2:∀u,CU r u->∃c∈l,¬BX u c):Fe r (l.foldl CB (Ap,0)).2 (l.foldl CB (Ap,0)).1:=by
 obtain⟨a,b⟩:=OX l (Ap,0);refine⟨λh=>?_,λh=>?_⟩;· obtain⟨e,f,_⟩:=b h;refine⟨h1 _ (e.resolve_right λk=>by cases k.1),λu d=>?_⟩;obtain⟨c,hc,g⟩:=h2 u d;exact Jh g (f c hc)
 ·rw[h]at a;have:l=[]:=by simpa using a
  subst this;exact⟨rfl,λu d=>by obtain⟨c,hc,_⟩:=h2 u d;cases hc⟩
theorem DY.nm(h:DY r I F):(∀s∈r.1,s.1<=s.2)/\(∀s∈r.2,s.1<=s.2/\NJ s):=by
 obtain⟨m,b,c,_,d,_⟩:=h;refine⟨c.ne,λs a=>⟨?_,?_⟩⟩;· rw[b]at a;obtain⟨t,e,rfl⟩:=By.1 a;have:=d.ne t e;show ur t.1<=ur t.2;unfold ur;omega
 ·rw[b]at a;exact J4 s a
def cI(s:Sp):List Int:=[s.1*10000,s.2*10000]
def cF(s:Sp):List Int:=if s.1<0/\0<s.2 then [s.1,s.2,1]else [s.1,s.2]
theorem cap2:4294967296<=Ag:=by decide
theorem Oo(e:QC fu x=Ac r)(h1:∀s∈r.1,BO 100000000000 s)(h2:∀s∈r.2,BO 1000000000000000 s)(N:∀s∈r.1,s.1<=s.2)(H:∀s∈r.2,s.1<=s.2/\NJ s)(T:r.1.length+r.2.length<100000000)(S:3*(r.1.length+r.2.length)<fu):
  Ok (cU fu x) λo=>Fe r o.1 o.2:=by
 rw[cU];have R:=cap2;refine IN e ?_;refine Ok.range (λk l=>l=(r.1.take k).flatMap cI/\l.length=2*k/\∀s∈r.1.take k,¬(s.1<=0/\0<=s.2)) r.1.length ⟨by simp,by simp,by simp⟩ (by omega) ?_ ?_
 ·intro k l nx n ⟨z,L,D⟩ w;have i:=h1 _ (AN n);unfold BO at i;have st:(r.1.take (k+1)).flatMap cI=l++[r.1[k].1*10000,r.1[k].2*10000]:=by
   rw[IT n,Acg,z];simp[cI]
  have go:¬(r.1[k].1<=0/\0<=r.1[k].2)->Ok (nx (l++[r.1[k].1*10000,r.1[k].2*10000],k+1)) (λo=>Fe r o.1 o.2):=λc=>by
   refine w _ ⟨st.symm,by simp;omega,λs i=>?_⟩;rw[IT n]at i;rcases AT.1 i with i|i;· exact D s i
   ·simp at i;subst i;exact c
  refine Ok.iT (by show(k:Int)<r.1.length;omega) (Aal n ?_);dsimp only;refine(Ok.ite (λc=>Ok.ite (λd=>Ok.some ?_) (λd=>Aaq (Aaq (Aby (go (λk=>d k.2)))))) (λc=>Aaq (Aaq (Aby (go (λk=>c k.1))))));refine⟨λ_=>⟨.inl ⟨by omega,r.1[k],AN n,?_⟩,λu _=>?_⟩,λh=>(by cases h)⟩;· exact⟨c,d⟩
  ·unfold BX ab;omega
 ·intro l nx ⟨z,L,D⟩;refine Ok.iF (by show¬(r.1.length:Int)<r.1.length;omega) ?_;rw[Aau]at z D;refine Ok.range (λk q=>q=l++(r.2.take k).flatMap cF/\q.length<=l.length+3*k) r.2.length ⟨by simp,by simp⟩ (by omega) ?_ ?_
  ·intro k q F n ⟨A,M⟩ p;have st:l++(r.2.take (k+1)).flatMap cF=q++cF r.2[k]:=by
    rw[IT n,Acg,A];simp
   have y:cF r.2[k]=if r.2[k].1<0/\0<r.2[k].2 then [r.2[k].1,r.2[k].2,1]else [r.2[k].1,r.2[k].2]:=rfl;refine Ok.iT (by show(k:Int)<r.2.length;omega) (Aal n (Aby (Ok.ite (λc=>Ok.ite (λd=>Ok.Af (by simp;omega) (p _ ⟨?_,?_⟩)) (λd=>p _ ⟨?_,?_⟩)) (λc=>p _ ⟨?_,?_⟩))));· rw[st,y,if_pos ⟨c,d⟩];simp
   ·simp;omega
   ·rw[st,y,if_neg (λk=>d k.2)]
   ·simp;omega
   ·rw[st,y,if_neg (λk=>c k.1)]
   ·simp;omega
  ·intro q F ⟨A,M⟩;refine Ok.iF (by show¬(r.2.length:Int)<r.2.length;omega) ?_;rw[Aau]at A;have Q:∀c∈q, -2000000000000000<=c/\c<=2000000000000000:=λc hc=>by
    rw[A,z]at hc;rcases AT.1 hc with hc|hc;· obtain⟨s,i,hc⟩:=Aac.1 hc;have:=h1 s i;unfold BO at this;simp[cI]at hc;omega
    ·obtain⟨s,i,hc⟩:=Aac.1 hc;have:=h2 s i;unfold BO at this;unfold cF at hc;split at hc<;>simp at hc<;>omega
   have O:∀c∈q,CU r c:=λc hc=>by
    rw[A,z]at hc;rcases AT.1 hc with hc|hc
    ·obtain⟨s,i,hc⟩:=Aac.1 hc;have:=N s i;simp[cI]at hc;rcases hc with rfl|rfl;· exact .inl ⟨by omega,s,i,by omega,by omega⟩
     ·exact .inl ⟨by omega,s,i,by omega,by omega⟩
    ·obtain⟨s,i,hc⟩:=Aac.1 hc;have:=H s i;unfold NJ at this;unfold cF at hc;split at hc
     ·simp at hc;rcases hc with rfl|rfl|rfl;· exact .inr ⟨by omega,s,i,by omega,by omega⟩
      ·exact .inr ⟨by omega,s,i,by omega,by omega⟩
      ·exact .inr ⟨by omega,s,i,by omega,by omega⟩
     ·simp at hc;rcases hc with rfl|rfl;· exact .inr ⟨by omega,s,i,by omega,by omega⟩
      ·exact .inr ⟨by omega,s,i,by omega,by omega⟩
   have P:∀u,CU r u->∃c∈q,¬BX u c:=λu K=>by
    rw[A,z];rcases K with⟨h,s,i,a,b⟩|⟨h,s,i,a,b⟩
    ·have:=D s i;rcases Afj 0 s.1 with c|c;· exact⟨s.1*10000,Abu _ (Aac.2 ⟨s,i,by simp[cI]⟩),by unfold BX ab;omega⟩
     ·exact⟨s.2*10000,Abu _ (Aac.2 ⟨s,i,by simp[cI]⟩),by unfold BX ab;omega⟩
    ·have:=H s i;unfold NJ at this;by_cases c:s.1<0/\0<s.2;· exact⟨1,Acf _ (Aac.2 ⟨s,i,by unfold cF;rw[if_pos c];simp⟩),by unfold BX ab;omega⟩
     ·rcases Afj 0 s.1 with d|d;· exact⟨s.1,Acf _ (Aac.2 ⟨s,i,by unfold cF;rw[if_neg c];simp⟩),by unfold BX ab;omega⟩
      ·exact⟨s.2,Acf _ (Aac.2 ⟨s,i,by unfold cF;rw[if_neg c];simp⟩),by unfold BX ab;omega⟩
   refine Ok.G8 (λ(o:Bool×Int) k=>(o.2,o.1,k)) (λk o=>o=(q.take k).foldl CB (Ap,0)/\ -2000000000000000<=o.2/\o.2<=2000000000000000) q.length ?_ ?_ fu 0 (Ap,0) ⟨by simp,by simp⟩ (by omega) (by omega)
   ·intro k o nx n ⟨C,G⟩ w;have hc:=Q _ (AN n);have st:(q.take (k+1)).foldl CB (Ap,0)=CB o q[k]:=by
     rw[IT n,Acb,<-C];rfl
    have I:=Qm G hc;have B:=w (CB o q[k]) ⟨st.symm,I⟩;dsimp only;refine Ok.iu (Aal n ?_);obtain⟨f,v⟩:=o;cases f with
    |false=>exact Ok.T rfl B
    |true=>
     refine Ok.F rf (IN (vj hc G) (Ok.ite (λd=>?_) (λd=>?_)))
     ·have d:BX q[k] v:=d;have E:CB (Br,v) q[k]=(Br,q[k]):=by unfold CB;simp[d]
      rw[E]at B;exact B
     ·have d:¬BX q[k] v:=d;have E:CB (Br,v) q[k]=(Br,v):=by unfold CB;simp[d]
      rw[E]at B;exact B
   ·intro o nx ⟨C,_⟩;dsimp only;refine Ok.io (Ok.some ?_);rw[Aau]at C;rw[C];exact IF O P
theorem Tf{z:List Sp×List Sp}(h1:Nf m)(h2:∀y,AX m y↔A3 z y):∀s∈m.map KQ,BO 1000000000000000 s:=λs b=>by obtain⟨t,a,rfl⟩:=By.1 b;have h:=h1.ne t a;have p:=((h2 t.1).1 ⟨t,a,Abn _,h⟩).2;have q:=((h2 t.2).1 ⟨t,a,h,Abn _⟩).2;unfold BO KQ;dsimp only;omega
theorem HU(g:Lr x)(o:20<fu)(B:80<gu):
  ∃r v f,DY r (A5 x) (A3 x)/\cU gu x=Ac (v,f)/\S6 fu x=Ac (v,f)/\Fe r v f:=by
 obtain⟨r,e,l,b,C,D⟩:=Vs (fu:=fu) (gu:=gu) g o (by omega);have H:=g.n1;have I:=g.n2;obtain⟨i,j⟩:=b.nm;have d:=b;obtain⟨m,t,E,k,w,F,G,y⟩:=d;have a:=Tf w y;rw[<-t]at a;obtain⟨⟨v,f⟩,n,h⟩:=Oo e k a i j (by omega) (by omega);have p:=On l k a ⟨by omega,by omega⟩;have q:=IF (λc hc=>OU i j hc) (λu s=>K' s);obtain⟨z,A⟩:=h.unique q;exact⟨r,v,f,b,n,by rw[p,<-(show v=_ from z),<-(show f=_ from A)],h⟩
theorem EC(h:DY r I F)(u:Int):CU r u↔(u %10000=0/\I (u/10000))\/(u %10000≠0/\F (rk u)):=by
 obtain⟨m,a,d,e,f,g,c,b⟩:=h;unfold CU;rw[c];constructor
 ·rintro(h|⟨h,k⟩);· exact .inl h
  ·refine .inr ⟨h,?_⟩;rw[<-b,<-FA (m:=m),<-a,<-ME (by rw[a];exact J4),Ig h];exact k
 ·rintro(h|⟨h,k⟩);· exact .inl h
  ·refine .inr ⟨h,?_⟩;rw[<-b,<-FA (m:=m),<-a,<-ME (by rw[a];exact J4),Ig h]at k;exact k
theorem ay(n: -1000000000000000<=u/\u<=1000000000000000)(m:x.1.length<fu/\x.2.length<fu):Ok (iX fu (x,u)) λb=>b=Br↔CU x u:=by
 rw[iX];have o:iY fu u=Ac Br:=by refine(Ok.eq ?_);rw[iY];exact Ok.iT n.1 (Ok.some (decide_eq_true n.2))
 obtain⟨p,t2,t3⟩:=kJ u;refine IN o (Ok.F rfl (IN (I3 (by unfold GK.Dn;omega)) (Ok.ite (λc=>?_) (λc=>?_))))
 ·have c:u %10000=0:=c;have eq:Int.tdiv u 10000=u/10000:=by omega
  refine Aby (Aca (by omega) ?_);rw[eq];refine Ok.count (λk=> ∀s∈x.1.take k,¬(s.1<=u/10000/\u/10000<=s.2)) x.1.length (by simp) m.1 ?_ ?_
  ·intro k nx i h j;have go:¬(x.1[k].1<=u/10000/\u/10000<=x.1[k].2)->Ok (nx (k+1)) (λb=>b=Br↔CU x u):=λd=>j λs f=>by
    rw[IT i]at f;rcases AT.1 f with f|f;· exact h s f
    ·simp at f;subst f;exact d
   refine Ok.iu (Aal i (Ok.ite (λa=>Ok.ite (λb=>Ok.some ?_) (λb=>go λk=>b k.2)) (λa=>go λk=>a k.1)));exact⟨λ_=> .inl ⟨c,_,AN i,a,b⟩,λ_=>rfl⟩
  ·intro nx h;rw[Aau]at h;refine Ok.io (Ok.some ⟨λh=>(by cases h),λk=>?_⟩);rcases k with⟨_,s,f,k⟩|⟨k,_⟩;· exact absurd k (h s f)
   ·exact absurd c k
 ·have c:¬u %10000=0:=c;refine Ok.count (λk=> ∀s∈x.2.take k,¬(s.1<=u/\u<=s.2)) x.2.length (by simp) m.2 ?_ ?_
  ·intro k nx i h j;have go:¬(x.2[k].1<=u/\u<=x.2[k].2)->Ok (nx (k+1)) (λb=>b=Br↔CU x u):=λd=>j λs f=>by
    rw[IT i]at f;rcases AT.1 f with f|f;· exact h s f
    ·simp at f;subst f;exact d
   refine Ok.iu (Aal i (Ok.ite (λa=>Ok.ite (λb=>Ok.some ?_) (λb=>go λk=>b k.2)) (λa=>go λk=>a k.1)));exact⟨λ_=> .inr ⟨c,_,AN i,a,b⟩,λ_=>rfl⟩
  ·intro nx h;rw[Aau]at h;refine Ok.io (Ok.some ⟨λh=>(by cases h),λk=>?_⟩);rcases k with⟨k,_⟩|⟨_,s,f,k⟩;· exact absurd k c
   ·exact absurd k (h s f)
theorem K6{y:List Sp×List Sp}(O:Lr x)(hy:Lr y)(h5:x.1.length+y.1.length<=11/\x.2.length+y.2.length<=11)(N:20<fu)(hg:200<gu):
  ∃c,QA gu (x,y)=Ac c/\DS fu (x,y)=Ac c:=by
 obtain⟨p,S,n,W,p1,p2⟩:=HQ (fu:=fu) (gu:=gu) O hy h5 N (by omega);obtain⟨q,eq,s,X,q1,q2⟩:=HQ (fu:=fu) (gu:=gu) hy O (by omega) N (by omega);have sp:=W.sm (by omega) (by omega);have sq:=X.sm (by omega) (by omega);obtain⟨J,v,f,F,_,ev,lv⟩:=HU (fu:=fu) (gu:=gu) sp N (by omega);obtain⟨K,w,g,G,_,E,P⟩:=HU (fu:=fu) (gu:=gu) sq N (by omega);obtain⟨o,R,V,o1,o2⟩:=Zn (fu:=gu) (sp.lg (by omega)) (sq.lg (by omega)) (by omega);have so:=V.lg (fu:=gu) (by omega) (by omega);obtain⟨ro,er,m,Y,m2,m3,m4,m5,m6,m7,m8,m9⟩:=MG (fu:=gu) so.f1 so.f2 (by omega) (by omega) (by omega) (by omega);have hr:DY ro (A5 o) (A3 o):=⟨m,Y,m2,m3,m4,m5,m6,m7⟩;have D:=Tf m4 m7;rw[<-Y]at D;have lm:ro.2.length=m.length:=by rw[Y,Aah]
 obtain⟨k1,k2⟩:=hr.nm;obtain⟨⟨z,h⟩,T,I⟩:=Oo er m3 D k1 k2 (by omega) (by omega);dsimp only at I;have t:∀u,CU ro u↔CU J u\/CU K u:=λu=>by
  rw[EC hr,EC F,EC G,V.A5,V.A3];unfold A5 A3;constructor
  ·rintro(⟨a,b|b,_⟩|⟨a,b|b,_⟩);· exact .inl (.inl ⟨a,b⟩)
   ·exact .inr (.inl ⟨a,b⟩)
   ·exact .inl (.inr ⟨a,b⟩)
   ·exact .inr (.inr ⟨a,b⟩)
  ·rintro((⟨a,b⟩|⟨a,b⟩)|(⟨a,b⟩|⟨a,b⟩));· exact .inl ⟨a, .inl b,b.2⟩
   ·exact .inr ⟨a, .inl b,b.2⟩
   ·exact .inl ⟨a, .inr b,b.2⟩
   ·exact .inr ⟨a, .inr b,b.2⟩
 have B:∀u,CU J u->CU x u/\ -1000000000000000<=u/\u<=1000000000000000:=λu k=>by
  rcases(EC F u).1 k with⟨a,b⟩|⟨a,b⟩;· have b:=(W.A5 _).1 b;exact⟨.inl ⟨a,b.1.1.1⟩,by omega⟩
  ·have b:=(W.A3 _).1 b;have c:=b.1.1.1;rw[Ig a]at c b;exact⟨.inr ⟨a,c⟩,b.2⟩
 have C:∀u,CU K u->¬CU x u/\ -1000000000000000<=u/\u<=1000000000000000:=λu k=>by
  rcases(EC G u).1 k with⟨a,b⟩|⟨a,b⟩
  ·have b:=(X.A5 _).1 b;refine⟨λk=>?_,by omega⟩;rcases k with⟨_,k⟩|⟨k,_⟩;· exact b.1.2 ⟨k,b.2⟩
   ·exact k a
  ·have b:=(X.A3 _).1 b;have D:=b.2;rw[Ig a]at D;refine⟨λk=>?_,D⟩;rcases k with⟨k,_⟩|⟨_,k⟩;· exact a k
   ·exact b.1.2 ⟨by rw[Ig a];exact k,b.2⟩
 have xn:=O.n1;have xn2:=O.n2;have ref:(h=Ap->QA gu (x,y)=Ac 0)/\(h=Br->CU J z->QA gu (x,y)=Ac (-1))/\(h=Br->CU K z->QA gu (x,y)=Ac 1):=by
  refine⟨λe=>?_,λe k=>?_,λe k=>?_⟩<;>refine(Ok.eq ?_)<;>rw[QA]<;>subst e;· exact IN S (IN eq (IN R (IN T (Ok.T rfl (Ok.some rfl)))))
  ·have k:=B z k;exact IN S (IN eq (IN R (IN T (Ok.F rfl (Ok.Ab (ay k.2 (by omega)) λb U=>Ok.T (U.2 k.1) (Ok.some rfl))))))
  ·have k:=C z k;exact IN S (IN eq (IN R (IN T (Ok.F rfl (Ok.Ab (ay k.2 (by omega)) λb U=>Ok.F (by cases b;rfl;exact absurd (U.1 rfl) k.1) (Ok.some rfl))))))
 have bw:∀u,CU J u\/CU K u-> -2000000000000000<=u/\u<=2000000000000000:=λu k=>k.elim (λk=>by have:=(B u k).2;omega) (λk=>by have:=(C u k).2;omega);have l:∀c,Ok (DS fu (x,y)) (λr=>r=c)->DS fu (x,y)=Ac c:=λc k=>k.eq;have H:∀u,CU J u\/CU K u->h=Br:=λu k=>by
  cases h with
  |true=>rfl
  |false=>exact absurd ((t u).2 k) ((I.no rfl).2 u)
 cases f with
 |false=>
  have nv:=(lv.no rfl).2;cases g with
  |false=>
   have Z:=(P.no rfl).2;refine⟨0,ref.1 ?_,l _ ?_⟩;· cases h with
    |false=>rfl
    |true=>exact((t z).1 (I.yes rfl).1).elim (λk=>absurd k (nv z)) (λk=>absurd k (Z z))
   ·rw[DS];exact IN n (IN ev (IN s (IN E (Ok.T rfl (Ok.T rfl (Ok.some rfl))))))
  |true=>
   have A:=H w (.inr (P.yes rfl).1);refine⟨1,ref.2.2 A (((t z).1 (I.yes A).1).resolve_left (nv z)),l _ ?_⟩;rw[DS];exact IN n (IN ev (IN s (IN E (Ok.T rfl (Ok.F rfl (Ok.F rfl (Ok.F rfl (Ok.some rfl))))))))
 |true=>
  have L:=lv.yes rfl;have A:=H v (.inl L.1);have M:=I.yes A;cases g with
  |false=>
   have Z:=(P.no rfl).2;refine⟨-1,ref.2.1 A (((t z).1 M.1).resolve_right (Z z)),l _ ?_⟩;rw[DS];exact IN n (IN ev (IN s (IN E (Ok.F rfl (Ok.T rfl (Ok.some rfl))))))
  |true=>
   have Q:=P.yes rfl;have en:=Vp (fu:=fu) (bw v (.inl L.1)) (bw w (.inr Q.1));by_cases c:BX v w;· refine⟨-1,ref.2.1 A (((t z).1 M.1).resolve_right λk=>Jh (M.2 v ((t v).2 (.inl L.1))) (Q.2 z k) c),l _ ?_⟩;rw[DS];exact IN n (IN ev (IN s (IN E (Ok.F rfl (Ok.F rfl (Ok.T rfl (IN en (Ok.T (decide_eq_true c) (Ok.some rfl)))))))))
   ·refine⟨1,ref.2.2 A (((t z).1 M.1).resolve_left λk=>?_),l _ ?_⟩;· have e:=MA c (Jh (M.2 w ((t w).2 (.inr Q.1))) (L.2 z k));exact(C w Q.1).1 (e▸(B v L.1).1)
    ·rw[DS];exact IN n (IN ev (IN s (IN E (Ok.F rfl (Ok.F rfl (Ok.T rfl (IN en (Ok.F (decide_eq_false c) (Ok.some rfl)))))))))
theorem oh{y:List Sp×List Sp}(c:Lr x)(d:Lr y)(n:x.1.length+y.1.length<=12/\x.2.length+y.2.length<=12)(h:20<fu):
  ∃r,zu fu (x,y)=Ac r/\DY r (λn=>A5 x n\/A5 y n) (λn=>A3 x n\/A3 y n)/\r.1.length<=x.1.length+y.1.length/\r.2.length<=x.2.length+y.2.length:=by
 have k:Lr (x.1++y.1,x.2++y.2):=⟨λs b=>(AT.1 b).elim (c.f1 s) (d.f1 s),λs b=>(AT.1 b).elim (c.f2 s) (d.f2 s),by simp;omega,by simp;omega⟩;obtain⟨s,g,b,i,j⟩:=D5 k h;refine⟨s,?_,b.congr (λn=>?_) (λn=>?_),by simpa using i,by simpa using j⟩
 ·refine(Ok.eq ?_);rw[zu];have e:rT fu [x.1,y.1]=Ac (x.1++y.1):=by
   rw[OQ (by simp;omega) (by simp;omega)];simp
  have f:rT fu [x.2,y.2]=Ac (x.2++y.2):=by rw[OQ (by simp;omega) (by simp;omega)];simp
  exact IN e (IN f (IN g (Ok.some rf)))
 ·unfold A5;dsimp only;rw[CS,or_and_right]
 ·unfold A3;dsimp only;rw[CS,or_and_right]
theorem W9{y:List Sp×List Sp}(i:Lr x)(j:Lr y)(n:x.1.length+y.1.length<=11/\x.2.length+y.2.length<=11)(d:20<fu):
  ∃r,S3 fu (x,y)=Ac r/\DY r (λn=>A5 x n/\¬A5 y n) (λn=>A3 x n/\¬A3 y n)/\r.1.length<=x.1.length+y.1.length+1/\r.2.length<=x.2.length+y.2.length+1:=by
 obtain⟨q,b,c,k,l⟩:=Vj (fu:=fu) j (by omega) (by omega) d;obtain⟨s,e,f,m,o⟩:=Wl (fu:=fu) i (c.sm (by omega) (by omega)) (by omega) d;have g:DY s (λn=>A5 x n/\¬A5 y n) (λn=>A3 x n/\¬A3 y n):=by
  refine f.congr (λn=>?_) (λn=>?_);· rw[c.A5];unfold NI;exact⟨λh=>⟨h.1,h.2.1.2⟩,λh=>⟨h.1,⟨h.1.2,h.2⟩,h.1.2⟩⟩
  ·rw[c.A3];unfold Py;exact⟨λh=>⟨h.1,h.2.1.2⟩,λh=>⟨h.1,⟨Jt h.1,h.2⟩,h.1.2⟩⟩
 refine⟨s,?_,g,by omega,by omega⟩;refine(Ok.eq ?_);rw[S3];exact IN b (IN e (Ok.some rf))
theorem Xf(d:Lr x)(h:20<fu):
  ∃r v f,DY r (A5 x) (A3 x)/\S6 fu x=Ac (v,f)/\Fe r v f:=by
 obtain⟨r,g,a,t,w⟩:=D5 d h;have B:=d.n1;have C:=d.n2;obtain⟨l,n⟩:=a.nm;have b:=a;obtain⟨m,o,y,p,q,z,A,s⟩:=b;have e:=Tf q s;rw[<-o]at e;have i:=On g p e ⟨by omega,by omega⟩;have j:=IF (λc hc=>OU l n hc) (λu k=>K' k);exact⟨r,_,_,a,i,j⟩
theorem Agx(h:DY r I F):(∀u,¬CU r u)↔r=([],[]):=by
 obtain⟨d,e⟩:=h.nm;constructor
 ·intro no;refine Acr ?_ ?_;· cases a:r.1 with
   |nil=>rfl
   |cons t q=>
    have b:=d t (by rw[a];simp);exact absurd (Or.inl ⟨by omega,t,by rw[a];simp,by omega,by omega⟩) (no (t.1*10000))
  ·cases a:r.2 with
   |nil=>rfl
   |cons t q=>
    have b:=e t (by rw[a];simp);exact absurd (Or.inr ⟨b.2.1,t,by rw[a];simp,Abn _,b.1⟩) (no t.1)
 ·rintro rfl u (⟨_,t,c,_⟩|⟨_,t,c,_⟩)<;>cases c
end
end Go.GL
namespace Go.GL
abbrev Lg:=List UInt8->Bool
abbrev Cm:=Int×Int×Int
abbrev Tc:=Bool×List Cm
abbrev Tb:=List Tc
section
variable{l:Tb}{kn:List Lg}{D:Lg}{m:Nat}{a S:List Lg}{es:List Cm}{n:Nat}{b:List Lg}{fu:Nat}{α:Type}{i:Nat}{K L:Lg}
def Ia(L:Lg)(b:Nat):Lg:=λw=>L (UInt8.ofNat b::w)
open Classical in
noncomputable def live(L:Lg):Bool:=decide (∃w,L w=Br)
open Classical in
noncomputable def HV(kn:List Lg)(L:Lg):Nat:=kn.findIdx λK=>decide (K=L)
theorem He{L:Lg} :live L=Br↔∃w,L w=Br:=by simp[live]
theorem CT{L:Lg} :live L=Ap↔∀w,L w=Ap:=by simp[live]
def push(es:List Cm)(lo hi n:Int):List Cm:=match es.getLast? with
 |some e=>if e.2.2=n/\e.2.1+1=lo then es.dropLast++[(e.1,hi,n)]else es++[(lo,hi,n)]
 |none=>es++[(lo,hi,n)]
noncomputable def IG(kn:List Lg)(D:Lg):List Lg:=if HV kn D=kn.length then kn++[D]else kn
noncomputable def C9(st:List Lg×List Cm)(D:Lg)(lo hi:Nat):List Lg×List Cm:=
 if live D then(IG st.1 D,push st.2 (lo:Int) (hi:Int) (HV st.1 D:Nat))else st
noncomputable def TA(K:Lg)(st:List Lg×List Cm)(b:Nat):List Lg×List Cm:=C9 st (Ia K b) b b
noncomputable def AM(K:Lg)(kn:List Lg)(m:Nat):List Lg×List Cm:=(List.range m).foldl (TA K) (kn,[])
noncomputable def Dp:Nat->List Lg->Tb->Tb
 |0,_,a=>a
 |c+1,b,a=>match b[a.length]? with
  |some K=>Dp c (AM K b 256).1 (a++[(K [],(AM K b 256).2)])
  |none=>a
noncomputable def D8(fu:Nat)(L:Lg):Tb:=if live L then Dp fu [L] []else []
theorem T0(kn:List Lg)(D:Lg):HV kn D<=kn.length:=List.findIdx_le_length
open Classical in
theorem PL{kn:List Lg}{D:Lg}(h:HV kn D<kn.length):kn[HV kn D]=D:=by grind[HV]
theorem Jp(h:D∈kn):HV kn D<kn.length:=by refine List.findIdx_lt_length_of_exists ⟨D,h,by simp⟩
theorem Gt{kn:List Lg}{D:Lg}(h:D∉kn):HV kn D=kn.length:=by
 have:=T0 kn D;rcases Nat.lt_or_eq_of_le this with a|a;· exact absurd (PL a▸AN a) h
 omega
theorem Jq(kn:List Lg)(D:Lg):HV (IG kn D) D=HV kn D:=by grind[IG,HV]
theorem LH(kn:List Lg)(D:Lg):D∈IG kn D:=by grind[IG,HV]
theorem Gs(h:D∈kn):IG kn D=kn:=by unfold IG;rw[if_neg];have:=Jp h;omega
theorem FH(l:List Cm)(x:Cm)(lo hi n:Int):push (l++[x]) lo hi n=if x.2.2=n/\x.2.1+1=lo then l++[(x.1,hi,n)]else l++[x]++[(lo,hi,n)]:=by simp[push]
theorem Jf(lo hi n:Int):push [] lo hi n=[(lo,hi,n)]:=rfl
theorem EZ(l:List α):l=[]\/∃a x,l=a++[x]:=by rcases Afd l with h|⟨a,x,h⟩;all_goals grind
theorem W4(es:List Cm)(lo a hi n:Int):push (push es lo a n) (a+1) hi n=push es lo hi n:=by
 rcases EZ es with rfl|⟨l,x,rfl⟩;· rw[Jf,Jf,show [(lo,a,n)]=[]++[(lo,a,n)]from rfl,FH];simp
 grind[FH]
theorem Ml(K:Lg)(D:Lg)(st:List Lg×List Cm)(lo:Nat):∀(n:Nat),(∀b,lo<=b->b<lo+n+1->Ia K b=D)->
  (List.range' lo (n+1)).foldl (TA K) st=C9 st D lo (lo+n)
 |0,h=>by grind[TA]
 |n+1,h=>by
  rw[List.range'_concat,Acb,Ml K D st lo n (λb c d=>h b c (by omega))];simp only[Adn,Als,TA,Nat.one_mul,h (lo+(n+1)) (by omega) (by omega)];unfold C9;split;· simp only[Jq,Gs (LH _ _),Afc,true_and];grind[HV,W4]
  rfl
theorem HN(K:Lg)(kn:List Lg)(D:Lg)(lo hi:Nat)(c:lo<=hi)(h:∀b,lo<=b->b<=hi->Ia K b=D):
  AM K kn (hi+1)=C9 (AM K kn lo) D lo hi:=by
 unfold AM;rw[show hi+1=lo+((hi-lo)+1) by omega,Ahj,Ahj,<-List.range'_append_1,Acb,Abi];rw[Ml K D _ lo (hi-lo) (λb a d=>h b a (by omega))];grind
def Bz(b:Nat)(e:Cm):Bool:=decide (e.1<=b)&&decide ((b:Int)<=e.2.1)
def AL(es:List Cm)(b:Nat):Int:=match es.find? (Bz b)with
 |some e=>e.2.2
 |none=> -1
def A_(l:Tb)(i:Int):Tc:=l.getD i.toNat (Ap,[])
def Bg(l:Tb)(i:Int)(b:Nat):Int:=if i<0 then-1 else AL (A_ l i).2 b
def runT(l:Tb)(i:Int)(w:List UInt8):Int:=w.foldl (λq c=>Bg l q c.toNat) i
def fin(l:Tb)(i:Int):Bool:=decide (0<=i)&&(A_ l i).1
def Aw(l:Tb)(i:Int):Lg:=λw=>fin l (runT l i w)
structure BM(es:List Cm)(m n:Nat):Prop where
 rg:∀e∈es,0<=e.1/\e.1<=e.2.1/\e.2.1<m/\0<=e.2.2/\e.2.2<n
 so:es.Pairwise λa b=>a.2.1<b.1
def Be(l:Tb):Prop:= ∀s∈l,BM s.2 256 l.length
theorem E8(l:Tb)(i:Int)(b:Nat)(a:b<256):Ia (Aw l i) b=Aw l (Bg l i b):=by funext w;simp_all[Ia,Aw,runT,Aec]
theorem I8{l:Tb}{i:Int}(b:Nat)(h:i<0):Bg l i b= -1:=by grind[Bg]
theorem G4{l:Tb} :∀(w:List UInt8) {i:Int},i<0->runT l i w<0
 | [],i,h=>h
 |c::w,i,h=>by exact G4 w (by grind[I8])
theorem De{l:Tb}{i:Int}(h:i<0)(w:List UInt8):Aw l i w=Ap:=by simp_all[Aw,fin,G4,decide_eq_false]
theorem Hd{l:Tb}{i:Int}(h:i<0):live (Aw l i)=Ap:=CT.2 λw=>De h w
theorem BM.step(h:BM es m n)(b:Nat):AL es b= -1\/0<=AL es b/\AL es b<n:=by
 unfold AL;split;· rename_i e a;have:=h.rg e (Abv a);omega
 omega
theorem BM.nil:BM [] m n:=⟨by simp, .nil⟩
theorem Be.st(h:Be l)(i:Int)(b:Nat):Bg l i b= -1\/0<=Bg l i b/\Bg l i b<l.length:=by
 unfold Bg;split;· omega
 ·unfold A_;rw[IS];cases a:l[i.toNat]? with
  |none=>exact .inl rfl
  |some s=>exact(h s (Aai a)).step b
theorem WM(h:BM es m n){b:Nat}(c:m<=b):AL es b= -1:=by unfold AL;rw[Adr.2];intro e a;have:=h.rg e a;grind[Bz]
theorem Gj(es fs:List Cm)(b:Nat):AL (es++fs) b=if(es.find? (Bz b)).isSome then AL es b else AL fs b:=by grind[AL,Bz]
theorem BM.mono{a b:Nat}(h:BM es m n)(d:m<=a)(f:n<=b):BM es a b:=
 ⟨λe c=>by have:=h.rg e c;omega,h.so⟩
theorem BM.push(h:BM es m n){hi q:Nat}(s:m<=hi)(t:q<n):BM (push es (m:Int) (hi:Int) (q:Int)) (hi+1) n/\∀b,AL (push es (m:Int) (hi:Int) (q:Int)) b=if m<=b/\b<=hi then(q:Int)else AL es b:=by
 rcases EZ es with rfl|⟨l,x,rfl⟩
 ·rw[Jf];refine⟨⟨by grind,by simp⟩,λb=>?_⟩;grind[AL,Bz]
 ·rw[FH];have u:=h.rg x (by simp);have j:=Abg.1 h.so;split
  ·refine⟨⟨λe c=>?_,?_⟩,λb=>?_⟩
   ·rcases AT.1 c with c|c;· have:=h.rg e (by grind);omega
    grind
   ·refine Abg.2 ⟨j.1,by simp,λa p e c=>?_⟩;grind
   ·rw[Gj,Gj];cases k:l.find? (Bz b)with
    |some e=>
     have i:=Abv k;have f:=j.2.2 e i x (by simp);grind[Bz]
    |none=>
     simp only[AL,Acz,Bz,Alu];grind
  ·refine⟨
       ⟨λe c=>?_,?_⟩,λb=>?_⟩
   ·rcases AT.1 c with c|c;· have:=h.rg e c;omega
    grind
   ·refine Abg.2 ⟨h.so,by simp,λa p e c=>?_⟩;simp at c;subst c;have:=h.rg a p;omega
   ·rw[Gj];cases k:(l++[x]).find? (Bz b)with
    |some e=>
     have i:=Abv k;have f:=h.rg e i;have d:=List.find?_some k;simp[Bz]at d;simp only[Option.isSome_some,if_true];rw[if_neg (by omega)]
    |none=>
     have:AL (l++[x]) b= -1:=by unfold AL;rw[k]
     rw[this];simp only[AL,Acz,Bz,Alu];by_cases g:m<=b/\b<=hi
     ·rw[if_pos g];have f:((m:Int)<=b):=by omega
      have d:((b:Int)<=hi):=by omega
      simp[f,d]
     ·rw[if_neg g];by_cases f:(m:Int)<=b
      ·have d:¬((b:Int)<=hi):=by omega
       simp[d]
      ·simp[f]
theorem ML{more:List Lg}(h:D∈kn):HV (kn++more) D=HV kn D:=by grind[HV]
theorem fZ(d:kn.Nodup)(h:i<kn.length):HV kn kn[i]=i:=by grind[HV,absurd,PL,Nat.lt_trichotomy,List.pairwise_iff_getElem]
def Ext(kn b:List Lg):Prop:= ∃a,b=kn++a
theorem Ext.refl(kn:List Lg):Ext kn kn:=⟨[],by simp⟩
theorem Ext.trans{c:List Lg}(h:Ext a b)(k:Ext b c):Ext a c:=by obtain⟨x,rfl⟩:=h;obtain⟨y,rfl⟩:=k;exact⟨x++y,by simp⟩
theorem Ext.len(h:Ext a b):a.length<=b.length:=by obtain⟨x,rfl⟩:=h;simp
theorem Ext.mem(h:Ext a b)(c:D∈a):D∈b:=by obtain⟨x,rfl⟩:=h;grind
theorem Ext.ix(h:Ext a b)(c:D∈a):HV b D=HV a D:=by obtain⟨x,rfl⟩:=h;exact ML c
theorem Ext.get(h:Ext a b)(c:a[i]?=Ac D):b[i]?=Ac D:=by obtain⟨x,rfl⟩:=h;grind
theorem Ext.IG(kn:List Lg)(D:Lg):Ext kn (IG kn D):=by
 unfold GL.IG;split;· exact⟨[D],rfl⟩
 ·exact .refl _
def tF(S:List Lg):Prop:= ∀K∈S,∀b<256,live (Ia K b)=Br->Ia K b∈S
structure KnOk(S kn:List Lg):Prop where
 nd:kn.Nodup
 sub:∀D∈kn,D∈S
 lv:∀D∈kn,live D=Br
theorem KnOk.IG(h:KnOk S kn)(e:D∈S)(g:live D=Br):KnOk S (IG kn D):=by
 unfold GL.IG;split
 ·have j:D∉kn:=λi=>by have:=Jp i;omega
  refine⟨Acs.2 ⟨h.nd,by simp,λa f b d=>?_⟩,λE c=>?_,λE c=>?_⟩;· grind
  ·rcases AT.1 c with c|c;· exact h.sub E c
   grind
  ·rcases AT.1 c with c|c;· exact h.lv E c
   grind
 omega
def Nw(K:Lg)(kn:List Lg)(es:List Cm)(m:Nat):Prop:=BM es m kn.length/\∀b,b<m->if live (Ia K b)then Ia K b∈kn/\AL es b=(HV kn (Ia K b):Nat)else AL es b= -1
theorem Nw.ext(h:Nw K kn es m)(c:Ext kn a):Nw K a es m:=by
 refine⟨h.1.mono (Aad _) c.len,λb f=>?_⟩;have:=h.2 b f;split;· rename_i d;rw[if_pos d]at this;exact⟨c.mem this.1,by rw[c.ix this.1];omega⟩
 grind
theorem Mh(K:Lg)(kn:List Lg)(m:Nat):AM K kn (m+1)=C9 (AM K kn m) (Ia K m) m m:=by unfold AM;rw[Afb,Acb];rfl
theorem Et{S kn:List Lg}{K:Lg}(l:tF S)(k:K∈S)(c:KnOk S kn):∀m,m<=256->Ext kn (AM K kn m).1/\KnOk S (AM K kn m).1/\Nw K (AM K kn m).1 (AM K kn m).2 m
 |0,_=>⟨.refl _,c, .nil,λb n=>by omega⟩
 |m+1,s=>by
  obtain⟨h,i,e⟩:=Et l k c m (by omega);rw[Mh];unfold C9;split
  ·rename_i d;have r:=l K k m (by omega) d;refine⟨h.trans (Ext.IG _ _),i.IG r d,?_⟩;have j:=e.ext (Ext.IG (AM K kn m).1 (Ia K m));have g:HV (AM K kn m).1 (Ia K m)<(IG (AM K kn m).1 (Ia K m)).length:=by
    rw[<-Jq];simp_all[Jp,LH]
   obtain⟨p,q⟩:=j.1.push (Aad m) g;refine⟨p,λb n=>?_⟩;rw[q b];by_cases a:b=m;· subst a;rw[if_pos d,if_pos ⟨Aad _,Aad _⟩,Jq];exact⟨LH _ _,rfl⟩
   ·rw[if_neg (by omega:¬(m<=b/\b<=m))];exact j.2 b (by omega)
  ·rename_i d;refine⟨h,i,e.1.mono (by omega) (Aad _),λb n=>?_⟩;by_cases a:b=m;· subst a;rw[if_neg d];exact WM e.1 (Aad _)
   ·exact e.2 b (by omega)
structure JY(kn:List Lg)(out:Tb):Prop where
 le:out.length<=kn.length
 row:∀(k:Nat) (K:Lg) (s:Tc),kn[k]?=Ac K->out[k]?=Ac s->s.1=K []/\Nw K kn s.2 256
theorem Rw{α:Type} [BEq α] [LawfulBEq α]:∀ {a b:List α},a.Nodup->(∀x∈a,x∈b)->a.length<=b.length
 | [],_,_,_=>by simp
 |x::a,b,g,d=>by have c:=Abl.1 g;have:=Rw (a:=a) (b:=b.erase x) c.2 (λy f=>(Ahk (λe=>by grind)).2 (d y (by grind)));grind
open Classical in
theorem KnOk.le{S kn:List Lg}(h:KnOk S kn):kn.length<=S.length:=Rw h.nd h.sub
theorem SD{S:List Lg}(q:tF S):∀(fu:Nat) (kn:List Lg) (a:Tb),KnOk S kn->JY kn a->S.length<fu+a.length->
  ∃b,Ext kn b/\KnOk S b/\JY b (Dp fu kn a)/\(Dp fu kn a).length=b.length
 |0,kn,a,g,e,A=>by have:=g.le;have:=e.le;omega
 |fu+1,kn,a,g,e,A=>by
  unfold Dp;split
  ·rename_i K h;have m:=Aai h;obtain⟨f,y,z⟩:=Et q (g.sub K m) g 256 (Aad _);have n:JY (AM K kn 256).1 (a++[(K [],(AM K kn 256).2)]):=by
    refine⟨?_,?_⟩;· have:=f.len;grind
    ·intro k l s i d;by_cases p:k<a.length
     ·rw[Aaa p]at d
      have o:kn[k]?=Ac l:=by obtain⟨r,B⟩:=f;grind
      have:=e.row k l s o d;exact⟨this.1,this.2.ext f⟩
     ·rw[Aab (by omega)]at d;have c:k=a.length:=by
       have:=(No.1 d).1;simp at this;omega
      subst c;simp at d;subst d;have:=f.get h;simp_all
   obtain⟨b,t,u,v,w⟩:=SD q fu (AM K kn 256).1 (a++[(K [],(AM K kn 256).2)]) y n (by simp;omega);exact⟨b,f.trans t,u,v,w⟩
  ·rename_i h;have:=Agm.1 h;exact⟨kn, .refl _,g,e,by have:=e.le;omega⟩
theorem JY.lg{kn:List Lg}{a:Tb}(h:JY kn a)(m:a.length=kn.length):∀(w:List UInt8) (i:Nat) (K:Lg),kn[i]?=Ac K->Aw a (i:Int) w=K w
 | [],i,K,b=>by have n:=(No.1 b).1;have d:a[i]?=Ac a[i]:=BY (by omega);have:=(h.row i K _ b d).1;grind[Aw,runT,fin,A_]
 |c::w,i,K,b=>by
  have n:=(No.1 b).1;have d:a[i]?=Ac a[i]:=BY (by omega);have:=(h.row i K _ b d).2.2 c.toNat c.toNat_lt;have e:Aw a (i:Int) (c::w)=Aw a (Bg a (i:Int) c.toNat) w:=rfl;have k:Bg a (i:Int) c.toNat=AL a[i].2 c.toNat:=by grind[Bg,A_]
  have l:K (c::w)=Ia K c.toNat w:=by simp[Ia]
  rw[e,k,l];split at this;· rw[this.2];have g:=Jp this.1;exact JY.lg h m w _ _ (by grind[List.getElem?_eq_getElem,PL])
  grind[live,Ia,De,CT]
theorem JY.wf{a:Tb}(h:JY kn a)(b:a.length=kn.length):Be a:=by intro s e;obtain⟨i,c,rfl⟩:=Aat e;have d:kn[i]?=Ac kn[i]:=BY (by omega);have:=(h.row i _ _ d (BY c)).2.1;grind
theorem Wb(i:tF S)(g:live L=Br->L∈S)(j:S.length<fu):
  Be (D8 fu L)/\Aw (D8 fu L) 0=L/\(D8 fu L).length<=S.length/\(live L=Br->0<(D8 fu L).length):=by
 unfold D8;split;· obtain⟨k,d,f,e,c⟩:=SD i fu [L] [] ⟨by simp,by grind,by grind⟩ ⟨by simp,by simp⟩ (by omega);refine⟨e.wf c,funext λw=>e.lg c w 0 L (d.get rfl),by rw[c];exact f.le,λ_=>?_⟩;have:=d.len;grind
 ·refine⟨by simp[Be],funext λw=>?_,by simp,λh=>absurd h (by omega)⟩;grind[Aw,fin,A_,runT,CT]
theorem M_{S:List Lg}(p:tF S):∀(fu b:Nat) (kn:List Lg) (a:Tb),KnOk S kn->JY kn a->S.length<fu+a.length->S.length<b+a.length->Dp fu kn a=Dp b kn a
 |0,_,kn,a,e,f,o,_=>by have:=e.le;have:=f.le;omega
 |_,0,kn,a,e,f,_,o=>by have:=e.le;have:=f.le;omega
 |fu+1,b+1,kn,a,e,f,o,w=>by
  unfold Dp;split
  ·rename_i K j;have l:=Aai j;obtain⟨g,t,u⟩:=Et p (e.sub K l) e 256 (Aad _);refine M_ p fu b _ _ t ⟨?_,?_⟩ (by grind) (by grind);· have:=g.len;grind
   ·intro k i s h d;by_cases n:k<a.length
    ·rw[Aaa n]at d
     have m:kn[k]?=Ac i:=by obtain⟨q,v⟩:=g;grind
     have:=f.row k i s m d;exact⟨this.1,this.2.ext g⟩
    ·rw[Aab (by omega)]at d;have c:k=a.length:=by
      have:=(No.1 d).1;simp at this;omega
     subst c;simp at d;subst d;have:=g.get j;simp_all
  rfl
theorem XN(e:tF S)(d:live L=Br->L∈S){a:Nat}(f:S.length<fu)(b:S.length<a):D8 fu L=D8 a L:=by
 unfold D8;split;· exact M_ e fu a [L] [] ⟨by simp,by grind,by grind⟩ ⟨by simp,by simp⟩ (by omega) (by omega)
 rfl
def pH(l:Tb):List Lg:=(List.range l.length).map λi=>Aw l (i:Nat)
theorem E2(l:Tb):(pH l).length=l.length:=by simp[pH]
theorem Jl{l:Tb}{i:Int}(h:0<=i)(a:i<l.length):Aw l i∈pH l:=by refine By.2 ⟨i.toNat,by grind,?_⟩;grind
theorem HS(h:Be l):tF (pH l):=by intro K d b e c;obtain⟨i,f,rfl⟩:=By.1 d;rw[E8 _ _ _ e]at c⊢;rcases h.st (i:Int) b with a|a;all_goals grind[Hd,Jl]
theorem RF(b:live (Aw l 0)=Br):Aw l 0∈pH l:=by grind[Aw,fin,A_,He,Jl]
theorem Qi(h:Be l)(b:l.length<fu):
  Be (D8 fu (Aw l 0))/\Aw (D8 fu (Aw l 0)) 0=Aw l 0/\(D8 fu (Aw l 0)).length<=l.length:=by
 have:=Wb (HS h) RF (fu:=fu) (by grind[E2]);grind[E2]
theorem XL{l:Tb}(h:Be l){fu a:Nat}(c:l.length<fu)(b:l.length<a):D8 fu (Aw l 0)=D8 a (Aw l 0):=
 XN (HS h) RF (by grind[E2]) (by grind[E2])
noncomputable def BS(l:Tb):Tb:=D8 (l.length+1) (Aw l 0)
theorem V'(h:Be l):Be (BS l):=(Qi h (by omega)).1
theorem Wa(h:Be l):Aw (BS l) 0=Aw l 0:=(Qi h (by omega)).2.1
theorem ic(h:Be l):(BS l).length<=l.length:=(Qi h (by omega)).2.2
theorem IM{a:Tb}(h:Be l)(b:Be a)(e:Aw l 0=Aw a 0):BS l=BS a:=by grind[BS,D8,Aw,XL]
theorem XM(h:Be l):BS (BS l)=BS l:=IM (V' h) h (Wa h)
end
end Go.GL
namespace Go.GL
open Go Go.GV Go.GK Go.Proofs
section
variable{fu:Nat}{l:Tb}{n:Nat}{es:List Cm}{α:Type}{s:Au}{j k b:Nat}{i:Int}{a:Tb}
def O8(l:Tb):Prop:= ∀s∈l,∀e∈s.2,(0<=e.1/\e.1<=255)/\0<=e.2.1/\e.2.1<=255
def D9(l:Tb)(n:Nat):Prop:=l.length<=n/\∀s∈l,s.2.length<=n
theorem Afr{m:Nat}(s:j<es.length):
  BM (es.take (j+1)) m n↔BM (es.take j) m n/\(0<=es[j].1/\es[j].1<=es[j].2.1/\es[j].2.1<m/\0<=es[j].2.2/\es[j].2.2<n)/\(0<j->(es[j-1]'(by omega)).2.1<es[j].1):=by
 rw[<-Aco s];constructor;· rintro⟨d,f⟩;have g:=Abg.1 f;refine⟨⟨λe c=>d e (AT.2 (.inl c)),g.1⟩,d _ (AT.2 (.inr (by simp))),λk=>g.2.2 _ ?_ _ (by simp)⟩;exact Adp.2 ⟨j-1,by omega,rfl⟩
 ·rintro⟨⟨d,f⟩,g,o⟩;refine⟨λe c=>?_,Abg.2 ⟨f,by simp,λa r b l=>?_⟩⟩
  ·rcases AT.1 c with c|c;· exact d e c
   ·simp at c;subst c;exact g
  ·simp at l;subst l;obtain⟨i,u,rfl⟩:=Adp.1 r;have k:0<j:=by omega
   have p:=o k;rcases Aak i (j-1)with h|h;· have q:=Abd.1 f i (j-1) (by simp;omega) (by simp;omega) h;simp only[List.getElem_take]at q;have t:=d (es[j-1]'(by omega)) (Adp.2 ⟨j-1,by omega,rfl⟩);omega
   ·obtain rfl:i=j-1:=by omega
    exact p
theorem An(l:List α):l.take l.length=l:=Abm (Aad _)
theorem Ai{l:List α}(a:k<l.length){x:α} :x∈l.take (k+1)↔x∈l.take k\/x=l[k]:=by rw[<-Aco a,AT];simp only[Aaf]
theorem Fg(A:O8 l)(v:D9 l n)(H:n<fu)(u:n<4294967296):Ok (uq fu l) (λr=>r=Br↔Be l):=by
 rw[uq];refine Ok.count (λk=> ∀s∈l.take k,BM s.2 256 l.length) l.length (by simp) (by have:=v.1;omega) (λk nx p o u=>?_) (λnx o=>?_)
 ·try dsimp only
  have i:l[k]∈l:=AN p;have D:=v.2 _ i;refine Ok.iu (Aal p ?_);refine Ok.count (λj=>BM (l[k].2.take j) 256 l.length) l[k].2.length (by simp;exact .nil) (by omega) (λj q d c f=>?_) (λq c=>?_)
  ·try dsimp only
   have B:=A _ i _ (AN d);have a:∀h:¬BM (l[k].2.take (j+1)) 256 l.length,Ok (Ac Ap) (λr=>r=Br↔Be l):=λh=>
    Ok.some ⟨λh=>(by cases h),λw=>absurd ⟨λe C=>(w _ i).rg e (Ach C),(w _ i).so.sublist (List.take_sublist _ _)⟩ h⟩;rw[Afr d]at a;refine Ok.iu (Aal d ?_);refine Ok.ite (λh=>a (by omega)) λE=>Ok.ite (λh=>a (by omega)) λF=>Ok.ite (λh=>a (by omega)) λG=>Ok.ite (λx=>?_) (λx=>?_)
   ·have t:((j:Int)-1).toNat=j-1:=by omega
    refine Ok.Af (by unfold GK.Dn;omega) (Aeb (by omega) (by omega) ?_);refine Ok.ite (λh=>a ?_) λy=>f ((Afr d).2 ⟨c,by omega,λ_=>?_⟩);· rintro⟨_,_,z⟩;have:=z (by omega);simp only[t]at h;omega
    ·simp only[t]at y;omega
   ·exact f ((Afr d).2 ⟨c,by omega,λh=>by omega⟩)
  ·try dsimp only
   refine Ok.io (u λs b=>?_);rcases(Ai p).1 b with h|rfl;· exact o s h
   ·rw[An]at c;exact c
 ·try dsimp only
  refine Ok.io (Ok.some ⟨λ_ s b=>o s (by rw[An];exact b),λ_=>rfl⟩)
theorem G1(c:j<es.length)(h:Bz b es[j]=Br)(a:∀i (hi:i<j),Bz b es[i]=Ap):AL es b=es[j].2.2:=by have:es.find? (Bz b)=Ac es[j]:=Aeq.2 ⟨h,j,c,rfl,λi hi=>by simp[a i hi]⟩;unfold AL;rw[this]
theorem Gi(a:∀i (hi:i<es.length),Bz b es[i]=Ap):AL es b= -1:=by
 have:es.find? (Bz b)=C7:=Adr.2 λe c=>by obtain⟨i,hi,rfl⟩:=Aat c;simp[a i hi]
 unfold AL;rw[this]
theorem Bo(h0:0<=i)(h1:i<l.length):A_ l i=l[i.toNat]'(by omega):=by unfold A_;rw[IS,BY (by omega)];rfl
open Classical in
noncomputable def NO(l:Tb):Lg:=λs=>decide (Be l)&&Aw l 0 s
theorem Wn(h:Be l):NO l=Aw l 0:=by funext s;simp[NO,h]
theorem cr(h:¬Be l)(s:List UInt8):NO l s=Ap:=by simp[NO,h]
theorem Ek(i:Int)(s:List UInt8):Aw [] i s=Ap:=by simp[Aw,fin,A_]
theorem Ka(l:Tb)(i:Int)(c:UInt8)(w:List UInt8):runT l i (c::w)=runT l (Bg l i c.toNat) w:=rfl
theorem E6(h0:0<=i)(h1:i<l.length):fin l i=(l[i.toNat]'(by omega)).1:=by unfold fin;rw[Bo h0 h1];simp[h0]
theorem Uu(Q:O8 l)(K:D9 l n)(R:n<fu)(U:n<4294967296)(S:s.length<fu)(T:s.length<4294967296):Ok (dw fu (l,s)) (λr=>r=NO l s):=by
 rw[dw];refine Ok.ite (λh=>Ok.some ?_) λV=>Ok.Ab (Fg Q K R U) λx L=>Ok.bif (λh=>Ok.some ?_) λh=>?_;· obtain rfl:l=[]:=Aae.1 (by omega);rw[Wn (by simp[Be]),Ek]
 ·refine(cr (λu=>?_) s).symm;have:=L.2 u;subst this;cases h
 have u:Be l:=L.1 (by cases x;cases h;rfl);rw[Wn u];refine Ok.loop (X:=Int×Int) (λp=>(0<=p.1/\p.1<l.length)/\(0<=p.2/\p.2<=s.length)/\runT l 0 s=runT l p.1 (s.drop p.2.toNat)) (λp=>s.length-p.2.toNat) ⟨⟨by decide,by omega⟩,⟨by decide,by omega⟩,rfl⟩ (by simpa using S) λp nx O _ C=>?_;obtain⟨q,i⟩:=p;obtain⟨⟨f,c⟩,⟨M,N⟩,o⟩:=O;simp only at f c M N o;try dsimp only
 refine Ok.ite (λd=>Aeb f c ?_) λd=>Aeb f c (Ok.some ?_)
 ·have a:i.toNat<s.length:=by omega
  have E:Bg l q (s[i.toNat]'a).toNat=AL (l[q.toNat]'(by omega)).2 (s[i.toNat]'a).toNat:=by unfold Bg;rw[if_neg (by omega),Bo f c]
  have e:runT l 0 s=runT l (Bg l q (s[i.toNat]'a).toNat) (s.drop (i+1).toNat):=by rw[o,show(i+1).toNat=i.toNat+1 by omega,<-Ka,Aaw a]
  rw[E]at e;have D:=K.2 _ (AN (by omega:q.toNat<l.length));have H:=u _ (AN (by omega:q.toNat<l.length));generalize l[q.toNat]'(by omega)=st at e H D;have z:i=((i.toNat:Nat):Int):=by omega
  refine Ok.count (λk=> ∀j (_:j<k) (J:j<st.2.length),Bz (s[i.toNat]'a).toNat st.2[j]=Ap) st.2.length (by intro j h;omega) (by omega) (λk G B t g=>?_) (λG t=>?_)
  ·try dsimp only
   have m:Bz (s[i.toNat]'a).toNat st.2[k]=Ap->∀j (_:j<k+1) (J:j<st.2.length),Bz (s[i.toNat]'a).toNat st.2[j]=Ap:=λh j J A=>by
    rcases Aak j k with c|c;· exact t j c A
    ·obtain rfl:j=k:=by omega
     exact h
   refine Ok.iu (Aal B ?_);have I:∀ {k:Int->Option Bool} {P},Ok (k (((s[i.toNat]'a).toNat:Nat):Int)) P->Ok (Ab (ER s i) k) P:=λh=>by rw[z];exact Ok.ER a h
   refine I (Ok.ite (λv=>I (Ok.ite (λw=>Ok.Af (by unfold GK.Dn;omega) ?_) λw=>g (m (by simp[Bz,w])))) λv=>g (m (by simp[Bz,v])));have y:=G1 B (by simp[Bz,v,w]) λi d=>t i d (by omega);rw[y]at e;have F:=H.rg _ (AN B);exact C (_,i+1) ⟨F.2.2.2,⟨by(try simp only);omega,by(try simp only);omega⟩,e⟩ (by(try simp only);omega)
  ·try dsimp only
   have y:=Gi λi d=>t i d d;rw[y]at e;refine Ok.io (Ok.some ?_);have:=G4 (l:=l) (s.drop (i+1).toNat) (i:= -1) (by decide);rw[<-e]at this;unfold Aw fin;rw[decide_eq_false (by omega)];rfl
 ·have a:i.toNat=s.length:=by omega
  rw[a,Abf (Aad _)]at o;unfold Aw;rw[o];exact(E6 f c).symm
theorem Hr{a b:List α}(h:a.length=b.length)(k:∀j (h:j<a.length) (e:j<b.length),a[j]=b[j]):a=b:=Ads h λj c d=>k j c d
theorem Ok.ne3{R:Type}{P:R->Prop}{x y:Cm}{p q:Option R}(a:x≠y->Ok p P)(b:x=y->Ok q P):
  Ok (bif !(decide (([x.1,x.2.1,x.2.2]:List Int)=[y.1,y.2.1,y.2.2]))then p else q) P:=by
 have key:([x.1,x.2.1,x.2.2]:List Int)=[y.1,y.2.1,y.2.2]↔x=y:=
  ⟨λh=>by simp at h;exact Acr h.1 (Acr h.2.1 h.2.2),λh=>by rw[h]⟩;by_cases h:x=y;· rw[decide_eq_true (key.2 h)];exact b h
 ·rw[decide_eq_false (λe=>h (key.1 e))];exact a h
theorem Tq{a b:List Cm}(i:a.length<fu):Ok (zP fu (a,b)) (λr=>r=Br↔a=b):=by
 rw[zP];refine Ok.ite (λh=>Ok.some ⟨λh=>(by cases h),λc=>by subst c;exact absurd rfl h⟩) λh=>?_;have n:a.length=b.length:=by omega
 refine Ok.count (λk=> ∀j (_:j<k) (h:j<a.length) (c:j<b.length),a[j]=b[j]) a.length (by intro j h;omega) i (λk nx l d o=>?_) (λnx d=>?_)
 ·try dsimp only
  refine Ok.iu (Aal l (Aal (by omega) ?_));have m:k<b.length:=by omega
  refine Ok.ne3 (λh=>Ok.some ⟨λh=>(by cases h),λc=>?_⟩) λh=>o λj p f g=>?_;· subst c;exact absurd rfl h
  ·rcases Aak j k with e|e;· exact d j e f g
   ·obtain rfl:j=k:=by omega
    exact h
 ·try dsimp only
  exact Ok.io (Ok.some ⟨λ_=>Hr n λj h c=>d j h h c,λ_=>rfl⟩)
theorem YY{a b:Tc}(e:a.2.length<fu):Ok (zO fu (a,b)) (λr=>r=Br↔a=b):=by rw[zO];refine Ok.bif (λh=>Ok.Ab (Tq e) λr f=>Ok.some ?_) λh=>Ok.some ⟨λh=>(by cases h),λc=>by subst c;simp at h⟩;rw[f];exact⟨λc=>Acr (by simpa using h) c,λc=>by rw[c]⟩
theorem KG{b:Tb}(i:D9 a n)(s:n<fu):Ok (uo fu (a,b)) (λr=>r=Br↔a=b):=by
 rw[uo];refine Ok.Ab (Q:=λr=>r=Br↔a=b) ?_ λr d=>Ok.some d;rw[F52];refine Ok.ite (λh=>Ok.some ⟨λh=>(by cases h),λc=>by subst c;exact absurd rfl h⟩) λh=>?_;have p:a.length=b.length:=by omega
 refine Ok.count (λk=> ∀j (_:j<k) (h:j<a.length) (c:j<b.length),a[j]=b[j]) a.length (by intro j h;omega) (by have:=i.1;omega) (λk nx g e q=>?_) (λnx e=>?_)
 ·try dsimp only
  have o:k<b.length:=by omega
  refine Ok.iu (Aal g (Aal (by omega) (Ok.Ab (YY (by have:=i.2 _ (AN g);omega)) λr d=>?_)));refine Ok.bif (λh=>Ok.some ⟨λh=>(by cases h),λc=>?_⟩) λh=>q λj t l m=>?_;· subst c;simp at d;subst d;cases h
  ·rcases Aak j k with f|f;· exact e j f l m
   ·obtain rfl:j=k:=by omega
    exact d.1 (by cases r;cases h;rfl)
 ·try dsimp only
  exact Ok.io (Ok.some ⟨λ_=>Hr p λj h c=>e j h h c,λ_=>rfl⟩)
theorem YW{b:Tb}(v:D9 a n)(C:n<fu):Ok (z_ fu (a,b)) (λr=>r=Br↔a=b):=by
 rw[z_];refine Ok.ite (λh=>Ok.some ⟨λh=>(by cases h),λd=>by subst d;exact absurd rfl h⟩) λh=>?_;have A:a.length=b.length:=by omega
 refine Ok.count (λk=> ∀j (_:j<k) (h:j<a.length) (d:j<b.length),a[j]=b[j]) a.length (by intro j h;omega) (by have:=v.1;omega) (λk nx u l B=>?_) (λnx l=>?_)
 ·try dsimp only
  have z:k<b.length:=by omega
  refine Ok.iu (Aal u (Aal (by omega) ?_));refine Ok.bif (λh=>Ok.some ⟨λh=>(by cases h),λd=>by subst d;simp at h⟩) λf=>Ok.ite (λh=>Ok.some ⟨λh=>(by cases h),λd=>by subst d;simp at h⟩) λs=>?_;have o:a[k].2.length=b[k].2.length:=by omega
  refine Ok.count (λi=> ∀j (_:j<i) (h:j<a[k].2.length) (d:j<b[k].2.length),a[k].2[j]=b[k].2[j]) a[k].2.length (by intro j h;omega) (by have:=v.2 _ (AN u);omega) (λi q x g p=>?_) (λq g=>?_)
  ·try dsimp only
   have m:i<b[k].2.length:=by omega
   refine Ok.iu (Aal x (Aal m ?_));refine Ok.ne3 (λh=>Ok.some ⟨λh=>(by cases h),λd=>by subst d;exact absurd rfl h⟩) λh=>p λj y f s=>?_;rcases Aak j i with e|e;· exact g j e f s
   ·obtain rfl:j=i:=by omega
    exact h
  ·try dsimp only
   refine Ok.io (B λj y e w=>?_);rcases Aak j k with t|t;· exact l j t e w
   ·obtain rfl:j=k:=by omega
    exact Acr (by simpa using f) (Hr o λj h d=>g j h h d)
 ·try dsimp only
  exact Ok.io (Ok.some ⟨λ_=>Hr A λj h d=>l j h h d,λ_=>rfl⟩)
def I2(i:Nat)(c:UInt8):Tc:=(Ap,[((c.toNat:Int),(c.toNat:Int),((i+1:Nat):Int))])
def Cn(s:Au)(k:Nat):Tb:=(s.take k).mapIdx I2
def Bn(s:Au):Tb:=s.mapIdx I2++[(Br,[])]
theorem KN(h:k<s.length):Cn s (k+1)=Cn s k++[I2 k s[k]]:=by unfold Cn;rw[<-Aco h,List.mapIdx_append];simp[Adl (Agy h)]
theorem dU(o:s.length<fu)(t:s.length<4294967296):Ok (F7 fu s) (λr=>r=Bn s):=by
 rw[F7];refine Ok.loop (X:=Tb×Int) (λp=>(0<=p.2/\p.2<=s.length)/\p.1=Cn s p.2.toNat) (λp=>s.length-p.2.toNat) ⟨⟨by decide,by(try simp only);omega⟩,rfl⟩ (by simpa using o) λp nx m _ e=>?_;obtain⟨q,i⟩:=p;obtain⟨⟨j,l⟩,f⟩:=m;simp only at j l f;subst f;have b:(Cn s i.toNat).length=i.toNat:=by simp[Cn];omega
 try dsimp only
 refine Ok.ite (λn=>?_) λn=>?_
 ·have a:i.toNat<s.length:=by omega
  have d:i=((i.toNat:Nat):Int):=by omega
  have g:∀ {k:Int->Option Tb} {P},Ok (k (((s[i.toNat]'a).toNat:Nat):Int)) P->Ok (Ab (ER s i) k) P:=λh=>by rw[d];exact Ok.ER a h
  refine g (g (Ok.Af (by unfold GK.Dn;omega) (Ok.Af (by rw[b];unfold Ag;simp;omega) (Ok.Af (by unfold GK.Dn;omega) ?_))));refine e (_,i+1) ⟨⟨by(try simp only);omega,by(try simp only);omega⟩,?_⟩ (by(try simp only);omega);try simp only
  rw[show(i+1).toNat=i.toNat+1 by omega,KN a];simp only[I2];rw[show((i.toNat+1:Nat):Int)=i+1 by omega]
 ·have a:i.toNat=s.length:=by omega
  refine Ok.Af (by rw[b];unfold Ag;simp;omega) (Ok.some ?_);rw[a];simp[Cn,Bn]
end
end Go.GL
namespace Go.GL
open Go.GK Go.Lib
section
variable{n:Int}
def dX(l:List UInt8):Nat:=l.foldl (λa c=>10*a+(c.toNat-48)) 0
theorem HY{d:Nat}(h:d<10):(UInt8.ofNat (48+d)).toNat=48+d:=by simp;omega
theorem Ip(u:Nat):dX (decDigits u)=u:=by
 induction u using Nat.strongRecOn with
 |_ u a=>
  rw[decDigits];split;· rename_i h;unfold dX;rw[Adn,Als,HY h];omega
  ·unfold dX at a⊢;rw[Acb,a (u/10) (by omega),Adn,Als,HY (by omega)];omega
theorem Iq(u:Nat):∀c∈decDigits u,48<=c.toNat:=by
 induction u using Nat.strongRecOn with
 |_ u b=>
  rw[decDigits];split;· intro c a;rw[Aaf]at a;subst a;rw[HY (by omega)];omega
  ·intro c a;rcases AT.1 a with a|a;· exact b (u/10) (by omega) c a
   ·rw[Aaf]at a;subst a;rw[HY (by omega)];omega
theorem IC:∀(k u:Nat),u<10^ (k+1)->nDigits u<=k+1
 |0,u,h=>by rw[nDigits_small (by simpa using h)];omega
 |k+1,u,h=>by
  by_cases a:u<10;· rw[nDigits_small a];omega
  ·have b:1<=10^k:=Nat.one_le_pow _ _ (by decide);rw[nDigits_big a];have:=IC k (u/10) (by rw[Nat.pow_succ]at h⊢;omega);omega
theorem Hg(u:Nat):itoa (u:Int)=decDigits u:=by unfold itoa;rw[if_neg (by omega)];simp
theorem aj{u:Nat}(h:u<10000000000):(itoa (u:Int)).length<=10:=by rw[Hg,decDigits_length];exact IC 9 u (by simpa using h)
theorem Jr(h:0<=n):(44:UInt8)∉itoa n:=by intro a;obtain⟨u,rfl⟩:∃u:Nat,n=u:=⟨n.toNat,by omega⟩;rw[Hg]at a;have:=Iq u 44 a;exact absurd this (by decide)
theorem MM{m:Int}(h:0<=n)(k:0<=m)(e:itoa n=itoa m):n=m:=by obtain⟨u,rfl⟩:∃u:Nat,n=u:=⟨n.toNat,by omega⟩;obtain⟨v,rfl⟩:∃u:Nat,m=u:=⟨m.toNat,by omega⟩;rw[Hg,Hg]at e;have:=congrArg dX e;rw[Ip,Ip]at this;rw[this]
theorem Fa:∀ {A B R S:List UInt8},44∉A->44∉B->(R=[]\/R.head?=Ac 44)->(S=[]\/S.head?=Ac 44)->A++R=B++S->A=B/\R=S
 | [],[],_,_,_,_,_,_,h=>⟨rfl,h⟩
 | [],b::B,R,S,_,f,c,_,h=>by
  simp only[Abp,Adt]at h;subst h;rcases c with c|c;· cases c
  ·simp at c;subst c;exact absurd (by simp) f
 |a::A,[],R,S,e,_,_,d,h=>by
  simp only[Abp,Adt]at h;subst h;rcases d with d|d;· cases d
  ·simp at d;subst d;exact absurd (by simp) e
 |a::A,b::B,R,S,e,f,c,d,h=>by simp only[Adt,Ahd]at h;have:=Fa (λg=>e (by simp[g])) (λg=>f (by simp[g])) c d h.2;exact⟨by rw[h.1,this.1],this.2⟩
def DE(l:List Int):Au:=l.flatMap λx=>([44]:Au)++itoa x
theorem Gg(l:List Int):DE l=[]\/(DE l).head?=Ac 44:=by
 cases l with
 |nil=>exact .inl rfl
 |cons x l=>exact .inr (by simp[DE])
theorem eB:∀ {l m:List Int} {x y:Int},(∀z∈l,0<=z)->(∀z∈m,0<=z)->0<=x->0<=y->itoa x++DE l=itoa y++DE m->x=y/\l=m
 |l,m,x,y,b,c,f,g,h=>by
  obtain⟨e,a⟩:=Fa (Jr f) (Jr g) (Gg l) (Gg m) h;refine⟨MM f g e,?_⟩;clear h e;induction l generalizing m with
  |nil=>
   cases m with
   |nil=>rfl
   |cons y m=>simp[DE]at a
  |cons x l n=>
   cases m with
   |nil=>simp[DE]at a
   |cons y m=>
    have i:itoa x++DE l=itoa y++DE m:=by simpa [DE]using a
    obtain⟨j,k⟩:=Fa (Jr (b x (by simp))) (Jr (c y (by simp))) (Gg l) (Gg m) i;rw[MM (b x (by simp)) (c y (by simp)) j,n m (λz d=>b z (by simp[d])) (λz d=>c z (by simp[d])) k]
end
section
variable {α : Type}
section
variable{n:Nat}{f:Nat->α}{i:Nat}
def Bu(n:Nat)(f:Nat->α):List α:=(List.range n).map f
theorem AE(n:Nat)(f:Nat->α):(Bu n f).length=n:=by simp[Bu]
theorem Bt(h:i<(Bu n f).length):(Bu n f)[i]=f i:=by simp[Bu]
theorem I7(h:i<n):(Bu n f)[i]?=Ac (f i):=by rw[BY (by rw[AE];exact h),Bt]
theorem A0{g:Nat->α}(h:∀i,i<n->f i=g i):Bu n f=Bu n g:=
 Abt λi a=>h i (Abb.1 a)
theorem Bh(n:Nat)(f:Nat->α)(i:Nat)(x:α):(Bu n f).set i x=Bu n (λj=>if j=i then x else f j):=by
 refine Ads (by simp[Bu]) λj a b=>?_;rw[List.getElem_set,Bt,Bt];by_cases h:i=j;· rw[if_pos h,if_pos h.symm]
 ·rw[if_neg h,if_neg (λe=>h e.symm)]
theorem Ei(n:Nat)(x:α):List.replicate n x=Bu n (λ_=>x):=by refine Ads (by simp[Bu]) λj a b=>by rw[Bt];simp
theorem nP(l:List α)(d:α):l=Bu l.length (λi=>l.getD i d):=by
 refine Ads (by simp[Bu]) λj a b=>by rw[Bt,IS,BY a];rfl
theorem Da(n:Nat)(f:Nat->α):Bu (n+1) f=Bu n f++[f n]:=by simp[Bu,Afb]
theorem E0{x:α} :x∈Bu n f↔∃i,i<n/\f i=x:=by simp[Bu]
theorem UW{n:Nat}{f g:Nat->α} :Bu n f=Bu n g↔∀i,i<n->f i=g i:=by refine⟨λh i a=>?_,A0⟩;have:=congrArg (·[i]?) h;simpa [I7 a]using this
theorem AR{n:Nat}{f:Nat->α}{i:Nat}(h:i<n):idx (Bu n f) (i:Int)=Ac (f i):=by rw[Bj (by rw[AE];exact h),Bt]
end
end
theorem Hh{α:Type}{n:Nat}{f:Nat->α}{i:Int}(h0:0<=i)(h:i.toNat<n):idx (Bu n f) i=Ac (f i.toNat):=by rw[E4 h0 (by rw[AE];omega),Bt]
section
variable {α β : Type}
section
variable{n:Nat}{f:Nat->α}{u:List α}
theorem Ce [DecidableEq α]:∀ {a b:List α},a.Nodup->(∀x∈a,x∈b)->a.length<=b.length
 | [],_,_,_=>by simp
 |x::a,b,g,d=>by have c:=Abl.1 g;have:=Ce (a:=a) (b:=b.erase x) c.2 (λy f=>(Ahk (λe=>by subst e;exact c.1 f)).2 (d y (by simp[f])));rw[Alw (d x (by simp))]at this;have h:0<b.length:=Aev (d x (by simp));simp;omega
theorem KW [DecidableEq α]:∀ {b a:List α},a.Nodup->(∀x∈a,x∈b)->b.length<=a.length->b.Nodup
 | [],_,_,_,_=> .nil
 |x::b,a,c,g,f=>by
  by_cases i:x∈b
  ·have:=Ce (b:=b) c (λy d=>by
    rcases Aay.1 (g y d)with rfl|h;· exact i
    ·exact h);simp at f;omega
  ·refine Abl.2 ⟨i,KW (a:=a.erase x) (c.erase x) (λy d=>?_) ?_⟩
   ·have e:=List.Nodup.mem_erase_iff c |>.1 d;rcases Aay.1 (g y e.2)with rfl|h;· exact absurd rfl e.1
    ·exact h
   ·have:=List.length_erase (a:=x) (l:=a);split at this<;>simp at f<;>omega
structure Ga(n:Nat)(f:Nat->α)(u:List α):Prop where
 nd:u.Nodup
 mem:∀x,x∈u↔∃s,s<n/\f s=x
open Classical in
theorem Ga.le{n:Nat}{f:Nat->α}{u:List α}(h:Ga n f u):u.length<=n:=by have:=Ce (b:=Bu n f) h.nd (λx a=>E0.2 ((h.mem x).1 a));rwa [AE]at this
open Classical in
theorem Ga.aJ{n:Nat}{f:Nat->α}{g:Nat->β}{u:List α}{v:List β}(r:Ga n f u)(l:Ga n g v)(F:∀s t,s<n->t<n->g s=g t->f s=f t):
  u.length<=v.length/\(u.length=v.length->∀s t,s<n->t<n->f s=f t->g s=g t):=by
 have I:∀x∈v,∃s,s<n/\g s=x:=λx G=>(l.mem x).1 G;let p:β->α:=λx=>if h:∃s,s<n/\g s=x then f (Classical.choose h)else f 0;have q:∀s,s<n->p (g s)=f s:=λs a=>by have h:∃t,t<n/\g t=g s:=⟨s,a,rfl⟩;have k:=Classical.choose_spec h;show(if h:∃t,t<n/\g t=g s then f (Classical.choose h)else f 0)=f s;rw[dif_pos h];exact F _ _ k.1 a k.2
 have a:∀y∈u,y∈v.map p:=λy H=>by obtain⟨s,a,rfl⟩:=(r.mem y).1 H;exact By.2 ⟨g s,(l.mem _).2 ⟨s,a,rfl⟩,q s a⟩
 refine⟨by have:=Ce r.nd a;simpa using this,λD s t d e E=>?_⟩;have c:=KW r.nd a (by simp[D]);have k:=(l.mem _).2 ⟨s,d,rf⟩;have B:=(l.mem _).2 ⟨t,e,rf⟩;have C:p (g s)=p (g t):=by rw[q s d,q t e,E]
 obtain⟨i,m,w⟩:=Aat k;obtain⟨j,o,z⟩:=Aat B;have A:(v.map p)[i]'(by simpa using m)=(v.map p)[j]'(by simpa using o):=by simp[w,z,C]
 have:i=j:=by
  rcases Adb i j with b|b|b;· exact absurd A (Abd.1 c _ _ (by simpa using m) (by simpa using o) b)
  ·exact b
  ·exact absurd A.symm (Abd.1 c _ _ (by simpa using o) (by simpa using m) b)
 subst this;rw[<-w,<-z]
theorem Ga.zero(f:Nat->α):Ga 0 f []:=⟨.nil,by simp⟩
theorem Ga.new(h:Ga n f u)(i:f n∉u):Ga (n+1) f (u++[f n]):=by
 refine⟨Acs.2 ⟨h.nd,by simp,λa g b d=>?_⟩,λx=>?_⟩;· simp at d;subst d;rintro rfl;exact i g
 ·rw[AT,h.mem,Aaf];constructor
  ·rintro(⟨s,j,e⟩|rfl);· exact⟨s,by omega,e⟩
   ·exact⟨n,by omega,rf⟩
  ·rintro⟨s,j,rfl⟩;rcases Aak s n with c|c;· exact .inl ⟨s,c,rfl⟩
   ·obtain rfl:s=n:=by omega
    exact .inr rf
theorem Ga.old(h:Ga n f u)(b:f n∈u):Ga (n+1) f u:=by
 refine⟨h.nd,λx=>?_⟩;rw[h.mem];constructor;· rintro⟨s,c,e⟩;exact⟨s,by omega,e⟩
 ·rintro⟨s,c,rfl⟩;rcases Aak s n with a|a;· exact⟨s,a,rfl⟩
  ·obtain rfl:s=n:=by omega
   exact(h.mem _).1 b
end
end
end Go.GL
namespace Go.GL
open Go Go.GV Go.GK Go.Proofs
section
variable{cs:List Int}{l:Tb}{i n fu:Nat}{m:List (Au×Int)}{u:List Au}{c b s:Nat}{x:Au}
def Ends(l:Tb)(b:Nat):Prop:=b=0\/∃s∈l,∃e∈s.2,e.1=(b:Int)\/e.2.1+1=(b:Int)
structure Bl(cs:List Int):Prop where
 zero:cs[0]?=Ac 0
 asc:cs.Pairwise (· < ·)
 rg:∀c∈cs,0<=c/\c<256
def GP(cs:List Int)(i:Nat):Int:=if i+1<cs.length then cs.getD (i+1) 0-1 else 255
def Dz(cs:List Int)(l:Tb):Prop:= ∀b:Nat,b<256->Ends l b->(b:Int)∈cs
theorem Bl.pos(h:Bl cs):0<cs.length:=(No.1 h.zero).1
theorem Bl.le(h:Bl cs):cs.length<=256:=by
 have e:(cs.map Int.toNat).Nodup:=by refine(Adv.2 ?_);refine Ags (λ{a b} f i g=>?_) h.asc;have:=h.rg a f;have:=h.rg b i;omega
 have:=Ce (b:=List.range 256) e (λx j=>by obtain⟨c,hc,rfl⟩:=By.1 j;have:=h.rg c hc;exact Abb.2 (by omega));simpa using this
theorem Bl.lt(h:Bl cs){j:Nat}(hi:i<cs.length)(b:j<cs.length)(a:i<j):cs[i]<cs[j]:=Abd.1 h.asc i j hi b a
theorem Bl.vK(h:Bl cs):cs[0]'h.pos=0:=by have:=h.zero;rw[BY h.pos]at this;simpa using this
theorem EB{cs:List Int}{i:Nat}(h:i+1<cs.length):GP cs i=cs[i+1]-1:=by unfold GP;rw[if_pos h,IS,BY h];rfl
theorem Hj{cs:List Int}{i:Nat}(h:¬i+1<cs.length):GP cs i=255:=by unfold GP;rw[if_neg h]
theorem Bl.hi(h:Bl cs)(hi:i<cs.length):cs[i]<=GP cs i/\GP cs i<256:=by
 have b:=h.rg _ (AN hi);by_cases a:i+1<cs.length;· rw[EB a];have:=h.lt hi a (by omega);have:=h.rg _ (AN a);omega
 ·rw[Hj a];omega
theorem Bl.no(h:Bl cs)(hi:i<cs.length){c:Int}(h1:cs[i]<c)(h2:c<=GP cs i):c∉cs:=by
 intro f;obtain⟨j,b,rfl⟩:=Aat f;have e:i<j:=by
  rcases Adb i j with a|a|a;· exact a
  ·subst a;omega
  ·have:=h.lt b hi a;omega
 have d:i+1<cs.length:=by omega
 rw[EB d]at h2;rcases Aak (i+1) j with a|a;· have:=h.lt d b a;omega
 ·obtain rfl:i+1=j:=by omega
  omega
theorem Dz.const(h:Bl cs)(hc:Dz cs l)(o:Be l)(hi:i<cs.length)(h1:cs[i]<=b)(h2:(b:Int)<=GP cs i)(q:Int):Bg l q b=Bg l q cs[i].toNat:=by
 have u:=h.rg _ (AN hi);have t:=h.hi hi;unfold Bg;split;· rfl
 ·have g:∀e∈(A_ l q).2,Bz b e=Bz cs[i].toNat e:=by
   intro e a;have n:∃s∈l,e∈s.2:=by
    unfold A_ at a;rw[IS]at a;cases k:l[q.toNat]? with
    |none=>rw[k]at a;simp at a
    |some s=>rw[k]at a;exact⟨s,Aai k,a⟩
   obtain⟨s,j,a⟩:=n;have r:=(o s j).rg e a;have v:¬(cs[i]<e.1/\e.1<=GP cs i):=λ⟨d,f⟩=>h.no hi d f (by
    have:=hc e.1.toNat (by omega) (.inr ⟨s,j,e,a, .inl (by omega)⟩);rwa [show((e.1.toNat:Nat):Int)=e.1 by omega]at this);have w:¬(cs[i]<e.2.1+1/\e.2.1+1<=GP cs i):=λ⟨d,f⟩=>h.no hi d f (by
    have:=hc (e.2.1+1).toNat (by omega) (.inr ⟨s,j,e,a, .inr (by omega)⟩);rwa [show(((e.2.1+1).toNat:Nat):Int)=e.2.1+1 by omega]at this);simp only[Bz];rw[show((cs[i].toNat:Nat):Int)=cs[i] by omega];congr 1;· exact decide_eq_decide.2 (by omega)
   ·exact decide_eq_decide.2 (by omega)
  unfold AL;rw[show(A_ l q).2.find? (Bz b)=(A_ l q).2.find? (Bz cs[i].toNat)from ?_];generalize(A_ l q).2=m at g;induction m with
  |nil=>rfl
  |cons e m p=>
   rw[Acz,Acz,g e (by simp),p λe a=>g e (by simp[a])]
theorem Bl.find(h:Bl cs)(b:Nat)(g:b<256):∃i,∃hi:i<cs.length,cs[i]<=b/\(b:Int)<=GP cs i:=by
 have key:∀k,k<cs.length->(∃i,∃hi:i<cs.length,cs[i]<=b/\(b:Int)<=GP cs i)\/∃c:k<cs.length,cs[k]<=b:=by
  intro k;induction k with
  |zero=>intro c;exact .inr ⟨c,by rw[h.vK];omega⟩
  |succ k f=>
   intro c;rcases f (by omega)with a|⟨a,d⟩;· exact .inl a
   ·by_cases e:cs[k+1]<=b;· exact .inr ⟨c,e⟩
    ·exact .inl ⟨k,a,d,by rw[EB c];omega⟩
 rcases key (cs.length-1) (by have:=h.pos;omega)with a|⟨a,d⟩;· exact a
 ·exact⟨_,a,d,by rw[Hj (by omega)];omega⟩
theorem E7(p:Nat->Bool)(k:Nat):(List.range (k+1)).filter p=(List.range k).filter p++(if p k then [k]else []):=by rw[Afb,Afa];simp[Aer]
def ints(l:List Nat):List Int:=l.map λ(n:Nat)=>(n:Int)
theorem ao(a b:List Nat):ints (a++b)=ints a++ints b:=by simp[ints]
theorem a_{p:Nat->Bool}(h0:p 0=Br):Bl (ints ((List.range 256).filter p)):=by
 refine⟨?_,?_,?_⟩
 ·have:List.range 256=0::(List.range' 1 255):=by rw[Ahj];rfl
  rw[this,Aer,if_pos h0];rfl
 ·refine Adv.2 (List.Pairwise.imp (λ{a b} h=>by omega) (List.Pairwise.filter _ List.pairwise_lt_range))
 ·intro c hc;obtain⟨x,d,rfl⟩:=By.1 hc;have:=Abb.1 (Aax.1 d).1;omega
theorem a8(M:Be l)(F:D9 l n)(O:n<fu)(w:256<fu):Ok (wQ fu l) (λcs=>Bl cs/\Dz cs l):=by
 rw[wQ];refine Ok.Af (by decide) (Ok.Af (by decide) ?_);rw[Ei,Bh];let E:Nat->Nat->Nat->Prop:=λk j b=>b=0\/(∃s∈l.take k,∃e∈s.2,e.1=(b:Int)\/e.2.1+1=(b:Int))\/∃s,l[k]?=Ac s/\∃e∈s.2.take j,e.1=(b:Int)\/e.2.1+1=(b:Int);refine Ok.range (λk x=> ∃p,x=Bu 257 p/\∀b,b<257->(p b=Br↔E k 0 b)) l.length ⟨_,rfl,λb c=>?_⟩ (by have:=F.1;omega) (λk x nx d v m=>?_) (λx nx v=>?_);· by_cases h:b=0<;>simp[E,h]
 ·try dsimp only
  have D:l[k]∈l:=AN d;have L:=F.2 _ D;refine Ok.iT (by(try simp only);omega) (Aal d ?_);refine Ok.range (λj x=> ∃p,x=Bu 257 p/\∀b,b<257->(p b=Br↔E k j b)) l[k].2.length v (by omega) (λj x o B g C=>?_) (λx o g=>?_)
  ·try dsimp only
   obtain⟨p,rfl,q⟩:=g;have P:=(M _ D).rg _ (AN B);refine Ok.iT (by(try simp only);omega) (Aal B ?_);try simp only
   have H:l[k].2[j].1=((l[k].2[j].1.toNat:Nat):Int):=by omega
   have I:l[k].2[j].2.1+1=(((l[k].2[j].2.1+1).toNat:Nat):Int):=by omega
   refine Aby (Aby (Aaq (Aby (Ok.Af (by omega) ?_))));rw[Abi,Aek,Abi,Aek,Bh,Bh];refine C _ ⟨_,rf,λb c=>?_⟩;have g:E k (j+1) b↔E k j b\/l[k].2[j].1=(b:Int)\/l[k].2[j].2.1+1=(b:Int):=by
    simp only[E,BY d,Aei,exists_eq_left',Ai B];constructor
    ·rintro(h|h|⟨e,h|rfl,a⟩);· exact .inl (.inl h)
     ·exact .inl (.inr (.inl h))
     ·exact .inl (.inr (.inr ⟨e,h,a⟩))
     ·exact .inr a
    ·rintro((h|h|⟨e,h,a⟩)|h);· exact .inl h
     ·exact .inr (.inl h)
     ·exact .inr (.inr ⟨e, .inl h,a⟩)
     ·exact .inr (.inr ⟨_, .inr rf,h⟩)
   rw[g];by_cases f:b=(l[k].2[j].2.1+1).toNat;· simp only[f,if_true,true_iff];exact .inr (.inr I)
   ·by_cases a:b=l[k].2[j].1.toNat;· simp only[f,if_false];simp only[a,if_true,true_iff];exact .inr (.inl H)
    ·simp only[f,a,if_false,q b c];constructor;· exact .inl
     ·rintro(h|h|h);· exact h
      ·omega
      ·omega
  ·try dsimp only
   refine Ok.iF (by(try simp only);omega) (m _ ?_);obtain⟨p,rfl,q⟩:=g;refine⟨p,rfl,λb c=>?_⟩;rw[q b c];simp only[E,BY d,Aei,exists_eq_left',Ai d,An,Aep];constructor
   ·rintro(h|⟨s,f,a⟩|h);· exact .inl h
    ·exact .inr (.inl ⟨s, .inl f,a⟩)
    ·exact .inr (.inl ⟨_, .inr rf,h⟩)
   ·rintro(h|⟨s,f|rfl,a⟩|⟨s,_,e,K,_⟩);· exact .inl h
    ·exact .inr (.inl ⟨s,f,a⟩)
    ·exact .inr (.inr a)
    ·cases K
 ·try dsimp only
  obtain⟨p,rfl,q⟩:=v;have r:∀b,b<257->(p b=Br↔Ends l b):=λb c=>by
   rw[q b c];simp only[E,An];constructor
   ·rintro(h|h|⟨s,h,_⟩);· exact .inl h
    ·exact .inr h
    ·rw[Acj (Aad _)]at h;cases h
   ·rintro(h|h);· exact .inl h
    ·exact .inr (.inl h)
  refine Ok.iF (by(try simp only);omega) ?_;refine Ok.loop (X:=List Int×Int) (λx=>(0<=x.2/\x.2<=256)/\x.1=ints ((List.range x.2.toNat).filter p)) (λx=>256-x.2.toNat) ⟨⟨by decide,by decide⟩,rfl⟩ (by simpa using w) λx o J _ m=>?_;obtain⟨x,i⟩:=x;obtain⟨⟨y,A⟩,t⟩:=J;dsimp only at y A t m;obtain⟨k,rfl⟩:∃k:Nat,i=k:=⟨i.toNat,by omega⟩;rw[Abq]at t;try dsimp only
  refine Ok.ite (λd=>?_) λd=>?_
  ·subst t;have d:k<256:=by omega
   rw[Abq,Abi,Aek];have m:∀z,z=ints ((List.range (k+1)).filter p)->Ok (o (z,(k:Int)+1)) (λcs=>Bl cs/\Dz cs l):=λz N=>m (z,(k:Int)+1) ⟨⟨by dsimp only;omega,by dsimp only;omega⟩,by dsimp only;rw[N,show((k:Int)+1).toNat=k+1 by omega]⟩ (by dsimp only;omega);refine Aby (IN (AR (by omega)) (Ok.bif (λh=>Ok.Af ?_ (Aaq (m _ ?_))) λh=>Aaq (m _ ?_)));· have:=Ahg p (List.range k);rw[Agn]at this;simp[ints];unfold Ag;omega
   ·rw[E7,ao,if_pos h];rfl
   ·rw[E7,if_neg (by rw[h];decide),Adc]
  ·obtain rfl:k=256:=by omega
   subst t;refine(Ok.some ⟨a_ ((r 0 (by decide)).2 (.inl rfl)),λb c g=>?_⟩);exact By.2 ⟨b,Aax.2 ⟨Abb.2 c,(r b (by omega)).2 g⟩,rfl⟩
def sk(n:Nat)(t:Int):Int:=if t<0 then n else t
def GO(l:Tb)(cs:List Int)(q i:Nat):Int:=sk l.length (Bg l (q:Nat) (cs.getD i 0).toNat)
def Uv(l:Tb)(q:Nat):Bool:=(A_ l (q:Nat)).1
def Zy(l:Tb)(cs:List Int)(q:Nat):List Int:=Bu cs.length (GO l cs q)
def Fp(l:Tb)(cs a:List Int):List Int×List (List Int)×List Bool×List Int:=(cs,Bu (l.length+1) (Zy l cs),Bu (l.length+1) (Uv l),a)
theorem getD_at(h:i<cs.length):cs.getD i 0=cs[i]:=by grind
theorem ZR(l:Tb)(t:Int)(h:t<l.length):Aw l (sk l.length t)=Aw l t:=by
 unfold sk;split
 ·rename_i h;funext w;rw[De h];have a:A_ l (l.length:Nat)=(Ap,[]):=by simp[A_]
  cases w with
  |nil=>grind[Aw,runT,fin]
  |cons c w=>
   have:Bg l (l.length:Nat) c.toNat= -1:=by unfold Bg;rw[if_neg (by omega),a];rfl
   show Aw l (Bg l (l.length:Nat) c.toNat) w=Ap;grind[De]
 rfl
theorem uK(a:Be l)(q:Int)(b:Nat):0<=sk l.length (Bg l q b)/\sk l.length (Bg l q b)<(l.length+1:Nat):=by have:=a.st q b;grind[sk]
theorem Ow{c:Nat} :∀ {es:List Cm} {m n:Nat} (_:BM es m n) (a:Int),es.foldl (λa e=>if Bz c e then e.2.2 else a) a=match es.find? (Bz c)with|some e=>e.2.2|none=>a
 | [],_,_,_,_=>rfl
 |e::es,m,n,h,a=>by
  have f:BM es m n:=⟨λx d=>h.rg x (by grind),(Abk.1 h.so).2⟩;rw[Adn,Ow f,Acz];by_cases b:Bz c e=Br
  ·have:es.find? (Bz c)=C7:=Adr.2 λx d=>by
    have g:=(Abk.1 h.so).1 x d;grind[Bz]
   grind
  grind
theorem WL{es:List Cm}{m:Nat}(h:BM es m n):es.foldl (λa e=>if Bz c e then e.2.2 else a) (n:Int)=sk n (AL es c):=by
 rw[Ow h];unfold AL;cases b:es.find? (Bz c)with
 |some e=>
  have:=h.rg e (Abv b);grind[sk]
 |none=>rfl
theorem Sn(K:Be l)(u:D9 l n)(U:n<4294967296)(R:n<fu)(F:256<fu):Ok (zW fu l) (λx=> ∃cs,Bl cs/\Dz cs l/\x=(cs,[],(Fp l cs []).2.1,(Fp l cs []).2.2.1)):=by
 rw[zW];refine Ok.Ab (a8 K u R F) λcs ⟨o,E⟩=>?_;have Q:=o.le;have S:=u.1;refine Ok.Ev (λk y x=>x=Bu k (Uv l)/\y=Bu k (Zy l cs)) l.length ⟨rfl,rfl⟩ (by omega) (λk x y nx H D G=>?_) (λx y nx D=>?_)
 ·obtain⟨rfl,rfl⟩:=D
  have I:l[k]∈l:=AN H;have T:=u.2 _ I;have O:=K _ I;have d:A_ l (k:Nat)=l[k]:=Bo (by omega) (by omega);refine Ok.iu (Aal H (Ok.Af (by grind) ?_));rw[Ei];refine Ok.range (λi x=>x=Bu cs.length (λj=>if j<i then GO l cs k j else 0)) cs.length (by simp) (by omega) (λi x t p m r=>?_) (λx t m=>?_)
  ·subst m
   refine Ok.iu (Aal p (IN (AR p) ?_));rw[Bh];have P:=o.rg _ (AN p);refine Ok.range (λj x=>x=Bu cs.length (λq=>if q=i then(l[k].2.take j).foldl (λa e=>if Bz cs[i].toNat e then e.2.2 else a) (l.length:Int)else if q<i then GO l cs k q else 0)) l[k].2.length (by simp) (by omega) (λj x z A s v=>?_) (λx z s=>?_)
   ·subst s;try dsimp only
    refine Ok.iu (Aal A ?_);have u:(l[k].2.take (j+1)).foldl (λa e=>if Bz cs[i].toNat e then e.2.2 else a) (l.length:Int)=if Bz cs[i].toNat l[k].2[j]then l[k].2[j].2.2 else(l[k].2.take j).foldl (λa e=>if Bz cs[i].toNat e then e.2.2 else a) (l.length:Int):=by grind[List.take_append_getElem]
    have w:Bz cs[i].toNat l[k].2[j]=Ap->Ok (z (Bu cs.length (λq=>if q=i then(l[k].2.take j).foldl (λa e=>if Bz cs[i].toNat e then e.2.2 else a) (l.length:Int)else if q<i then GO l cs k q else 0),j+1)) (λx=> ∃cs,Bl cs/\Dz cs l/\x=(cs,[],(Fp l cs []).2.1,(Fp l cs []).2.2.1)):=λh=>v _ (by rw[u,h];rfl);refine Ok.ite (λN=>Ok.ite (λf=>IN (AR p) ?_) λf=>?_) λN=>?_;· rw[Bh];grind[Bz]
    ·exact w (by simp only[Bz,Afx,decide_eq_false_iff_not];omega)
    grind[Bz]
   ·subst s
    refine Ok.io (r _ (A0 λq B=>?_));rw[An,WL O];by_cases h:q=i;· subst h;simp only[if_true,Afy];unfold GO Bg;rw[if_neg (by omega),d,getD_at p]
    ·rw[if_neg h];by_cases f:q<i;· rw[if_pos f,if_pos (by omega)]
     ·rw[if_neg f,if_neg (by omega)]
  ·subst m
   refine Ok.io (Ok.Af (by rw[AE];unfold Ag;omega) (Ok.Af (by rw[AE];unfold Ag;omega) (G _ _ ⟨?_,?_⟩)));· rw[Da];unfold Uv;rw[d]
   ·rw[Da];unfold Zy;rw[A0 (g:=GO l cs k) λj A=>by rw[if_pos A]]
 ·obtain⟨rfl,rfl⟩:=D
  refine Ok.io (Ok.Af (by unfold Ag;omega) ?_);have J:A_ l (l.length:Nat)=(Ap,[]):=by unfold A_;simp
  refine Ok.range (λi x=>x=Bu cs.length (λj=>if j<i then(l.length:Int)else 0)) cs.length (by rw[Ei];rfl) (by omega) (λi x t p s r=>?_) (λx t s=>?_)
  ·subst s;try dsimp only
   refine Ok.iT (by simp;omega) (IN (AR p) (r _ ?_));rw[Bh];refine A0 λq B=>?_;by_cases h:q=i;· subst h;simp
   ·rw[if_neg h];by_cases f:q<i;· rw[if_pos f,if_pos (by omega)]
    ·rw[if_neg f,if_neg (by omega)]
  ·subst s;try dsimp only
   refine Ok.iF (by simp) (Ok.Af (by rw[AE];unfold Ag;simp;omega) (Ok.Af (by rw[AE];unfold Ag;simp;omega) (Ok.some ⟨cs,o,E,?_⟩)));unfold Fp;rw[Da,Da];have L:Uv l l.length=Ap:=by unfold Uv;rw[J]
   have M:Zy l cs l.length=Bu cs.length (λj=>if j<cs.length then(l.length:Int)else 0):=by unfold Zy;refine A0 λq B=>?_;rw[if_pos B];unfold GO Bg;rw[if_neg (by omega),J];rfl
   rw[L,M]
def Cj(l:Tb):Nat:=l.length+1
theorem FK(a:Be l)(cs:List Int)(q i:Nat):0<=GO l cs q i/\GO l cs q i<Cj l:=uK a _ _
theorem Oi(a:Be l)(hc:Bl cs)(q:Nat)(hi:i<cs.length):Aw l (GO l cs q i)=Ia (Aw l (q:Nat)) cs[i].toNat:=by have b:=hc.rg _ (AN hi);rw[E8 _ _ _ (by omega)];unfold GO;rw[ZR _ _ (by have:=a.st (q:Nat) (cs.getD i 0).toNat;omega),getD_at hi]
theorem Jm(d:Be l)(hc:Bl cs)(c:Dz cs l)(q:Int)(hi:i<cs.length)(a:b<256)(h1:cs[i]<=b)(h2:(b:Int)<=GP cs i):Ia (Aw l q) b=Ia (Aw l q) cs[i].toNat:=by rw[E8 _ _ _ a,E8 _ _ _ (by omega),c.const hc d hi h1 h2]
theorem PF(l:Tb)(q:Nat):Aw l (q:Nat) []=Uv l q:=by rfl
theorem Vu{l:Tb}(a:Be l){cs:List Int}(hc:Bl cs)(j:Dz cs l)(c:Nat->Int)
  (h1:∀s t,s<Cj l->t<Cj l->c s=c t->Uv l s=Uv l t)
  (h2:∀s t,s<Cj l->t<Cj l->c s=c t->∀i,i<cs.length->c (GO l cs s i).toNat=c (GO l cs t i).toNat):
  ∀(w:List UInt8) (s t:Nat),s<Cj l->t<Cj l->c s=c t->Aw l (s:Nat) w=Aw l (t:Nat) w
 | [],s,t,f,g,h=>by grind[PF]
 |b::w,s,t,f,g,h=>by
  obtain⟨i,d,k,m⟩:=hc.find b.toNat b.toNat_lt;have e:∀q:Nat,Aw l (q:Nat) (b::w)=Aw l (GO l cs q i) w:=λq=>by rw[Oi a hc q d,<-Jm a hc j q d b.toNat_lt k m];simp[Ia]
  have n:=FK a cs s i;have o:=FK a cs t i;have:=Vu a hc j c h1 h2 w (GO l cs s i).toNat (GO l cs t i).toNat (by omega) (by omega) (h2 s t f g h i d);grind[Int.toNat_of_nonneg]
def Ej(l:Tb)(cs:List Int)(c:Nat->Int)(s:Nat):Au:=Lib.itoa (c s)++DE (Bu cs.length λi=>c (GO l cs s i).toNat)
theorem L4(n:Nat)(f:Nat->Int):DE (Bu (n+1) f)=DE (Bu n f)++(([44]:Au)++Lib.itoa (f n)):=by grind[DE,Da]
theorem N0{f:Nat->Int}(h:∀i,i<n->(Lib.itoa (f i)).length<=10):(DE (Bu n f)).length<=11*n:=by
 induction n with
 |zero=>simp[Bu,DE]
 |succ n b=>
  grind[L4,List.length_append]
def bI(s:Au):List Int:=s.map λb=>((b.toNat:Nat):Int)
theorem rv(s t:Au):bI (s++t)=bI s++bI t:=by simp[bI]
theorem Yw{s:Au}{x:List Int}(h:x.length+s.length<=1000000000):wP fu (s,x)=Ac ((s.length:Int),x++bI s):=by rw[wP];refine Ok.eq (IN (d41 fu x) (Aby (Ok.some rfl)))
theorem nW(s:Au):zU fu (bI s)=Ac s:=by rw[zU];refine Ok.eq (Ok.Af ⟨rfl,rfl⟩ (Ok.some ?_));simp_all[bI,Aao,Aga,Abt]
structure ClsB(l:Tb)(c:Nat->Int):Prop where
 rg:∀s,s<Cj l->0<=c s/\c s<=l.length
theorem OE{n:Int}(h0:0<=n)(h:n<10000000000):(Lib.itoa n).length<=10:=by obtain⟨u,rfl⟩:∃u:Nat,n=u:=⟨n.toNat,by omega⟩;grind[aj]
theorem Pm{c:Nat->Int}(m:Be l)(hc:Bl cs)(t:ClsB l c)(C:l.length<=n)(D:n<4294967296)(B:256<fu)(g:s<Cj l):
  Ok (zT fu ((Fp l cs (Bu (Cj l) c)),(s:Int))) (λr=>r=Ej l cs c s/\r.length<=4096):=by
 rw[zT];unfold Fp;have w:=hc.le;have b:∀q,q<Cj l->(Lib.itoa (c q)).length<=10:=λq d=>by have:=t.rg q d;grind[OE]
 have e:∀q,q<Cj l->zV fu (c q)=Ac (Lib.itoa (c q)):=λq d=>by have:=t.rg q d;exact(d40 fu _).trans (mX (p:=GK.Dn (c q)) (by omega))
 have u:=b s g;refine IN (AR g) (IN (e s g) (IN (Yw (by grind)) (IN (AR g) ?_)));refine Ok.range (λi x=>x=bI (Lib.itoa (c s)++DE (Bu i λi=>c (GO l cs s i).toNat))) cs.length (by simp[Bu,DE,bI]) (by omega) (λi x nx y o k=>?_) (λx nx o=>?_)
 ·subst o
  have E:=FK m cs s i;have d:(GO l cs s i).toNat<Cj l:=by omega
  have A:=b _ d;have v:=N0 (n:=i) (f:=λi=>c (GO l cs s i).toNat) λj z=>b _ (by simp_all[FK]);refine Ok.iT (by simp only[Zy,AE];omega) (IN (by exact AR y) (IN (a:=c (GO l cs s i).toNat) ?_ (IN (e _ d) (Ok.Af (by simp;omega) (IN (Yw (by simp[bI];omega)) (k _ ?_))))));· rw[show GO l cs s i=(((GO l cs s i).toNat:Nat):Int) by omega];exact AR (by omega)
  grind[Lib.itoa,L4,List.append_assoc,rv]
 ·subst o
  have v:=N0 (n:=cs.length) (f:=λi=>c (GO l cs s i).toNat) λj z=>b _ (by have:=FK m cs s j;omega);refine Ok.iF (by simp only[Zy,AE];omega) (IN (nW _) (Ok.some ⟨rfl,?_⟩));rw[Pd];omega
theorem FC{c:Nat->Int}(g:Be l)(e:ClsB l c){t:Nat}(f:s<Cj l)(ht:t<Cj l):
  Ej l cs c s=Ej l cs c t↔c s=c t/\∀i,i<cs.length->c (GO l cs s i).toNat=c (GO l cs t i).toNat:=by
 have a:∀q,∀z∈(Bu cs.length λi=>c (GO l cs q i).toNat),0<=z:=λq z a=>by obtain⟨i,_,rfl⟩:=E0.1 a;exact(e.rg _ (by simp_all[FK])).1
 constructor;· intro h;obtain⟨b,d⟩:=eB (a s) (a t) (e.rg s f).1 (e.rg t ht).1 h;grind[UW]
 grind[Ej,UW]
def DX(m:List (Au×Int))(u:List Au):Prop:=m.length=u.length/\∀x,AA m x=if x∈u then Ac ((u.idxOf x:Nat):Int)else C7
theorem DX.nil:DX [] []:=⟨rfl,λx=>rfl⟩
theorem DX.put(h:DX m u)(c:x∉u):DX (Bs m x (u.length:Int)) (u++[x]):=by refine⟨by rw[Kr,h.2,if_neg c,h.1];simp,λz=>?_⟩;rw[HW,h.2];grind
theorem DX.some(h:DX m u)(x:Au):(AA m x).isSome=decide (x∈u):=by rw[h.2];grind
theorem DX.getD(h:DX m u)(b:x∈u):(AA m x).getD 0=((u.idxOf x:Nat):Int):=by rw[h.2,if_pos b];rfl
theorem OG{α:Type} [BEq α] [LawfulBEq α]{u:List α}{x y:α}(e:x∈u)(f:y∈u)(h:u.idxOf x=u.idxOf y):x=y:=by have c:=Acx e;have a:=Aey c;grind
structure Wv(l:Tb)(c:Nat->Int):Prop extends ClsB l c where
 iff:∀s t,s<Cj l->t<Cj l->(c s=c t↔Aw l (s:Nat)=Aw l (t:Nat))
structure rO(l:Tb)(k:Nat)(c:Nat->Int):Prop extends ClsB l c where
 fwd:∀s t,s<Cj l->t<Cj l->Aw l (s:Nat)=Aw l (t:Nat)->c s=c t
 acc:∀s t,s<Cj l->t<Cj l->c s=c t->Uv l s=Uv l t
 AH:k=0\/∃(key:Nat->Au) (u:List Au),Ga (Cj l) key u/\u.length=k/\∀s t,s<Cj l->t<Cj l->c s=c t->key s=key t
theorem W3(q:Be l)(h0:0<l.length)(hc:Bl cs)(Z:Dz cs l)(hl:l.length<=n)(hn:n<4294967296)(hfu:n+2<fu)(I:256<fu):
  Ok (zS fu (cs,[],(Fp l cs []).2.1,(Fp l cs []).2.2.1)) (λr=> ∃c,Wv l c/\r=Fp l cs (Bu (Cj l) c)):=by
 have hN:Cj l=l.length+1:=rfl;rw[zS];unfold Fp;simp only[AE];refine Ok.Af (by grind) ?_;rw[Ei];refine Ok.range (λk x=>x=Bu (Cj l) (λs=>if s<k then(if Uv l s then 1 else 0)else 0)) (Cj l) (by rfl) (by omega) (λk x nx Q L D=>?_) (λx nx L=>?_)
 ·subst L
  refine Ok.iu (IN (AR Q) (Ok.bif (λh=>IN (AR Q) (D _ ?_)) λh=>D _ (A0 λs a=>?_)))
  all_goals grind[Bh]
 ·subst L
  refine Ok.iF (by omega) ?_;refine Ok.loop (X:=List Int×Int) (λx=> ∃k:Nat,x.2=k/\k<=Cj l/\∃c,x.1=Bu (Cj l) c/\rO l k c) (λx=>Cj l-x.2.toNat) ⟨0,rf,by simp,_,rf,⟨⟨λs a=>?_⟩,λs t a b h=>?_,λs t a b h=>?_, .inl rf⟩⟩ (by omega) λx nx d _ D=>?_;· omega
  ·rw[if_pos a,if_pos b,<-PF,<-PF,h]
  ·grind
  obtain⟨cl,ki⟩:=x;obtain⟨k,J,Q,c,C,d⟩:=d;subst C
  refine Ok.Af (by grind) ?_;refine Ok.Ev (λj y m=> ∃u,Ga j (Ej l cs c) u/\DX m u/\y=Bu (Cj l) (λs=>if s<j then((u.idxOf (Ej l cs c s):Nat):Int)else 0)) (Cj l) ⟨[], .zero _, .nil,by rfl⟩ (by omega) (λj y m T P O F=>?_) (λy m T O=>?_)
  ·obtain⟨u,A,g,rfl⟩:=O;have K:=A.le
   refine Ok.iu (Ok.Ab (Pm q hc d.toClsB hl hn I P) λx L=>?_);obtain⟨rfl,hxl⟩:=L;have M:(Ej l cs c j).length<=Ag:=by grind
   refine Ok.Af M (Ok.bif (λh=>?_) λh=>?_)
   ·rw[g.some]at h;have o:Ej l cs c j∉u:=by simpa using h
    refine Ok.Af ⟨M,by rw[g.1];omega⟩ ?_;refine IN (AR P) (F _ _ ⟨u++[Ej l cs c j],A.new o,by rw[g.1];exact g.put o,?_⟩);rw[Bh];refine A0 λs a=>?_;by_cases p:s=j;· subst p;rw[if_pos rfl,if_pos (by omega),Afe,if_neg o,g.1];simp
    ·rw[if_neg p];by_cases e:s<j;· rw[if_pos e,if_pos (by omega),Afe,if_pos ((A.mem _).2 ⟨s,e,rfl⟩)]
     ·rw[if_neg e,if_neg (by omega)]
   ·rw[g.some]at h;have o:Ej l cs c j∈u:=by simpa using h
    refine IN (AR P) (F _ _ ⟨u,A.old o,g,?_⟩);rw[Bh,g.getD o];refine A0 λs a=>?_;by_cases p:s=j;· subst p;rw[if_pos rfl,if_pos (by omega)]
    ·rw[if_neg p];by_cases e:s<j;· rw[if_pos e,if_pos (by omega)]
     ·rw[if_neg e,if_neg (by omega)]
  ·obtain⟨u,A,g,rfl⟩:=O;have K:=A.le;have W:0<u.length:=Aev ((A.mem _).2 ⟨0,by omega,rfl⟩);have z:∀s,s<Cj l->Ej l cs c s∈u:=λs a=>(A.mem _).2 ⟨s,a,rfl⟩;try dsimp only
   have C:Bu (Cj l) (λs=>if s<Cj l then((u.idxOf (Ej l cs c s):Nat):Int)else 0)=Bu (Cj l) (λs=>((u.idxOf (Ej l cs c s):Nat):Int)):=
    A0 λs a=>by rw[if_pos a]
   rw[C];have U:ClsB l (λs=>((u.idxOf (Ej l cs c s):Nat):Int)):=⟨λs a=>by
    have:=Acx (z s a);omega⟩;have f:∀s t,s<Cj l->t<Cj l->(((u.idxOf (Ej l cs c s):Nat):Int)=((u.idxOf (Ej l cs c t):Nat):Int)↔Ej l cs c s=Ej l cs c t):=λs t a b=>
    ⟨λh=>OG (z s a) (z t b) (Int.ofNat_inj.1 h),λh=>by rw[h]⟩;have E:∀s t,s<Cj l->t<Cj l->Aw l (s:Nat)=Aw l (t:Nat)->Ej l cs c s=Ej l cs c t:=λs t a b h=>by
    refine(FC q d.toClsB a b).2 ⟨d.fwd s t a b h,λi V=>?_⟩;have r1:=FK q cs s i;have r2:=FK q cs t i;refine d.fwd _ _ (by omega) (by omega) ?_;rw[Aaz r1.1,Aaz r2.1,Oi q hc s V,Oi q hc t V,h]
   have G:∀s t,s<Cj l->t<Cj l->Ej l cs c s=Ej l cs c t->Uv l s=Uv l t:=λs t a b h=>
    d.acc s t a b ((FC q d.toClsB a b).1 h).1;refine Ok.iF (by(try rw[AE])<;>omega) (Ok.ite (λh=>Ok.some ⟨λs=>((u.idxOf (Ej l cs c s):Nat):Int),⟨U,λs t a b=>?_⟩,rfl⟩) λh=>?_)
   ·rw[f s t a b];refine⟨λY=>?_,E s t a b⟩;rw[g.1]at h
    obtain⟨key,v,R,S,B⟩:=d.AH.resolve_left (by omega);have H:=(R.aJ A (λs t a b h=>B s t a b ((FC q d.toClsB a b).1 h).1)).2 (by omega);funext w;refine Vu q hc Z c (λs t a b h=>d.acc s t a b h) (λs t a b h=>?_) w s t a b ((FC q d.toClsB a b).1 Y).1;exact((FC q d.toClsB a b).1 (H s t a b (B s t a b h))).2
   ·have hlt:k<u.length:=by
     rcases d.AH with h0|⟨key,v,R,S,B⟩;· omega
     ·have:=(R.aJ A (λs t a b h=>B s t a b ((FC q d.toClsB a b).1 h).1)).1;rw[g.1]at h;omega
    refine D (_,(m.length:Int)) ⟨m.length,rf,by rw[g.1];exact K,_,rf,⟨⟨U.rg⟩,λs t a b h=>(f s t a b).2 (E s t a b h),λs t a b h=>G s t a b ((f s t a b).1 h), .inr ⟨Ej l cs c,u,A,g.1.symm,λs t a b h=>(f s t a b).1 h⟩⟩⟩ ?_;have:=g.1;omega
end
end Go.GL
