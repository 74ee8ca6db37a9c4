/- Part 6 of the texts of this claim: what its theorem leans on. -/
import Derived.Test.YtjmbmodmepdmjaaGreatDoorZAutomatonOf5
set_option maxRecDepth 100000
set_option maxHeartbeats 4000000
namespace Go.GK
def DE(fu:Nat)(k1424:Nat)(nx1419:((List Bool)×Nat)→Option (List Bool))(x1434:Bool×(List (Int×Int×Int)))(l1501:List Bool)(k1505:Nat)(nx1500:((List Bool)×Nat)→Option (List Bool)):Option (List Bool):=
 bif decide (((k1505:Nat):Int)<((x1434.2.length:Nat):Int))then(AX (idx x1434.2 ((k1505:Nat):Int)) (fun x1515=>AX (idx l1501 ((k1424:Nat):Int)) (fun x1523=>bif x1523 then(AX (idx l1501 ((k1424:Nat):Int)) (fun x1527=>nx1500 (l1501.set k1424 true,k1505+1)))else(AX (idx l1501 x1515.2.2) (fun x1532=>AX (idx l1501 ((k1424:Nat):Int)) (fun x1527=>nx1500 (l1501.set k1424 x1532,k1505+1)))))))else(nx1419 (l1501,k1424+1))
def FC(fu:Nat)(k1424:Nat)(nx1419:((List Bool)×Nat)→Option (List Bool))(x1434:Bool×(List (Int×Int×Int)))(l1586:List Bool)(k1590:Nat)(nx1585:((List Bool)×Nat)→Option (List Bool)):Option (List Bool):=
 bif decide (((k1590:Nat):Int)<((x1434.2.length:Nat):Int))then(AX (idx x1434.2 ((k1590:Nat):Int)) (fun x1600=>AX (idx l1586 ((k1424:Nat):Int)) (fun x1608=>bif x1608 then(AX (idx l1586 ((k1424:Nat):Int)) (fun x1612=>nx1585 (l1586.set k1424 true,k1590+1)))else(AX (idx l1586 x1600.2.2) (fun x1617=>AX (idx l1586 ((k1424:Nat):Int)) (fun x1612=>nx1585 (l1586.set k1424 x1617,k1590+1)))))))else(nx1419 (l1586,k1424+1))
def EI(fu:Nat)(a0:List (Bool×(List (Int×Int×Int))))(k1063:Nat)(nx1058:((List Bool)×Nat)→Option (List Bool))(l1420:List Bool)(k1424:Nat)(nx1419:((List Bool)×Nat)→Option (List Bool)):Option (List Bool):=
 bif decide (((k1424:Nat):Int)<((a0.length:Nat):Int))then(AX (idx a0 ((k1424:Nat):Int)) (fun x1434=>AX (idx l1420 ((k1424:Nat):Int)) (fun x1441=>bif x1441 then(AX (idx l1420 ((k1424:Nat):Int)) (fun x1445=>Ax fu (fun p nx=>DE fu k1424 nx1419 x1434 p.1 p.2 nx) (l1420.set k1424 true,0)))else(AX (idx l1420 ((k1424:Nat):Int)) (fun x1445=>Ax fu (fun p nx=>FC fu k1424 nx1419 x1434 p.1 p.2 nx) (l1420.set k1424 x1434.1,0))))))else(nx1058 (l1420,k1063+1))
def EJ(fu:Nat)(a0:List (Bool×(List (Int×Int×Int))))(l1059:List Bool)(k1063:Nat)(nx1058:((List Bool)×Nat)→Option (List Bool)):Option (List Bool):=
 bif decide (((k1063:Nat):Int)<((a0.length:Nat):Int))then(Ax fu (fun p nx=>EI fu a0 k1063 nx1058 p.1 p.2 nx) (l1059,0))else(some l1059)
def Hb(fu:Nat)(a0:List (Bool×(List (Int×Int×Int)))):Option (List Bool):=
 A0 (a0.length≤AH) (Ax fu (fun p nx=>EJ fu a0 p.1 p.2 nx) ((List.replicate a0.length false:List Bool),0))
def Dj(fu:Nat)(a0:List Int)(a1:List Int)(k40:Nat)(nx39:Nat→Option Bool):Option Bool:=
 bif decide (((k40:Nat):Int)<((a0.length:Nat):Int))then(AX (idx a0 ((k40:Nat):Int)) (fun x56=>AX (idx a1 ((k40:Nat):Int)) (fun x59=>bif decide (x56≠x59)then(some false)else(nx39 (k40+1)))))else(some true)
def FA(fu:Nat)(a0:List Int)(a1:List Int):Option Bool:=
 bif decide (((a0.length:Nat):Int)≠((a1.length:Nat):Int))then(some false)else(Ax fu (Dj fu a0 a1) 0)
def Fc(fu:Nat)(a0:List (List Int))(a1:List Int)(k27:Nat)(nx26:Nat→Option Int):Option Int:=
 bif decide (((k27:Nat):Int)<((a0.length:Nat):Int))then(AX (idx a0 ((k27:Nat):Int)) (fun x37=>AX (FA fu x37 a1) (fun x42=>bif x42 then(some ((k27:Nat):Int))else(nx26 (k27+1)))))else(some (-1))
def Hn(fu:Nat)(a0:List (List Int))(a1:List Int):Option Int:=
 Ax fu (Fc fu a0 a1) 0
def Dp(fu:Nat)(l1233:List Int)(k1237:Nat)(nx1232:((List Int)×Nat)→Option (List Int))(i1257:Int):Option (List Int):=
 A0 (l1233.length+([i1257]:List Int).length≤AH) (nx1232 (l1233++([i1257]:List Int),k1237+1))
def Dn(fu:Nat)(l1153:List Int)(k1161:Nat)(nx1152:((List Int)×(List (List Int))×Nat)→Option (List Int))(l1290:List (List Int))(i1294:Int):Option (List Int):=
 AX (idx l1153 ((k1161:Nat):Int)) (fun x1300=>nx1152 (l1153.set k1161 i1294,l1290,k1161+1))
def Dq(fu:Nat)(a0:List (Bool×(List (Int×Int×Int))))(a1:List Int)(l876:List Int)(l1153:List Int)(l1157:List (List Int))(k1161:Nat)(nx1152:((List Int)×(List (List Int))×Nat)→Option (List Int))(l1233:List Int)(k1237:Nat)(nx1232:((List Int)×Nat)→Option (List Int)):Option (List Int):=
 bif decide (((k1237:Nat):Int)<((a1.length:Nat):Int))then(AX (idx a1 ((k1237:Nat):Int)) (fun x1247=>A0 (F8 x1247) (AX (Ij fu a0 ((k1161:Nat):Int) x1247) (fun x1251=>bif decide (0≤x1251)then(AX (idx l876 x1251) (fun x1271=>Dp fu l1233 k1237 nx1232 x1271))else(Dp fu l1233 k1237 nx1232 x1251)))))else(AX (Hn fu l1157 l1233) (fun x1274=>bif decide (x1274<0)then(A0 (l1157.length+([l1233]:List (List Int)).length≤AH) (Dn fu l1153 k1161 nx1152 (l1157++([l1233]:List (List Int))) ((l1157.length:Nat):Int)))else(Dn fu l1153 k1161 nx1152 l1157 x1274)))
def Dr(fu:Nat)(a0:List (Bool×(List (Int×Int×Int))))(a1:List Int)(l876:List Int)(k880:Nat)(k881:Nat)(nx875:((List Int)×Nat×Nat)→Option (List Int))(l1153:List Int)(l1157:List (List Int))(k1161:Nat)(nx1152:((List Int)×(List (List Int))×Nat)→Option (List Int)):Option (List Int):=
 bif decide (((k1161:Nat):Int)<((a0.length:Nat):Int))then(AX (idx l876 ((k1161:Nat):Int)) (fun x1171=>Ax fu (fun p nx=>Dq fu a0 a1 l876 l1153 l1157 k1161 nx1152 p.1 p.2 nx) (([x1171]:List Int),0)))else(bif decide (((l1157.length:Nat):Int)=((k880:Nat):Int))then(some l1153)else(nx875 (l1153,l1157.length,k881+1)))
def Ds(fu:Nat)(a0:List (Bool×(List (Int×Int×Int))))(a1:List Int)(l876:List Int)(k880:Nat)(k881:Nat)(nx875:((List Int)×Nat×Nat)→Option (List Int)):Option (List Int):=
 bif decide (((k881:Nat):Int)<((a0.length:Nat):Int))then(A0 (a0.length≤AH) (Ax fu (fun p nx=>Dr fu a0 a1 l876 k880 k881 nx875 p.1 p.2.1 p.2.2 nx) ((List.replicate a0.length 0:List Int),([]:List (List Int)),0)))else(some l876)
def DT(fu:Nat)(a0:List (Bool×(List (Int×Int×Int))))(a1:List Int)(l48:List Int)(k52:Nat)(nx47:((List Int)×Nat)→Option (List Int)):Option (List Int):=
 bif decide (((k52:Nat):Int)<((a0.length:Nat):Int))then(AX (idx a0 ((k52:Nat):Int)) (fun x62=>bif x62.1 then(AX (idx l48 ((k52:Nat):Int)) (fun x70=>nx47 (l48.set k52 1,k52+1)))else(nx47 (l48,k52+1))))else(Ax fu (fun p nx=>Ds fu a0 a1 p.1 p.2.1 p.2.2 nx) (l48,0,0))
def GA(fu:Nat)(a0:List (Bool×(List (Int×Int×Int))))(a1:List Int):Option (List Int):=
 A0 (a0.length≤AH) (Ax fu (fun p nx=>DT fu a0 a1 p.1 p.2 nx) ((List.replicate a0.length 0:List Int),0))
def DO(fu:Nat)(x4:List Bool)(l217:List (Bool×(List (Int×Int×Int))))(k221:Nat)(nx216:((List (Bool×(List (Int×Int×Int))))×Nat)→Option (List (Bool×(List (Int×Int×Int)))))(x231:Bool×(List (Int×Int×Int)))(l292:List (Int×Int×Int))(k296:Nat)(nx291:((List (Int×Int×Int))×Nat)→Option (List (Bool×(List (Int×Int×Int))))):Option (List (Bool×(List (Int×Int×Int)))):=
 bif decide (((k296:Nat):Int)<((x231.2.length:Nat):Int))then(AX (idx x231.2 ((k296:Nat):Int)) (fun x306=>AX (idx x4 x306.2.2) (fun x314=>bif x314 then(A0 (l292.length+([x306]:List (Int×Int×Int)).length≤AH) (nx291 (l292++([x306]:List (Int×Int×Int)),k296+1)))else(nx291 (l292,k296+1)))))else(A0 (l217.length+([(x231.1,l292)]:List (Bool×(List (Int×Int×Int)))).length≤AH) (nx216 (l217++([(x231.1,l292)]:List (Bool×(List (Int×Int×Int)))),k221+1)))
def DP(fu:Nat)(a0:List (Bool×(List (Int×Int×Int))))(x4:List Bool)(l217:List (Bool×(List (Int×Int×Int))))(k221:Nat)(nx216:((List (Bool×(List (Int×Int×Int))))×Nat)→Option (List (Bool×(List (Int×Int×Int))))):Option (List (Bool×(List (Int×Int×Int)))):=
 bif decide (((k221:Nat):Int)<((a0.length:Nat):Int))then(AX (idx a0 ((k221:Nat):Int)) (fun x231=>Ax fu (fun p nx=>DO fu x4 l217 k221 nx216 x231 p.1 p.2 nx) (([]:List (Int×Int×Int)),0)))else(some l217)
def Gx(fu:Nat)(a0:List (Bool×(List (Int×Int×Int)))):Option (List (Bool×(List (Int×Int×Int)))):=
 AX (Hb fu a0) (fun x4=>Ax fu (fun p nx=>DP fu a0 x4 p.1 p.2 nx) (([]:List (Bool×(List (Int×Int×Int)))),0))
def Ei(fu:Nat)(l1033:List (Int×Int×Int))(k1037:Nat)(nx1028:((List Int)×(List (Int×Int×Int))×Nat)→Option (List (Bool×(List (Int×Int×Int)))))(x1047:Int×Int×Int)(i1094:Int)(l1124:List Int):Option (List (Bool×(List (Int×Int×Int)))):=
 A0 (l1033.length+([(x1047.1,x1047.2.1,i1094)]:List (Int×Int×Int)).length≤AH) (nx1028 (l1124,l1033++([(x1047.1,x1047.2.1,i1094)]:List (Int×Int×Int)),k1037+1))
def Eh(fu:Nat)(l1033:List (Int×Int×Int))(k1037:Nat)(nx1028:((List Int)×(List (Int×Int×Int))×Nat)→Option (List (Bool×(List (Int×Int×Int)))))(x1047:Int×Int×Int)(i1094:Int)(l1158:List Int):Option (List (Bool×(List (Int×Int×Int)))):=
 A0 (l1033.length+([(x1047.1,x1047.2.1,i1094)]:List (Int×Int×Int)).length≤AH) (nx1028 (l1158,l1033++([(x1047.1,x1047.2.1,i1094)]:List (Int×Int×Int)),k1037+1))
def Ej(fu:Nat)(l1029:List Int)(l1033:List (Int×Int×Int))(k1037:Nat)(nx1028:((List Int)×(List (Int×Int×Int))×Nat)→Option (List (Bool×(List (Int×Int×Int)))))(x1047:Int×Int×Int)(i1094:Int)(nx1093:Int→Option (List (Bool×(List (Int×Int×Int))))):Option (List (Bool×(List (Int×Int×Int)))):=
 bif decide (i1094<((l1029.length:Nat):Int))then(AX (idx l1029 i1094) (fun x1110=>bif decide (x1110≠x1047.2.2)then(A0 (C0 (i1094+1)) (nx1093 (i1094+1)))else(bif decide (i1094=((l1029.length:Nat):Int))then(A0 (l1029.length+([x1047.2.2]:List Int).length≤AH) (Ei fu l1033 k1037 nx1028 x1047 i1094 (l1029++([x1047.2.2]:List Int))))else(Ei fu l1033 k1037 nx1028 x1047 i1094 l1029))))else(bif decide (i1094=((l1029.length:Nat):Int))then(A0 (l1029.length+([x1047.2.2]:List Int).length≤AH) (Eh fu l1033 k1037 nx1028 x1047 i1094 (l1029++([x1047.2.2]:List Int))))else(Eh fu l1033 k1037 nx1028 x1047 i1094 l1029))
def Dk(fu:Nat)(l773:List (Bool×(List (Int×Int×Int))))(k777:Nat)(nx768:((List Int)×(List (Bool×(List (Int×Int×Int))))×Nat)→Option (List (Bool×(List (Int×Int×Int)))))(x791:Bool×(List (Int×Int×Int)))(x802:Bool×(List (Int×Int×Int)))(l1029:List Int)(l1033:List (Int×Int×Int))(k1037:Nat)(nx1028:((List Int)×(List (Int×Int×Int))×Nat)→Option (List (Bool×(List (Int×Int×Int))))):Option (List (Bool×(List (Int×Int×Int)))):=
 bif decide (((k1037:Nat):Int)<((x802.2.length:Nat):Int))then(AX (idx x802.2 ((k1037:Nat):Int)) (fun x1047=>Ax fu (Ej fu l1029 l1033 k1037 nx1028 x1047) 0))else(A0 (l773.length+([(x791.1,l1033)]:List (Bool×(List (Int×Int×Int)))).length≤AH) (nx768 (l1029,l773++([(x791.1,l1033)]:List (Bool×(List (Int×Int×Int)))),k777+1)))
def Ek(fu:Nat)(a0:List (Bool×(List (Int×Int×Int))))(l769:List Int)(l773:List (Bool×(List (Int×Int×Int))))(k777:Nat)(nx768:((List Int)×(List (Bool×(List (Int×Int×Int))))×Nat)→Option (List (Bool×(List (Int×Int×Int))))):Option (List (Bool×(List (Int×Int×Int)))):=
 bif decide (((k777:Nat):Int)<((l769.length:Nat):Int))then(AX (idx l769 ((k777:Nat):Int)) (fun x788=>AX (idx a0 x788) (fun x791=>AX (idx l769 ((k777:Nat):Int)) (fun x799=>AX (idx a0 x799) (fun x802=>Ax fu (fun p nx=>Dk fu l773 k777 nx768 x791 x802 p.1 p.2.1 p.2.2 nx) (l769,([]:List (Int×Int×Int)),0))))))else(some l773)
def Gy(fu:Nat)(a0:List (Bool×(List (Int×Int×Int)))):Option (List (Bool×(List (Int×Int×Int)))):=
 Ax fu (fun p nx=>Ek fu a0 p.1 p.2.1 p.2.2 nx) (([0]:List Int),([]:List (Bool×(List (Int×Int×Int)))),0)
def Dm(fu:Nat)(a0:List Int)(a1:List Int)(a2:Int)(k43:Nat)(nx42:Nat→Option Int):Option Int:=
 bif decide (((k43:Nat):Int)<((a0.length:Nat):Int))then(AX (idx a0 ((k43:Nat):Int)) (fun x53=>AX (idx a1 x53) (fun x62=>AX (idx a1 a2) (fun x65=>bif decide (x62=x65)then(some ((k43:Nat):Int))else(nx42 (k43+1))))))else(some ((a0.length:Nat):Int))
def FB(fu:Nat)(a0:List Int)(a1:List Int)(a2:Int):Option Int:=
 Ax fu (Dm fu a0 a1 a2) 0
def Dt(fu:Nat)(l899:List (Int×Int×Int))(k903:Nat)(nx894:((List Int)×(List (Int×Int×Int))×Nat)→Option ((List (Bool×(List (Int×Int×Int))))×Int))(x913:Int)(i929:Int)(x935:Int)(l946:List Int):Option ((List (Bool×(List (Int×Int×Int))))×Int):=
 A0 (C0 (((l899.length:Nat):Int)-1)) (bif decide (0≤(((l899.length:Nat):Int)-1))then(AX (idx l899 (((l899.length:Nat):Int)-1)) (fun x958=>bif decide (x958.2.2=x935)then(AX (idx l899 (((l899.length:Nat):Int)-1)) (fun x966=>A0 (C0 (x966.2.1+1)) (bif decide ((x966.2.1+1)=x913)then(A0 (F8 i929) (AX (idx l899 (((l899.length:Nat):Int)-1)) (fun x976=>nx894 (l946,l899.set ((((l899.length:Nat):Int)-1).toNat) (x976.1,i929,x976.2.2),k903+1))))else(A0 (F8 x913) (A0 (F8 i929) (A0 (l899.length+([(x913,i929,x935)]:List (Int×Int×Int)).length≤AH) (nx894 (l946,l899++([(x913,i929,x935)]:List (Int×Int×Int)),k903+1))))))))else(A0 (F8 x913) (A0 (F8 i929) (A0 (l899.length+([(x913,i929,x935)]:List (Int×Int×Int)).length≤AH) (nx894 (l946,l899++([(x913,i929,x935)]:List (Int×Int×Int)),k903+1)))))))else(A0 (F8 x913) (A0 (F8 i929) (A0 (l899.length+([(x913,i929,x935)]:List (Int×Int×Int)).length≤AH) (nx894 (l946,l899++([(x913,i929,x935)]:List (Int×Int×Int)),k903+1))))))
def Du(fu:Nat)(x47:List Int)(l895:List Int)(l899:List (Int×Int×Int))(k903:Nat)(nx894:((List Int)×(List (Int×Int×Int))×Nat)→Option ((List (Bool×(List (Int×Int×Int))))×Int))(x913:Int)(x920:Int)(i929:Int):Option ((List (Bool×(List (Int×Int×Int))))×Int):=
 AX (FB fu l895 x47 x920) (fun x935=>bif decide (x935=((l895.length:Nat):Int))then(A0 (l895.length+([x920]:List Int).length≤AH) (Dt fu l899 k903 nx894 x913 i929 x935 (l895++([x920]:List Int))))else(Dt fu l899 k903 nx894 x913 i929 x935 l895))
def Dv(fu:Nat)(x29:List (Bool×(List (Int×Int×Int))))(x35:List Int)(x47:List Int)(l695:List (Bool×(List (Int×Int×Int))))(k699:Nat)(nx690:((List Int)×(List (Bool×(List (Int×Int×Int))))×Nat)→Option ((List (Bool×(List (Int×Int×Int))))×Int))(x713:Bool×(List (Int×Int×Int)))(l895:List Int)(l899:List (Int×Int×Int))(k903:Nat)(nx894:((List Int)×(List (Int×Int×Int))×Nat)→Option ((List (Bool×(List (Int×Int×Int))))×Int)):Option ((List (Bool×(List (Int×Int×Int))))×Int):=
 bif decide (((k903:Nat):Int)<((x35.length:Nat):Int))then(AX (idx x35 ((k903:Nat):Int)) (fun x913=>AX (idx l895 ((k699:Nat):Int)) (fun x916=>A0 (F8 x913) (AX (Ij fu x29 x916 x913) (fun x920=>bif decide (x920<0)then(nx894 (l895,l899,k903+1))else(bif decide ((((k903:Nat):Int)+1)<((x35.length:Nat):Int))then(AX (idx x35 (((k903:Nat):Int)+1)) (fun x1024=>A0 (C0 (x1024-1)) (Du fu x47 l895 l899 k903 nx894 x913 x920 (x1024-1))))else(Du fu x47 l895 l899 k903 nx894 x913 x920 255)))))))else(A0 (l695.length+([(x713.1,l899)]:List (Bool×(List (Int×Int×Int)))).length≤AH) (nx690 (l895,l695++([(x713.1,l899)]:List (Bool×(List (Int×Int×Int)))),k699+1)))
def Dw(fu:Nat)(x29:List (Bool×(List (Int×Int×Int))))(x35:List Int)(x47:List Int)(l691:List Int)(l695:List (Bool×(List (Int×Int×Int))))(k699:Nat)(nx690:((List Int)×(List (Bool×(List (Int×Int×Int))))×Nat)→Option ((List (Bool×(List (Int×Int×Int))))×Int)):Option ((List (Bool×(List (Int×Int×Int))))×Int):=
 bif decide (((k699:Nat):Int)<((l691.length:Nat):Int))then(AX (idx l691 ((k699:Nat):Int)) (fun x710=>AX (idx x29 x710) (fun x713=>Ax fu (fun p nx=>Dv fu x29 x35 x47 l695 k699 nx690 x713 p.1 p.2.1 p.2.2 nx) (l691,([]:List (Int×Int×Int)),0))))else(some (l695,0))
def GD(fu:Nat)(a0:List (Bool×(List (Int×Int×Int)))):Option ((List (Bool×(List (Int×Int×Int))))×Int):=
 AX (FD fu a0) (fun x5=>bif !x5 then(some (([]:List (Bool×(List (Int×Int×Int)))),11))else(bif decide (((a0.length:Nat):Int)=0)then(some (([]:List (Bool×(List (Int×Int×Int)))),0))else(AX (Hb fu a0) (fun x12=>AX (idx x12 0) (fun x18=>bif !x18 then(some (([]:List (Bool×(List (Int×Int×Int)))),0))else(AX (Gy fu a0) (fun x23=>AX (Gx fu x23) (fun x29=>AX (IJ fu x29) (fun x35=>AX (GA fu x29 x35) (fun x47=>Ax fu (fun p nx=>Dw fu x29 x35 x47 p.1 p.2.1 p.2.2 nx) (([0]:List Int),([]:List (Bool×(List (Int×Int×Int)))),0)))))))))))
end Go.GK
namespace Go.Proofs.YtjmbmodmepdmjaaGreatDoor
open Go.GK
variable {H : Hp} {O : List Bj}
theorem Lz{fu:Nat}{a0:List (Bool×(List (Int×Int×Int)))}{v1:Value}{r:List Bool}(hv1:AW (cP cB (cL (cP AZ (cP AZ Ao)))) H a0 v1)(hd:Hb fu a0=some r):
    ED Tryz.prog 27 [v1] H O (fun v H' O'=>(∃v2:Value,v2=v∧AW cB H' r v2)∧O=O'):=by
 intro w hs
 refine Bz Tryz.func27 rf rf rf ?_ hs
 clear hs w
 unfold Hb at hd
 refine Wp.sr<|Aa.op (Ab.assign rf) rf<|Aa.Af<|Wp.seq ?_
 obtain⟨ha1,hd⟩:=Al hd
 refine Wp.region<|Aa.op (Ab.move rf) rf ?_
 have hb1:=hv1.le
 refine Aa.op (Ab.len CG rf hv1.sl) rf<|Aa.JL (c:=cB) (z:=false) (m:=a0.length) GX ES rf rf ha1 (rf) rf rf rf fun v3 xs1 hq1=>Aa.op (Ab.assign rf) rf<|Aa.Af<|Wp.seq<|Wp.sr<|Aa.op (Ab.move rf) rf ?_
 have hb2:=hv1.le
 refine Aa.op (Ab.len CG rf hv1.sl) rf<|Aa.op (Ab.move rf) rf<|Aa.Af<|Wp.block<|Wp.A_ (fun m LL HH OO=> ∃(l1:List Bool),∃(k1:Nat),∃(v4:Value),∃(xs2:List Value),[(0,v1),(3,v4),(12,(.int .i64 (a0.length:Int))),(13,(.int .i64 (k1:Int)))]=LL∧ .row v4 4 1 l1.length xs2::O=OO∧Ax m (fun p nx=>EJ fu a0 p.1 p.2 nx) (l1,k1)=some r∧Au cB HH l1 xs2) fu ⟨(List.replicate a0.length false:List Bool),0,v3,xs1,rf,rf,hd,hq1⟩ (Sub.of rf) ?_
 intro m1 L1 H1 O1 hl1 hI1
 obtain⟨l1,k1,v4,xs2,rfl,rfl,hd,hq2⟩:=hI1
 obtain⟨m2,nx1,rfl,hn1,hd⟩:=A9 hd
 replace hd:EJ fu a0 l1 k1 nx1=some r:=hd
 unfold EJ at hd
 refine Wp.sr<|Aa.op (Ab.lss rf rf) rf<|Aa.Af<|Wp.seq ?_
 refine Wp.cond rf (fun hb3=>?_) (fun hb3=>?_)
 ·
  obtain⟨hb3,hd⟩:=bT hb3 hd
  refine Wp.skip<|At.Ad<|Wp.seq<|Wp.block<|Wp.sr<|Aa.op (Ab.move rf) rf ?_
  have hb4:=hv1.le
  refine Aa.op (Ab.len CG rf (hv1.mono hl1).sl) rf<|Aa.op (Ab.move rf) rf<|Aa.Af<|Wp.block<|Wp.A_ (fun m LL HH OO=> ∃(l2:List Bool),∃(k2:Nat),∃(v5:Value),∃(xs3:List Value),[(0,v1),(3,v5),(12,(.int .i64 (a0.length:Int))),(13,(.int .i64 (k1:Int))),(15,v1),(16,(.int .i64 (a0.length:Int))),(17,(.int .i64 (k2:Int)))]=LL∧ .row v5 4 1 l2.length xs3::O=OO∧Ax m (fun p nx=>EI fu a0 k1 nx1 p.1 p.2 nx) (l2,k2)=some r∧Au cB HH l2 xs3) fu ⟨l1,0,v4,xs2,rf,rf,hd,hq2⟩ (Sub.of rf) ?_
  intro m3 L2 H2 O2 hl2 hI2
  obtain⟨l2,k2,v5,xs3,rfl,rfl,hd,hq3⟩:=hI2
  obtain⟨m4,nx2,rfl,hn2,hd⟩:=A9 hd
  replace hd:EI fu a0 k1 nx1 l2 k2 nx2=some r:=hd
  unfold EI at hd
  refine Wp.sr<|Aa.op (Ab.lss rf rf) rf<|Aa.Af<|Wp.seq ?_
  refine Wp.cond rf (fun hb5=>?_) (fun hb5=>?_)
  ·
   obtain⟨hb5,hd⟩:=bT hb5 hd
   refine Wp.skip<|At.Ad<|Wp.seq<|Wp.block<|Wp.seq ?_
   obtain⟨x1,hx1,hd⟩:=Ae hd
   have hx1_:=Ah hx1
   refine Wp.region<|Aa.op (Ab.move rf) rf ?_
   obtain⟨_,⟨_,_,rfl,rfl,⟨v6,rfl,hv2⟩⟩,hc1⟩:=AW.get (hv1.mono (hl1.trans hl2)) hx1
   refine Aa.op (Ab.Bo CG Bl rf (hv1.mono (hl1.trans hl2)).sl rf (Ah hx1)) rf<|Aa.op (Ab.C9 (vs:=[(.bool x1.1),v6]) NA rf Bl rf rf (fun j u hj=>(hc1 j u hj))) rf<|Aa.alloc (cs:= #[(.bool false),(.slice none 0 0)]) Bl rf rf fun B2=>Aa.op (Ab.assign rf) rf<|Aa.AP (i:=0) (cs':= #[(.bool x1.1),v6]) rf rf Bl rf rf (Bc (Ac rf (Ac hv2.one (As)))) rf ?_
   refine Aa.own (O:=_::_::_) ?_ rf
   refine Aa.Af<|Wp.seq ?_
   obtain⟨x2,hx2,hd⟩:=Ae hd
   have hx2_:=Ah hx2
   rcases Bool.eq_false_or_eq_true (x2)with hg1|hg1
   ·
    replace hd:=Fs hg1 hd
    obtain⟨x3,hx3,hd⟩:=Ae hd
    have hx3_:=Ah hx3
    refine Wp.region<|Aa.op (Ab.move rf) rf<|Aa.op (Ab.move rf) rf<|Aa.op (Ab.move rf) rf<|Aa.op (Ab.move rf) rf ?_
    obtain⟨_,rfl,hc2,hc2_⟩:=Au.get hq3 (AG hx2).2
    refine Aa.op (Ab.Bu (j:=1) GX ES rf rf rf (Ah hx2)) rf<|Aa.op (Ab.Bg (b:=x2) (c:=true) (Ab.Ch (i:=1) (k:=k2*1+0) u4 rf rf rf (hc2 0 _ rf)) hg1) rf<|Aa.op (Ab.move rf) rf<|Aa.Ai rf rf rf rf<|Aa.Ai rf rf rf rf<|Aa.op (Ab.AK rf rf) rf ?_
    obtain⟨_,rfl,hc3,hc3_⟩:=Au.get hq3 (AG hx3).2
    refine Aa.op (Ab.Bu (j:=1) GX ES rf rf rf (Ah hx3)) rf ?_
    refine Aa.Pw (q:=1) (off:=0) (vs:=[(.bool true)]) (y:=true) (cs:=[(.bool x3)]) hq3 hx3 hc3_ rf rf rf ES rf rf (Ac rf (As)) rf (rf) rf (fun xs4 hq4=>?_)
    refine Aa.Af<|Wp.sr<|Aa.op (Ab.AV (o':=1) Bv rf rf) rf<|Aa.op (Ab.Am (i:=0) (v:=v6) CC rf rf rf rf) rf ?_
    have hb6:=hv2.le
    refine Aa.op (Ab.len CC rf hv2.sl) rf<|Aa.op (Ab.move rf) rf<|Aa.Af<|Wp.block<|Wp.A_ (fun m LL HH OO=> ∃(l3:List Bool),∃(k3:Nat),∃(v7:Value),∃(xs5:List Value),[(0,v1),(3,v7),(4,(.int .i64 (k2:Int))),(12,(.int .i64 (a0.length:Int))),(13,(.int .i64 (k1:Int))),(15,v1),(16,(.int .i64 (a0.length:Int))),(17,(.int .i64 (k2:Int))),(34,v6),(35,(.int .i64 (x1.2.length:Int))),(36,(.int .i64 (k3:Int)))]=LL∧ .AM B2 (.cells #[(.bool x1.1),v6] 43 (0,0)):: .row v7 4 1 l3.length xs5::O=OO∧Ax m (fun p nx=>DE fu k2 nx2 x1 p.1 p.2 nx) (l3,k3)=some r∧Au cB HH l3 xs5) fu ⟨(l2.set k2 true),0,v5,xs4,rf,rf,hd,hq4⟩ (Sub.of rf) ?_
    intro m5 L3 H3 O3 hl3 hI3
    obtain⟨l3,k3,v7,xs5,rfl,rfl,hd,hq5⟩:=hI3
    obtain⟨m6,nx3,rfl,hn3,hd⟩:=A9 hd
    replace hd:DE fu k2 nx2 x1 l3 k3 nx3=some r:=hd
    unfold DE at hd
    refine Wp.sr<|Aa.op (Ab.lss rf rf) rf<|Aa.Af<|Wp.seq ?_
    refine Wp.cond rf (fun hb7=>?_) (fun hb7=>?_)
    ·
     obtain⟨hb7,hd⟩:=bT hb7 hd
     refine Wp.skip<|At.Ad<|Wp.seq<|Wp.block<|Wp.seq ?_
     obtain⟨x4,hx4,hd⟩:=Ae hd
     have hx4_:=Ah hx4
     refine Wp.region ?_
     obtain⟨_,⟨_,_,rfl,⟨rfl,hr1,hr2⟩,⟨_,_,rfl,⟨rfl,hr3,hr4⟩,rfl⟩⟩,hc4⟩:=AW.get (hv2.mono hl3) hx4
     refine Aa.op (Ab.Bo CC BA rf (hv2.mono hl3).sl rf (Ah hx4)) rf<|Aa.op (Ab.C9 (vs:=[(.int .u8 x4.1),(.int .u8 x4.2.1),(.int .i64 x4.2.2)]) QS rf BA rf rf (fun j u hj=>(hc4 j u hj))) rf<|Aa.alloc (cs:= #[(.int .u8 0),(.int .u8 0),(.int .i64 0)]) BA rf rf fun B3=>Aa.AP (i:=0) (cs':= #[(.int .u8 x4.1),(.int .u8 x4.2.1),(.int .i64 x4.2.2)]) rf rf BA rf rf (Bc (Ac rf (Ac rf (Ac rf (As))))) rf ?_
     refine Aa.own (O:=_::_::_::_) ?_ rf
     refine Aa.Af ?_
     obtain⟨x5,hx5,hd⟩:=Ae hd
     have hx5_:=Ah hx5
     rcases Bool.eq_false_or_eq_true (x5)with hg2|hg2
     ·
      replace hd:=Fs hg2 hd
      obtain⟨x6,hx6,hd⟩:=Ae hd
      have hx6_:=Ah hx6
      refine Wp.region<|Aa.op (Ab.move rf) rf<|Aa.op (Ab.move rf) rf<|Aa.op (Ab.move rf) rf<|Aa.op (Ab.move rf) rf ?_
      obtain⟨_,rfl,hc5,hc5_⟩:=Au.get hq5 (AG hx5).2
      refine Aa.op (Ab.Bu (j:=2) GX ES rf rf rf (Ah hx5)) rf<|Aa.op (Ab.Bg (b:=x5) (c:=true) (Ab.Ch (i:=2) (k:=k2*1+0) u4 rf rf rf (hc5 0 _ rf)) hg2) rf<|Aa.op (Ab.move rf) rf<|Aa.Ai rf rf rf rf<|Aa.Ai rf rf rf rf<|Aa.Ai rf rf rf rf<|Aa.Ai rf rf rf rf<|Aa.Ai rf rf rf rf ?_
      refine Aa.op (Ab.AK rf rf) rf ?_
      obtain⟨_,rfl,hc6,hc6_⟩:=Au.get hq5 (AG hx6).2
      refine Aa.op (Ab.Bu (j:=2) GX ES rf rf rf (Ah hx6)) rf ?_
      refine Aa.Pw (q:=2) (off:=0) (vs:=[(.bool true)]) (y:=true) (cs:=[(.bool x6)]) hq5 hx6 hc6_ rf rf rf ES rf rf (Ac rf (As)) rf (rf) rf (fun xs6 hq6=>?_)
      refine Aa.nil<|At.AE<|At.Ad<|Wp.region<|Aa.op (Ab.add rf rf (Aq (by omega))) rf<|Aa.op (Ab.move rf) rf<|Aa.nil<|At.AR [1,2] 3 rf rf rf ?_
      refine At.AO (Hp.le.refl _) ⟨(l3.set k2 true),(k3+1),v7,xs6,rf,rf,(by rw[←hn3];exact hd),hq6⟩ (Sub.of rf)
     replace hd:=Ft hg2 hd
     obtain⟨x7,hx7,hd⟩:=Ae hd
     have hx7_:=Ah hx7
     obtain⟨x6,hx6,hd⟩:=Ae hd
     have hx6_:=Ah hx6
     refine Wp.region<|Aa.op (Ab.move rf) rf<|Aa.op (Ab.move rf) rf<|Aa.op (Ab.move rf) rf<|Aa.op (Ab.move rf) rf ?_
     obtain⟨_,rfl,hc5,hc5_⟩:=Au.get hq5 (AG hx5).2
     refine Aa.op (Ab.Bu (j:=2) GX ES rf rf rf (Ah hx5)) rf<|Aa.op (Ab.Bg (b:=x5) (c:=false) (Ab.Ch (i:=2) (k:=k2*1+0) u4 rf rf rf (hc5 0 _ rf)) hg2) rf<|Aa.op (Ab.move rf) rf<|Aa.Ay rf rf (Ab.move rf) rf<|Aa.Ay rf rf (Ab.AV (o':=2) CI rf rf) rf<|Aa.Ay rf rf (Ab.Am (i:=0) (v:=(.int .i64 x4.2.2)) u3 rf rf rf rf) rf ?_
     obtain⟨_,rfl,hc7,hc7_⟩:=Au.get hq5 (AG hx7).2
     refine Aa.Ay rf rf (Ab.Bu (j:=2) GX ES rf rf rf (Ah hx7)) rf<|Aa.Ay rf rf (Ab.Ch (i:=2) (k:=x4.2.2.toNat*1+0) u4 rf rf rf (hc7 0 _ rf)) rf<|Aa.op (Ab.AA rf rf) rf ?_
     obtain⟨_,rfl,hc6,hc6_⟩:=Au.get hq5 (AG hx6).2
     refine Aa.op (Ab.Bu (j:=2) GX ES rf rf rf (Ah hx6)) rf ?_
     refine Aa.Pw (q:=2) (off:=0) (vs:=[(.bool x7)]) (y:=x7) (cs:=[(.bool x6)]) hq5 hx6 hc6_ rf rf rf ES rf rf (Ac rf (As)) rf (rf) rf (fun xs6 hq6=>?_)
     refine Aa.nil<|At.AE<|At.Ad<|Wp.region<|Aa.op (Ab.add rf rf (Aq (by omega))) rf<|Aa.op (Ab.move rf) rf<|Aa.nil<|At.AR [1,2] 3 rf rf rf ?_
     refine At.AO (Hp.le.refl _) ⟨(l3.set k2 x7),(k3+1),v7,xs6,rf,rf,(by rw[←hn3];exact hd),hq6⟩ (Sub.of rf)
    obtain⟨hb7,hd⟩:=bF hb7 hd
    refine Wp.exit<|At.An<|At.An<|At.Az<|At.AE<|At.Ad<|Wp.region<|Aa.op (Ab.add rf rf (Aq (by omega))) rf ?_
    refine Aa.op (Ab.move rf) rf<|Aa.nil<|At.AR [1] 2 rf rf rf ?_
    refine At.AO hl3 ⟨l3,(k2+1),v7,xs5,rf,rf,(by rw[←hn2];exact hd),hq5⟩ (Sub.of rf)
   replace hd:=Ft hg1 hd
   obtain⟨x3,hx3,hd⟩:=Ae hd
   have hx3_:=Ah hx3
   refine Wp.region<|Aa.op (Ab.move rf) rf<|Aa.op (Ab.move rf) rf<|Aa.op (Ab.move rf) rf<|Aa.op (Ab.move rf) rf ?_
   obtain⟨_,rfl,hc2,hc2_⟩:=Au.get hq3 (AG hx2).2
   refine Aa.op (Ab.Bu (j:=1) GX ES rf rf rf (Ah hx2)) rf<|Aa.op (Ab.Bg (b:=x2) (c:=false) (Ab.Ch (i:=1) (k:=k2*1+0) u4 rf rf rf (hc2 0 _ rf)) hg1) rf<|Aa.op (Ab.move rf) rf<|Aa.Ay rf rf (Ab.AV (o':=0) E_ rf rf) rf<|Aa.Ay rf rf (Ab.Am (i:=0) (v:=(.bool x1.1)) u4 rf rf rf rf) rf<|Aa.op (Ab.AA rf rf) rf ?_
   obtain⟨_,rfl,hc3,hc3_⟩:=Au.get hq3 (AG hx3).2
   refine Aa.op (Ab.Bu (j:=1) GX ES rf rf rf (Ah hx3)) rf ?_
   refine Aa.Pw (q:=1) (off:=0) (vs:=[(.bool x1.1)]) (y:=x1.1) (cs:=[(.bool x3)]) hq3 hx3 hc3_ rf rf rf ES rf rf (Ac rf (As)) rf (rf) rf (fun xs4 hq4=>?_)
   refine Aa.Af<|Wp.sr<|Aa.op (Ab.AV (o':=1) Bv rf rf) rf<|Aa.op (Ab.Am (i:=0) (v:=v6) CC rf rf rf rf) rf ?_
   have hb8:=hv2.le
   refine Aa.op (Ab.len CC rf hv2.sl) rf<|Aa.op (Ab.move rf) rf<|Aa.Af<|Wp.block<|Wp.A_ (fun m LL HH OO=> ∃(l4:List Bool),∃(k4:Nat),∃(v8:Value),∃(xs7:List Value),[(0,v1),(3,v8),(4,(.int .i64 (k2:Int))),(12,(.int .i64 (a0.length:Int))),(13,(.int .i64 (k1:Int))),(15,v1),(16,(.int .i64 (a0.length:Int))),(17,(.int .i64 (k2:Int))),(34,v6),(35,(.int .i64 (x1.2.length:Int))),(36,(.int .i64 (k4:Int)))]=LL∧ .AM B2 (.cells #[(.bool x1.1),v6] 43 (0,0)):: .row v8 4 1 l4.length xs7::O=OO∧Ax m (fun p nx=>FC fu k2 nx2 x1 p.1 p.2 nx) (l4,k4)=some r∧Au cB HH l4 xs7) fu ⟨(l2.set k2 x1.1),0,v5,xs4,rf,rf,hd,hq4⟩ (Sub.of rf) ?_
   intro m7 L4 H4 O4 hl4 hI4
   obtain⟨l4,k4,v8,xs7,rfl,rfl,hd,hq7⟩:=hI4
   obtain⟨m8,nx4,rfl,hn4,hd⟩:=A9 hd
   replace hd:FC fu k2 nx2 x1 l4 k4 nx4=some r:=hd
   unfold FC at hd
   refine Wp.sr<|Aa.op (Ab.lss rf rf) rf<|Aa.Af<|Wp.seq ?_
   refine Wp.cond rf (fun hb9=>?_) (fun hb9=>?_)
   ·
    obtain⟨hb9,hd⟩:=bT hb9 hd
    refine Wp.skip<|At.Ad<|Wp.seq<|Wp.block<|Wp.seq ?_
    obtain⟨x8,hx8,hd⟩:=Ae hd
    have hx8_:=Ah hx8
    refine Wp.region ?_
    obtain⟨_,⟨_,_,rfl,⟨rfl,hr5,hr6⟩,⟨_,_,rfl,⟨rfl,hr7,hr8⟩,rfl⟩⟩,hc8⟩:=AW.get (hv2.mono hl4) hx8
    refine Aa.op (Ab.Bo CC BA rf (hv2.mono hl4).sl rf (Ah hx8)) rf<|Aa.op (Ab.C9 (vs:=[(.int .u8 x8.1),(.int .u8 x8.2.1),(.int .i64 x8.2.2)]) QS rf BA rf rf (fun j u hj=>(hc8 j u hj))) rf<|Aa.alloc (cs:= #[(.int .u8 0),(.int .u8 0),(.int .i64 0)]) BA rf rf fun B4=>Aa.AP (i:=0) (cs':= #[(.int .u8 x8.1),(.int .u8 x8.2.1),(.int .i64 x8.2.2)]) rf rf BA rf rf (Bc (Ac rf (Ac rf (Ac rf (As))))) rf ?_
    refine Aa.own (O:=_::_::_::_) ?_ rf
    refine Aa.Af ?_
    obtain⟨x9,hx9,hd⟩:=Ae hd
    have hx9_:=Ah hx9
    rcases Bool.eq_false_or_eq_true (x9)with hg3|hg3
    ·
     replace hd:=Fs hg3 hd
     obtain⟨x10,hx10,hd⟩:=Ae hd
     have hx10_:=Ah hx10
     refine Wp.region<|Aa.op (Ab.move rf) rf<|Aa.op (Ab.move rf) rf<|Aa.op (Ab.move rf) rf<|Aa.op (Ab.move rf) rf ?_
     obtain⟨_,rfl,hc9,hc9_⟩:=Au.get hq7 (AG hx9).2
     refine Aa.op (Ab.Bu (j:=2) GX ES rf rf rf (Ah hx9)) rf<|Aa.op (Ab.Bg (b:=x9) (c:=true) (Ab.Ch (i:=2) (k:=k2*1+0) u4 rf rf rf (hc9 0 _ rf)) hg3) rf<|Aa.op (Ab.move rf) rf<|Aa.Ai rf rf rf rf<|Aa.Ai rf rf rf rf<|Aa.Ai rf rf rf rf<|Aa.Ai rf rf rf rf<|Aa.Ai rf rf rf rf ?_
     refine Aa.op (Ab.AK rf rf) rf ?_
     obtain⟨_,rfl,hc10,hc10_⟩:=Au.get hq7 (AG hx10).2
     refine Aa.op (Ab.Bu (j:=2) GX ES rf rf rf (Ah hx10)) rf ?_
     refine Aa.Pw (q:=2) (off:=0) (vs:=[(.bool true)]) (y:=true) (cs:=[(.bool x10)]) hq7 hx10 hc10_ rf rf rf ES rf rf (Ac rf (As)) rf (rf) rf (fun xs8 hq8=>?_)
     refine Aa.nil<|At.AE<|At.Ad<|Wp.region<|Aa.op (Ab.add rf rf (Aq (by omega))) rf<|Aa.op (Ab.move rf) rf<|Aa.nil<|At.AR [1,2] 3 rf rf rf ?_
     refine At.AO (Hp.le.refl _) ⟨(l4.set k2 true),(k4+1),v8,xs8,rf,rf,(by rw[←hn4];exact hd),hq8⟩ (Sub.of rf)
    replace hd:=Ft hg3 hd
    obtain⟨x11,hx11,hd⟩:=Ae hd
    have hx11_:=Ah hx11
    obtain⟨x10,hx10,hd⟩:=Ae hd
    have hx10_:=Ah hx10
    refine Wp.region<|Aa.op (Ab.move rf) rf<|Aa.op (Ab.move rf) rf<|Aa.op (Ab.move rf) rf<|Aa.op (Ab.move rf) rf ?_
    obtain⟨_,rfl,hc9,hc9_⟩:=Au.get hq7 (AG hx9).2
    refine Aa.op (Ab.Bu (j:=2) GX ES rf rf rf (Ah hx9)) rf<|Aa.op (Ab.Bg (b:=x9) (c:=false) (Ab.Ch (i:=2) (k:=k2*1+0) u4 rf rf rf (hc9 0 _ rf)) hg3) rf<|Aa.op (Ab.move rf) rf<|Aa.Ay rf rf (Ab.move rf) rf<|Aa.Ay rf rf (Ab.AV (o':=2) CI rf rf) rf<|Aa.Ay rf rf (Ab.Am (i:=0) (v:=(.int .i64 x8.2.2)) u3 rf rf rf rf) rf ?_
    obtain⟨_,rfl,hc11,hc11_⟩:=Au.get hq7 (AG hx11).2
    refine Aa.Ay rf rf (Ab.Bu (j:=2) GX ES rf rf rf (Ah hx11)) rf<|Aa.Ay rf rf (Ab.Ch (i:=2) (k:=x8.2.2.toNat*1+0) u4 rf rf rf (hc11 0 _ rf)) rf<|Aa.op (Ab.AA rf rf) rf ?_
    obtain⟨_,rfl,hc10,hc10_⟩:=Au.get hq7 (AG hx10).2
    refine Aa.op (Ab.Bu (j:=2) GX ES rf rf rf (Ah hx10)) rf ?_
    refine Aa.Pw (q:=2) (off:=0) (vs:=[(.bool x11)]) (y:=x11) (cs:=[(.bool x10)]) hq7 hx10 hc10_ rf rf rf ES rf rf (Ac rf (As)) rf (rf) rf (fun xs8 hq8=>?_)
    refine Aa.nil<|At.AE<|At.Ad<|Wp.region<|Aa.op (Ab.add rf rf (Aq (by omega))) rf<|Aa.op (Ab.move rf) rf<|Aa.nil<|At.AR [1,2] 3 rf rf rf ?_
    refine At.AO (Hp.le.refl _) ⟨(l4.set k2 x11),(k4+1),v8,xs8,rf,rf,(by rw[←hn4];exact hd),hq8⟩ (Sub.of rf)
   obtain⟨hb9,hd⟩:=bF hb9 hd
   refine Wp.exit<|At.An<|At.An<|At.Az<|At.AE<|At.Ad<|Wp.region<|Aa.op (Ab.add rf rf (Aq (by omega))) rf ?_
   refine Aa.op (Ab.move rf) rf<|Aa.nil<|At.AR [1] 2 rf rf rf ?_
   refine At.AO hl4 ⟨l4,(k2+1),v8,xs7,rf,rf,(by rw[←hn2];exact hd),hq7⟩ (Sub.of rf)
  obtain⟨hb5,hd⟩:=bF hb5 hd
  refine Wp.exit<|At.An<|At.An<|At.Az<|At.AE<|At.Ad<|Wp.region<|Aa.op (Ab.add rf rf (Aq (by omega))) rf ?_
  refine Aa.op (Ab.move rf) rf<|Aa.nil ?_
  refine At.AO hl2 ⟨l2,(k1+1),v5,xs3,rf,rf,(by rw[←hn1];exact hd),hq3⟩ (Sub.of rf)
 obtain⟨hb3,hd⟩:=bF hb3 hd
 refine Wp.exit<|At.An<|At.An<|At.Az<|At.Ad<|Wp.sr<|Aa.op (Ab.move rf) rf<|Aa.op (Ab.assign rf) rf ?_
 refine Aa.Af<|Wp.ret ?_
 refine At.A7 (i:=0) rf fun hb10=>?_
 refine At.freeze (i:=0) rf fun H5 hl5 hs1=>?_
 have hv3:=AW.of (c:=cB) hs1 rfl (hq2.mono hl5) hb10
 obtain rfl:=si hd
 exact At.DB rf (RV.tmp (v:=v4) rf) (fun w hs=>⟨_,_,_,rf,(hl1.trans hl5),(hs.Cg 0),⟨⟨v4,rf,hv3⟩,rf⟩⟩)
theorem Mx{fu:Nat}{a0:List Int}{a1:List Int}{v1 v2:Value}{r:Bool}(hv1:AW Ao H a0 v1)(hv2:AW Ao H a1 v2)(hd:FA fu a0 a1=some r):
    Ca Tryz.prog 73 [v1,v2] H O (.bool r):=by
 intro w hs
 refine Bz Tryz.func73 rf rf rf ?_ hs
 clear hs w
 unfold FA at hd
 refine Wp.sr<|Aa.op (Ab.assign rf) rf<|Aa.Af<|Wp.seq<|Wp.sr<|Aa.op (Ab.move rf) rf ?_
 have hb1:=hv1.le
 refine Aa.op (Ab.len BF rf hv1.sl) rf<|Aa.op (Ab.move rf) rf ?_
 have hb2:=hv2.le
 refine Aa.op (Ab.len BF rf hv2.sl) rf<|Aa.op (Ab.neq rf rf) rf<|Aa.Af ?_
 refine Wp.cond rf (fun hb3=>?_) (fun hb3=>?_)
 ·
  obtain⟨hb3,hd⟩:=bT hb3 hd
  refine Wp.sr<|Aa.op (Ab.assign rf) rf<|Aa.Af<|Wp.ret<|At.Av ?_
  obtain rfl:=si hd
  exact At.q1 0 (Hp.le.refl _) rf (RV.tmp rf) rf
 obtain⟨hb3,hd⟩:=bF hb3 hd
 refine Wp.skip<|At.Ad<|Wp.seq<|Wp.sr<|Aa.op (Ab.move rf) rf ?_
 have hb4:=hv1.le
 refine Aa.op (Ab.len BF rf hv1.sl) rf<|Aa.op (Ab.move rf) rf<|Aa.Af<|Wp.block<|Wp.A_ (fun m LL HH OO=> ∃(k1:Nat),[(0,v1),(1,v2),(12,(.int .i64 (a0.length:Int))),(13,(.int .i64 (k1:Int)))]=LL∧O=OO∧Ax m (Dj fu a0 a1) k1=some r) fu ⟨0,rf,rf,hd⟩ (Sub.of rf) ?_
 intro m1 L1 H1 O1 hl1 hI1
 obtain⟨k1,rfl,rfl,hd⟩:=hI1
 obtain⟨m2,nx1,rfl,hn1,hd⟩:=A9 hd
 replace hd:Dj fu a0 a1 k1 nx1=some r:=hd
 unfold Dj at hd
 refine Wp.sr<|Aa.op (Ab.lss rf rf) rf<|Aa.Af<|Wp.seq ?_
 refine Wp.cond rf (fun hb5=>?_) (fun hb5=>?_)
 ·
  obtain⟨hb5,hd⟩:=bT hb5 hd
  refine Wp.skip<|At.Ad<|Wp.seq<|Wp.block<|Wp.sr<|Aa.op (Ab.move rf) rf<|Aa.op (Ab.assign rf) rf<|Aa.Af ?_
  refine Wp.seq ?_
  obtain⟨x1,hx1,hd⟩:=Ae hd
  have hx1_:=Ah hx1
  obtain⟨x2,hx2,hd⟩:=Ae hd
  have hx2_:=Ah hx2
  obtain⟨_,rfl,hc1⟩:=AW.get (hv1.mono hl1) hx1
  obtain⟨_,rfl,hc2⟩:=AW.get (hv2.mono hl1) hx2
  refine Wp.CV 9 follows rf (by kernel_rfl)<|Ag.A6 (Ab.move rf) rf<|Ag.A6 (Ab.move rf) rf<|Ag.A6 (Ab.Bo BF Cp rf (hv1.mono hl1).sl rf (Ah hx1)) rf<|Ag.A6 (Ab.FJ u3 rf rf (hc1 0 _ rf)) rf<|Ag.A6 (Ab.move rf) rf<|Ag.A6 (Ab.move rf) rf<|Ag.A6 (Ab.Bo BF Cp rf (hv2.mono hl1).sl rf (Ah hx2)) rf ?_
  refine Ag.A6 (Ab.FJ u3 rf rf (hc2 0 _ rf)) rf<|Ag.A6 (Ab.neq rf rf) rf<|Ag.CW<|Ap.is (t:=0) rf<|Ap.is (t:=1) rf<|Ap.is (t:=12) rf<|Ap.is (t:=13) rf<|Ap.is (t:=24) rf ?_
  refine Ap.JB<|Aa.Af ?_
  refine Wp.cond rf (fun hb6=>?_) (fun hb6=>?_)
  ·
   obtain⟨hb6,hd⟩:=bT hb6 hd
   refine Wp.sr<|Aa.op (Ab.assign rf) rf<|Aa.Af<|Wp.ret<|At.Be<|At.Av<|At.Av<|At.Be ?_
   refine At.Av ?_
   obtain rfl:=si hd
   exact At.q1 0 hl1 rf (RV.tmp rf) rf
  obtain⟨hb6,hd⟩:=bF hb6 hd
  refine Wp.skip<|At.AE<|At.Ad<|Wp.region<|Aa.op (Ab.add rf rf (Aq (by omega))) rf<|Aa.op (Ab.move rf) rf<|Aa.nil ?_
  refine At.AO (Hp.le.refl _) ⟨(k1+1),rf,rf,(by rw[←hn1];exact hd)⟩ (Sub.of rf)
 obtain⟨hb5,hd⟩:=bF hb5 hd
 refine Wp.exit<|At.An<|At.An<|At.Az<|At.Ad<|Wp.sr<|Aa.op (Ab.assign rf) rf<|Aa.Af ?_
 refine Wp.ret ?_
 obtain rfl:=si hd
 exact At.q1 0 hl1 rf (RV.tmp rf) rf
theorem JX{fu:Nat}{a0:List (List Int)}{a1:List Int}{v1 v2:Value}{r:Int}(hv1:AW (cL Ao) H a0 v1)(hv2:AW Ao H a1 v2)(hd:Hn fu a0 a1=some r):
    Ca Tryz.prog 52 [v1,v2] H O (.int .i64 r):=by
 intro w hs
 refine Bz Tryz.func52 rf rf rf ?_ hs
 clear hs w
 unfold Hn at hd
 refine Wp.sr<|Aa.op (Ab.assign rf) rf<|Aa.Af<|Wp.seq<|Wp.sr<|Aa.op (Ab.move rf) rf ?_
 have hb1:=hv1.le
 refine Aa.op (Ab.len Ey rf hv1.sl) rf<|Aa.op (Ab.move rf) rf<|Aa.Af<|Wp.block<|Wp.A_ (fun m LL HH OO=> ∃(k1:Nat),[(0,v1),(1,v2),(7,(.int .i64 (a0.length:Int))),(8,(.int .i64 (k1:Int)))]=LL∧O=OO∧Ax m (Fc fu a0 a1) k1=some r) fu ⟨0,rf,rf,hd⟩ (Sub.of rf) ?_
 intro m1 L1 H1 O1 hl1 hI1
 obtain⟨k1,rfl,rfl,hd⟩:=hI1
 obtain⟨m2,nx1,rfl,hn1,hd⟩:=A9 hd
 replace hd:Fc fu a0 a1 k1 nx1=some r:=hd
 unfold Fc at hd
 refine Wp.sr<|Aa.op (Ab.lss rf rf) rf<|Aa.Af<|Wp.seq ?_
 refine Wp.cond rf (fun hb2=>?_) (fun hb2=>?_)
 ·
  obtain⟨hb2,hd⟩:=bT hb2 hd
  refine Wp.skip<|At.Ad<|Wp.seq<|Wp.block<|Wp.sr<|Aa.op (Ab.move rf) rf<|Aa.op (Ab.assign rf) rf<|Aa.Af ?_
  refine Wp.seq ?_
  obtain⟨x1,hx1,hd⟩:=Ae hd
  have hx1_:=Ah hx1
  obtain⟨x2,hx2,hd⟩:=Ae hd
  refine Wp.region<|Aa.op (Ab.move rf) rf<|Aa.op (Ab.move rf) rf ?_
  obtain⟨_,⟨v3,rfl,hv3⟩,hc1⟩:=AW.get (hv1.mono hl1) hx1
  refine Aa.op (Ab.Bo Ey Dx rf (hv1.mono hl1).sl rf (Ah hx1)) rf<|Aa.op (Ab.FJ BF rf rf (hc1 0 _ rf)) rf<|Aa.op (Ab.move rf) rf<|Aa.op (Ab.call Y2 rf (Mx hv3 (hv2.mono hl1) hx2)) rf<|Aa.Af ?_
  refine Wp.cond rf (fun hb3=>?_) (fun hb3=>?_)
  ·
   replace hd:=Fs hb3 hd
   refine Wp.sr<|Aa.op (Ab.move rf) rf<|Aa.op (Ab.assign rf) rf<|Aa.Af<|Wp.ret<|At.Be<|At.Av<|At.Av ?_
   refine At.Be<|At.Av ?_
   obtain rfl:=si hd
   exact At.q1 0 hl1 rf (RV.tmp rf) rf
  replace hd:=Ft hb3 hd
  refine Wp.skip<|At.AE<|At.Ad<|Wp.region<|Aa.op (Ab.add rf rf (Aq (by omega))) rf<|Aa.op (Ab.move rf) rf<|Aa.nil ?_
  refine At.AO (Hp.le.refl _) ⟨(k1+1),rf,rf,(by rw[←hn1];exact hd)⟩ (Sub.of rf)
 obtain⟨hb2,hd⟩:=bF hb2 hd
 refine Wp.exit<|At.An<|At.An<|At.Az<|At.Ad<|Wp.sr<|Aa.op (Ab.assign rf) rf<|Aa.Af ?_
 refine Wp.ret ?_
 obtain rfl:=si hd
 exact At.q1 0 hl1 rf (RV.tmp rf) rf
theorem Nk{fu:Nat}{a0:List (Bool×(List (Int×Int×Int)))}{a1:List Int}{v1 v2:Value}{r:List Int}(hv1:AW (cP cB (cL (cP AZ (cP AZ Ao)))) H a0 v1)(hv2:AW Ao H a1 v2)(hd:GA fu a0 a1=some r):
    ED Tryz.prog 31 [v1,v2] H O (fun v H' O'=>(∃v3:Value,v3=v∧AW Ao H' r v3)∧O=O'):=by
 intro w hs
 refine Bz Tryz.func31 rf rf rf ?_ hs
 clear hs w
 unfold GA at hd
 refine Wp.sr<|Aa.op (Ab.assign rf) rf<|Aa.Af<|Wp.seq ?_
 obtain⟨ha1,hd⟩:=Al hd
 refine Wp.region<|Aa.op (Ab.move rf) rf ?_
 have hb1:=hv1.le
 refine Aa.op (Ab.len CG rf hv1.sl) rf<|Aa.JL (c:=Ao) (z:=0) (m:=a0.length) BF Cp rf rf ha1 (rf) rf rf rf fun v4 xs1 hq1=>Aa.op (Ab.assign rf) rf<|Aa.Af<|Wp.seq<|Wp.sr<|Aa.op (Ab.move rf) rf ?_
 have hb2:=hv1.le
 refine Aa.op (Ab.len CG rf hv1.sl) rf<|Aa.op (Ab.move rf) rf<|Aa.Af<|Wp.block<|Wp.A_ (fun m LL HH OO=> ∃(l1:List Int),∃(k1:Nat),∃(v5:Value),∃(xs2:List Value),[(0,v1),(1,v2),(5,v5),(20,v1),(21,(.int .i64 (a0.length:Int))),(22,(.int .i64 (k1:Int)))]=LL∧ .row v5 3 1 l1.length xs2::O=OO∧Ax m (fun p nx=>DT fu a0 a1 p.1 p.2 nx) (l1,k1)=some r∧Au Ao HH l1 xs2) fu ⟨(List.replicate a0.length 0:List Int),0,v4,xs1,rf,rf,hd,hq1⟩ (Sub.of rf) ?_
 intro m1 L1 H1 O1 hl1 hI1
 obtain⟨l1,k1,v5,xs2,rfl,rfl,hd,hq2⟩:=hI1
 obtain⟨m2,nx1,rfl,hn1,hd⟩:=A9 hd
 replace hd:DT fu a0 a1 l1 k1 nx1=some r:=hd
 unfold DT at hd
 refine Wp.sr<|Aa.op (Ab.lss rf rf) rf<|Aa.Af<|Wp.seq ?_
 refine Wp.cond rf (fun hb3=>?_) (fun hb3=>?_)
 ·
  obtain⟨hb3,hd⟩:=bT hb3 hd
  refine Wp.skip<|At.Ad<|Wp.seq<|Wp.block<|Wp.seq ?_
  obtain⟨x1,hx1,hd⟩:=Ae hd
  have hx1_:=Ah hx1
  refine Wp.region<|Aa.op (Ab.move rf) rf ?_
  obtain⟨_,⟨_,_,rfl,rfl,⟨v6,rfl,hv3⟩⟩,hc1⟩:=AW.get (hv1.mono hl1) hx1
  refine Aa.op (Ab.Bo CG Bl rf (hv1.mono hl1).sl rf (Ah hx1)) rf<|Aa.op (Ab.C9 (vs:=[(.bool x1.1),v6]) NA rf Bl rf rf (fun j u hj=>(hc1 j u hj))) rf<|Aa.alloc (cs:= #[(.bool false),(.slice none 0 0)]) Bl rf rf fun B2=>Aa.op (Ab.assign rf) rf<|Aa.AP (i:=0) (cs':= #[(.bool x1.1),v6]) rf rf Bl rf rf (Bc (Ac rf (Ac hv3.one (As)))) rf ?_
  refine Aa.own (O:=_::_::_) ?_ rf
  refine Aa.Af<|Wp.sr<|Aa.op (Ab.AV (o':=0) E_ rf rf) rf<|Aa.op (Ab.Am (i:=0) (v:=(.bool x1.1)) u4 rf rf rf rf) rf<|Aa.Af ?_
  refine Wp.cond rf (fun hb4=>?_) (fun hb4=>?_)
  ·
   replace hd:=Fs hb4 hd
   obtain⟨x2,hx2,hd⟩:=Ae hd
   have hx2_:=Ah hx2
   refine Wp.region<|Aa.op (Ab.move rf) rf<|Aa.op (Ab.move rf) rf ?_
   obtain⟨_,rfl,hc2,hc2_⟩:=Au.get hq2 (AG hx2).2
   refine Aa.op (Ab.Bu (j:=1) BF Cp rf rf rf (Ah hx2)) rf ?_
   refine Aa.Pw (q:=1) (off:=0) (vs:=[(.int .i64 1)]) (y:=1) (cs:=[(.int .i64 x2)]) hq2 hx2 hc2_ rf rf rf Cp rf rf (Ac rf (As)) rf (rf) rf (fun xs3 hq3=>?_)
   refine Aa.nil<|At.AE<|At.Ad<|Wp.region<|Aa.op (Ab.add rf rf (Aq (by omega))) rf<|Aa.op (Ab.move rf) rf<|Aa.nil<|At.AR [1] 2 rf rf rf ?_
   refine At.AO (Hp.le.refl _) ⟨(l1.set k1 1),(k1+1),v5,xs3,rf,rf,(by rw[←hn1];exact hd),hq3⟩ (Sub.of rf)
  replace hd:=Ft hb4 hd
  refine Wp.skip<|At.AE<|At.Ad<|Wp.region<|Aa.op (Ab.add rf rf (Aq (by omega))) rf<|Aa.op (Ab.move rf) rf<|Aa.nil<|At.AR [1] 2 rf rf rf ?_
  refine At.AO (Hp.le.refl _) ⟨l1,(k1+1),v5,xs2,rf,rf,(by rw[←hn1];exact hd),hq2⟩ (Sub.of rf)
 obtain⟨hb3,hd⟩:=bF hb3 hd
 refine Wp.exit<|At.An<|At.An<|At.Az<|At.Ad<|Wp.sr<|Aa.op (Ab.assign rf) rf<|Aa.Af ?_
 refine Wp.seq<|Wp.sr<|Aa.op (Ab.move rf) rf ?_
 have hb5:=hv1.le
 refine Aa.op (Ab.len CG rf (hv1.mono hl1).sl) rf<|Aa.op (Ab.move rf) rf<|Aa.Af<|Wp.block<|Wp.A_ (fun m LL HH OO=> ∃(l2:List Int),∃(k2:Nat),∃(k3:Nat),∃(v7:Value),∃(xs4:List Value),[(0,v1),(1,v2),(5,v7),(8,(.int .i64 (k2:Int))),(34,(.int .i64 (a0.length:Int))),(35,(.int .i64 (k3:Int)))]=LL∧ .row v7 3 1 l2.length xs4::O=OO∧Ax m (fun p nx=>Ds fu a0 a1 p.1 p.2.1 p.2.2 nx) (l2,k2,k3)=some r∧Au Ao HH l2 xs4) fu ⟨l1,0,0,v5,xs2,rf,rf,hd,hq2⟩ (Sub.of rf) ?_
 intro m3 L2 H2 O2 hl2 hI2
 obtain⟨l2,k2,k3,v7,xs4,rfl,rfl,hd,hq4⟩:=hI2
 obtain⟨m4,nx2,rfl,hn2,hd⟩:=A9 hd
 replace hd:Ds fu a0 a1 l2 k2 k3 nx2=some r:=hd
 unfold Ds at hd
 refine Wp.sr<|Aa.op (Ab.lss rf rf) rf<|Aa.Af<|Wp.seq ?_
 refine Wp.cond rf (fun hb6=>?_) (fun hb6=>?_)
 ·
  obtain⟨hb6,hd⟩:=bT hb6 hd
  refine Wp.skip<|At.Ad<|Wp.seq<|Wp.block<|Wp.sr<|Aa.op (Ab.assign rf) rf<|Aa.Af<|Wp.seq ?_
  obtain⟨ha2,hd⟩:=Al hd
  refine Wp.region<|Aa.op (Ab.move rf) rf ?_
  have hb7:=hv1.le
  refine Aa.op (Ab.len CG rf (hv1.mono (hl1.trans hl2)).sl) rf<|Aa.JL (c:=Ao) (z:=0) (m:=a0.length) BF Cp rf rf ha2 (rf) rf rf rf fun v8 xs5 hq5=>Aa.op (Ab.assign rf) rf<|Aa.Af<|Wp.seq<|Wp.sr<|Aa.op (Ab.move rf) rf ?_
  have hb8:=hv1.le
  refine Aa.op (Ab.len CG rf (hv1.mono (hl1.trans hl2)).sl) rf<|Aa.op (Ab.move rf) rf<|Aa.Af<|Wp.block<|Wp.BG 55 1<|Wp.A_ (fun m LL HH OO=> ∃(l3:List Int),∃(l4:List (List Int)),∃(k4:Nat),∃(v9:Value),∃(xs6:List Value),∃(v10:Value),∃(xs7:List Value),[(0,v1),(1,v2),(5,v7),(8,(.int .i64 (k2:Int))),(9,v10),(10,v9),(34,(.int .i64 (a0.length:Int))),(35,(.int .i64 (k3:Int))),(41,(.int .i64 (a0.length:Int))),(42,(.int .i64 (k4:Int)))]=LL∧ .row v10 55 1 l4.length xs7:: .row v9 3 1 l3.length xs6:: .row v7 3 1 l2.length xs4::O=OO∧Ax m (fun p nx=>Dr fu a0 a1 l2 k2 k3 nx2 p.1 p.2.1 p.2.2 nx) (l3,l4,k4)=some r∧Au Ao HH l3 xs6∧Au (cL Ao) HH l4 xs7) fu ⟨(List.replicate a0.length 0:List Int),([]:List (List Int)),0,v8,xs5,(.slice none 0 0),[],rf,rf,hd,hq5,(Au.nil (c:=(cL Ao)) (H:=H2))⟩ (Sub.of rf) ?_
  intro m5 L3 H3 O3 hl3 hI3
  obtain⟨l3,l4,k4,v9,xs6,v10,xs7,rfl,rfl,hd,hq6,hq7⟩:=hI3
  obtain⟨m6,nx3,rfl,hn3,hd⟩:=A9 hd
  replace hd:Dr fu a0 a1 l2 k2 k3 nx2 l3 l4 k4 nx3=some r:=hd
  unfold Dr at hd
  refine Wp.sr<|Aa.op (Ab.lss rf rf) rf<|Aa.Af<|Wp.seq ?_
  refine Wp.cond rf (fun hb9=>?_) (fun hb9=>?_)
  ·
   obtain⟨hb9,hd⟩:=bT hb9 hd
   refine Wp.skip<|At.Ad<|Wp.seq<|Wp.block<|Wp.sr<|Aa.op (Ab.move rf) rf<|Aa.op (Ab.assign rf) rf<|Aa.Af ?_
   refine Wp.seq ?_
   obtain⟨x3,hx3,hd⟩:=Ae hd
   have hx3_:=Ah hx3
   refine Wp.region<|Aa.op (Ab.move rf) rf<|Aa.op (Ab.move rf) rf ?_
   obtain⟨_,rfl,hc3,hc3_⟩:=Au.get (hq4.mono hl3) (AG hx3).2
   refine Aa.op (Ab.Bu (j:=2) BF Cp rf rf rf (Ah hx3)) rf<|Aa.op (Ab.Ch (i:=2) (k:=k4*1+0) u3 rf rf rf (hc3 0 _ rf)) rf<|Aa.A1 (c:=Ao) (y:=x3) (cs:=[(.int .i64 x3)]) BF Cp rf rf rf rf (rf) rf fun v11 xs8 hq8=>Aa.op (Ab.assign rf) rf<|Aa.Af<|Wp.seq<|Wp.sr<|Aa.op (Ab.move rf) rf ?_
   have hb10:=hv2.le
   refine Aa.op (Ab.len BF rf (hv2.mono ((hl1.trans hl2).trans hl3)).sl) rf<|Aa.op (Ab.move rf) rf<|Aa.Af<|Wp.block<|Wp.A_ (fun m LL HH OO=> ∃(l5:List Int),∃(k5:Nat),∃(v12:Value),∃(xs9:List Value),[(0,v1),(1,v2),(5,v7),(8,(.int .i64 (k2:Int))),(9,v10),(10,v9),(11,(.int .i64 (k4:Int))),(12,v12),(34,(.int .i64 (a0.length:Int))),(35,(.int .i64 (k3:Int))),(41,(.int .i64 (a0.length:Int))),(42,(.int .i64 (k4:Int))),(50,v2),(51,(.int .i64 (a1.length:Int))),(52,(.int .i64 (k5:Int)))]=LL∧ .row v12 3 1 l5.length xs9:: .row v10 55 1 l4.length xs7:: .row v9 3 1 l3.length xs6:: .row v7 3 1 l2.length xs4::O=OO∧Ax m (fun p nx=>Dq fu a0 a1 l2 l3 l4 k4 nx3 p.1 p.2 nx) (l5,k5)=some r∧Au Ao HH l5 xs9) fu ⟨([x3]:List Int),0,v11,xs8,rf,rf,hd,hq8⟩ (Sub.of rf) ?_
   intro m7 L4 H4 O4 hl4 hI4
   obtain⟨l5,k5,v12,xs9,rfl,rfl,hd,hq9⟩:=hI4
   obtain⟨m8,nx4,rfl,hn4,hd⟩:=A9 hd
   replace hd:Dq fu a0 a1 l2 l3 l4 k4 nx3 l5 k5 nx4=some r:=hd
   unfold Dq at hd
   refine Wp.sr<|Aa.op (Ab.lss rf rf) rf<|Aa.Af<|Wp.seq ?_
   refine Wp.cond rf (fun hb11=>?_) (fun hb11=>?_)
   ·
    obtain⟨hb11,hd⟩:=bT hb11 hd
    refine Wp.skip<|At.Ad<|Wp.seq<|Wp.block<|Wp.seq ?_
    obtain⟨x4,hx4,hd⟩:=Ae hd
    have hx4_:=Ah hx4
    refine Wp.region ?_
    obtain⟨_,rfl,hc4⟩:=AW.get (hv2.mono (((hl1.trans hl2).trans hl3).trans hl4)) hx4
    refine Aa.op (Ab.Bo BF Cp rf (hv2.mono (((hl1.trans hl2).trans hl3).trans hl4)).sl rf (Ah hx4)) rf<|Aa.op (Ab.FJ u3 rf rf (hc4 0 _ rf)) rf<|Aa.op (Ab.assign rf) rf<|Aa.Af<|Wp.seq ?_
    obtain⟨ha3,hd⟩:=Al hd
    have:=ha3
    obtain⟨x5,hx5,hd⟩:=Ae hd
    refine Wp.region<|Aa.op (Ab.move rf) rf<|Aa.op (Ab.move rf) rf<|Aa.op (Ab.move rf) rf<|Aa.op (Ab.conv u3 u5 rf (Cm ha3)) rf<|Aa.op (Ab.call Xa rf (Mz (hv1.mono (((hl1.trans hl2).trans hl3).trans hl4)) (by omega) (by omega) hx5)) rf<|Aa.op (Ab.assign rf) rf<|Aa.Af ?_
    refine Wp.seq<|Wp.sr<|Aa.op (Ab.move rf) rf<|Aa.op (Ab.geq rf rf) rf<|Aa.Af ?_
    refine Wp.Fp (fun LL HH OO=> ∃(i1:Int),[(0,v1),(1,v2),(5,v7),(8,(.int .i64 (k2:Int))),(9,v10),(10,v9),(11,(.int .i64 (k4:Int))),(12,v12),(15,(.int .i64 i1)),(34,(.int .i64 (a0.length:Int))),(35,(.int .i64 (k3:Int))),(41,(.int .i64 (a0.length:Int))),(42,(.int .i64 (k4:Int))),(50,v2),(51,(.int .i64 (a1.length:Int))),(52,(.int .i64 (k5:Int)))]=LL∧ .row v12 3 1 l5.length xs9:: .row v10 55 1 l4.length xs7:: .row v9 3 1 l3.length xs6:: .row v7 3 1 l2.length xs4::O=OO∧Dp fu l5 k5 nx4 i1=some r) ?_ ?_
    ·
     refine Wp.cond rf (fun hb12=>?_) (fun hb12=>?_)
     ·
      obtain⟨hb12,hd⟩:=bT hb12 hd
      obtain⟨x6,hx6,hd⟩:=Ae hd
      have hx6_:=Ah hx6
      refine Wp.region<|Aa.op (Ab.move rf) rf<|Aa.op (Ab.move rf) rf ?_
      obtain⟨_,rfl,hc5,hc5_⟩:=Au.get (hq4.mono (hl3.trans hl4)) (AG hx6).2
      refine Aa.op (Ab.Bu (j:=3) BF Cp rf rf rf (Ah hx6)) rf<|Aa.op (Ab.Ch (i:=3) (k:=x5.toNat*1+0) u3 rf rf rf (hc5 0 _ rf)) rf<|Aa.op (Ab.assign rf) rf<|Aa.nil ?_
      refine At.Cn (Hp.le.refl _) ⟨x6,rf,rf,hd⟩ (Sub.of rf)
     obtain⟨hb12,hd⟩:=bF hb12 hd
     refine Wp.skip ?_
     refine At.Cn (Hp.le.refl _) ⟨x5,rf,rf,hd⟩ (Sub.of rf)
    intro L5 H5 O5 hl5 hI5
    obtain⟨i1,rfl,rfl,hd⟩:=hI5
    unfold Dp at hd
    obtain⟨ha4,hd⟩:=Al hd
    refine Wp.region<|Aa.op (Ab.move rf) rf<|Aa.op (Ab.move rf) rf<|Aa.A1 (c:=Ao) (y:=i1) (cs:=[(.int .i64 i1)]) BF Cp rf rf rf rf (rf) rf fun v13 xs10 hq10=>Aa.Df (i:=1) (j:=0) (hq9.mono hl5) hq10 BF Cp rf (by decide) rf rf rf rf (by decide) ha4 rf fun v14 xs11 hq11=>Aa.drop (i:=0)<|Aa.op (Ab.assign rf) rf<|Aa.nil ?_
    refine At.AE<|At.Ad<|Wp.region<|Aa.op (Ab.add rf rf (Aq (by omega))) rf<|Aa.op (Ab.move rf) rf<|Aa.nil ?_
    refine At.AO hl5 ⟨(l5++([i1]:List Int)),(k5+1),v14,xs11,rf,rf,(by rw[←hn4];exact hd),hq11⟩ (Sub.of rf)
   obtain⟨hb11,hd⟩:=bF hb11 hd
   refine Wp.exit<|At.An<|At.An<|At.Az<|At.Ad<|Wp.seq ?_
   obtain⟨x7,hx7,hd⟩:=Ae hd
   refine Wp.region<|Aa.op (Ab.move rf) rf<|Aa.op (Ab.move rf) rf<|Aa.op (Ab.call UY rf (Ca.Lh (c:=(cL Ao)) 1 rf (hq7.mono hl4) (fun _ e1 d1=>Ca.Lh (c:=Ao) 0 rf (hq9.mono e1) (fun _ e2 d2=>JX (d1.mono e2) d2 hx7)))) rf<|Aa.op (Ab.assign rf) rf<|Aa.Af<|Wp.seq<|Wp.sr ?_
   refine Aa.op (Ab.move rf) rf<|Aa.op (Ab.lss rf rf) rf<|Aa.Af ?_
   refine Wp.Fp (fun LL HH OO=> ∃(l6:List (List Int)),∃(i2:Int),∃(v15:Value),∃(xs12:List Value),[(0,v1),(1,v2),(5,v7),(8,(.int .i64 (k2:Int))),(9,v15),(10,v9),(11,(.int .i64 (k4:Int))),(16,(.int .i64 i2)),(34,(.int .i64 (a0.length:Int))),(35,(.int .i64 (k3:Int))),(41,(.int .i64 (a0.length:Int))),(42,(.int .i64 (k4:Int)))]=LL∧ .row v15 55 1 l6.length xs12:: .row v9 3 1 l3.length xs6:: .row v7 3 1 l2.length xs4::O=OO∧Dn fu l3 k4 nx3 l6 i2=some r∧Au (cL Ao) HH l6 xs12) ?_ ?_
   ·
    refine Wp.cond rf (fun hb13=>?_) (fun hb13=>?_)
    ·
     obtain⟨hb13,hd⟩:=bT hb13 hd
     refine Wp.sr<|Aa.op (Ab.move rf) rf ?_
     refine Aa.A7 (i:=1) rf fun hb14=>?_
     refine Aa.op (Ab.BR (i:=1) Ey rf rf) rf<|Aa.op (Ab.assign rf) rf<|Aa.Af ?_
     obtain⟨ha5,hd⟩:=Al hd
     refine Wp.region<|Aa.op (Ab.move rf) rf<|Aa.op (Ab.move rf) rf ?_
     refine Aa.A7 (i:=0) rf fun hb15=>?_
     refine Aa.freeze (i:=0) rf fun H6 hl6 hs1=>?_
     have hv4:=AW.of (c:=Ao) hs1 rfl (hq9.mono hl6) hb15
     refine Aa.A1 (c:=(cL Ao)) (y:=l5) (cs:=[v12]) Ey Dx rf rf rf (DZ hv4.one) (⟨_,rf,hv4⟩) rf fun v16 xs13 hq12=>Aa.Df (i:=1) (j:=0) (hq7.mono (hl4.trans hl6)) hq12 Ey Dx rf (by decide) rf rf rf rf (by decide) ha5 rf fun v17 xs14 hq13=>Aa.drop (i:=0)<|Aa.op (Ab.assign rf) rf<|Aa.nil ?_
     refine At.Cn hl6 ⟨(l4++([l5]:List (List Int))),(l4.length:Int),v17,xs14,rf,rf,hd,hq13⟩ (Sub.of rf)
    obtain⟨hb13,hd⟩:=bF hb13 hd
    refine Wp.skip<|At.AR [1,2,3] 4 rf rf rf ?_
    refine At.Cn (Hp.le.refl _) ⟨l4,x7,v10,xs7,rf,rf,hd,(hq7.mono hl4)⟩ (Sub.of rf)
   intro L6 H7 O6 hl7 hI6
   obtain⟨l6,i2,v15,xs12,rfl,rfl,hd,hq14⟩:=hI6
   unfold Dn at hd
   obtain⟨x8,hx8,hd⟩:=Ae hd
   have hx8_:=Ah hx8
   refine Wp.region<|Aa.op (Ab.move rf) rf<|Aa.op (Ab.move rf) rf<|Aa.op (Ab.move rf) rf ?_
   obtain⟨_,rfl,hc6,hc6_⟩:=Au.get (hq6.mono (hl4.trans hl7)) (AG hx8).2
   refine Aa.op (Ab.Bu (j:=1) BF Cp rf rf rf (Ah hx8)) rf ?_
   refine Aa.Pw (q:=1) (off:=0) (vs:=[(.int .i64 i2)]) (y:=i2) (cs:=[(.int .i64 x8)]) (hq6.mono (hl4.trans hl7)) hx8 hc6_ rf rf rf Cp rf rf (Ac rf (As)) rf (rf) rf (fun xs15 hq15=>?_)
   refine Aa.nil<|At.AE<|At.Ad<|Wp.region<|Aa.op (Ab.add rf rf (Aq (by omega))) rf<|Aa.op (Ab.move rf) rf<|Aa.nil ?_
   refine At.AO (hl4.trans hl7) ⟨(l3.set k4 i2),l6,(k4+1),v9,xs15,v15,xs12,rf,rf,(by rw[←hn3];exact hd),hq15,hq14⟩ (Sub.of rf)
  obtain⟨hb9,hd⟩:=bF hb9 hd
  refine Wp.exit<|At.An<|At.An<|At.Az<|At.Ad<|Wp.sr<|Aa.op (Ab.move rf) rf<|Aa.op (Ab.assign rf) rf ?_
  refine Aa.Af<|Wp.seq<|Wp.sr<|Aa.op (Ab.move rf) rf ?_
  refine Aa.A7 (i:=0) rf fun hb16=>?_
  refine Aa.op (Ab.BR (i:=0) Ey rf rf) rf<|Aa.op (Ab.move rf) rf<|Aa.op (Ab.eql rf rf) rf<|Aa.Af ?_
  refine Wp.cond rf (fun hb17=>?_) (fun hb17=>?_)
  ·
   obtain⟨hb17,hd⟩:=bT hb17 hd
   refine Wp.exit<|At.An<|At.KP rf<|At.An<|At.An<|At.Az<|At.Ad<|Wp.sr ?_
   refine Aa.op (Ab.move rf) rf<|Aa.op (Ab.assign rf) rf<|Aa.Af<|Wp.ret ?_
   refine At.A7 (i:=1) rf fun hb18=>?_
   refine At.freeze (i:=1) rf fun H8 hl8 hs2=>?_
   have hv5:=AW.of (c:=Ao) hs2 rfl (hq6.mono hl8) hb18
   obtain rfl:=si hd
   exact At.DB rf (RV.tmp (v:=v9) rf) (fun w hs=>⟨_,_,_,rf,(((hl1.trans hl2).trans hl3).trans hl8),(hs.Cg 2),⟨⟨v9,rf,hv5⟩,rf⟩⟩)
  obtain⟨hb17,hd⟩:=bF hb17 hd
  refine Wp.skip<|At.Ad<|Wp.region<|Aa.op (Ab.move rf) rf ?_
  refine Aa.A7 (i:=0) rf fun hb19=>?_
  refine Aa.op (Ab.BR (i:=0) Ey rf rf) rf<|Aa.op (Ab.assign rf) rf<|Aa.nil<|At.AE<|At.Ad<|Wp.region<|Aa.op (Ab.add rf rf (Aq (by omega))) rf<|Aa.op (Ab.move rf) rf ?_
  refine Aa.nil<|At.AR [1] 3 rf rf rf ?_
  refine At.AO hl3 ⟨l3,l4.length,(k3+1),v9,xs6,rf,rf,(by rw[←hn2];exact hd),hq6⟩ (Sub.of rf)
 obtain⟨hb6,hd⟩:=bF hb6 hd
 refine Wp.exit<|At.An<|At.An<|At.Az<|At.Ad<|Wp.sr<|Aa.op (Ab.move rf) rf<|Aa.op (Ab.assign rf) rf ?_
 refine Aa.Af<|Wp.ret ?_
 refine At.A7 (i:=0) rf fun hb20=>?_
 refine At.freeze (i:=0) rf fun H9 hl9 hs3=>?_
 have hv6:=AW.of (c:=Ao) hs3 rfl (hq4.mono hl9) hb20
 obtain rfl:=si hd
 exact At.DB rf (RV.tmp (v:=v7) rf) (fun w hs=>⟨_,_,_,rf,((hl1.trans hl2).trans hl9),(hs.Cg 0),⟨⟨v7,rf,hv6⟩,rf⟩⟩)
theorem Ni{fu:Nat}{a0:List (Bool×(List (Int×Int×Int)))}{v1:Value}{r:List (Bool×(List (Int×Int×Int)))}(hv1:AW (cP cB (cL (cP AZ (cP AZ Ao)))) H a0 v1)(hd:Gx fu a0=some r):
    ED Tryz.prog 28 [v1] H O (fun v H' O'=>(∃v2:Value,v2=v∧AW (cP cB (cL (cP AZ (cP AZ Ao)))) H' r v2)∧O=O'):=by
 intro w hs
 refine Bz Tryz.func28 rf rf rf ?_ hs
 clear hs w
 unfold Gx at hd
 refine Wp.sr<|Aa.op (Ab.assign rf) rf<|Aa.Af<|Wp.seq ?_
 obtain⟨x1,hx1,hd⟩:=Ae hd
 refine Wp.region<|Aa.op (Ab.move rf) rf<|Aa.E8 (BC.call Xb rf (Lz hv1 hx1)) rf ?_
 rintro _ H1 _ hl1 ⟨⟨v3,rfl,hv2⟩,rfl⟩
 refine Aa.op (Ab.assign rf) rf<|Aa.Af<|Wp.sr<|Aa.op (Ab.assign rf) rf<|Aa.Af<|Wp.seq<|Wp.sr<|Aa.op (Ab.move rf) rf ?_
 have hb1:=hv1.le
 refine Aa.op (Ab.len CG rf (hv1.mono hl1).sl) rf<|Aa.op (Ab.move rf) rf<|Aa.Af<|Wp.block<|Wp.BG 43 2<|Wp.A_ (fun m LL HH OO=> ∃(l1:List (Bool×(List (Int×Int×Int)))),∃(k1:Nat),∃(v4:Value),∃(xs1:List Value),[(3,v3),(4,v4),(12,v1),(13,(.int .i64 (a0.length:Int))),(14,(.int .i64 (k1:Int)))]=LL∧ .row v4 43 2 l1.length xs1::O=OO∧Ax m (fun p nx=>DP fu a0 x1 p.1 p.2 nx) (l1,k1)=some r∧Au (cP cB (cL (cP AZ (cP AZ Ao)))) HH l1 xs1) fu ⟨([]:List (Bool×(List (Int×Int×Int)))),0,(.slice none 0 0),[],rf,rf,hd,(Au.nil (c:=(cP cB (cL (cP AZ (cP AZ Ao))))) (H:=H1))⟩ (Sub.of rf) ?_
 intro m1 L1 H2 O1 hl2 hI1
 obtain⟨l1,k1,v4,xs1,rfl,rfl,hd,hq1⟩:=hI1
 obtain⟨m2,nx1,rfl,hn1,hd⟩:=A9 hd
 replace hd:DP fu a0 x1 l1 k1 nx1=some r:=hd
 unfold DP at hd
 refine Wp.sr<|Aa.op (Ab.lss rf rf) rf<|Aa.Af<|Wp.seq ?_
 refine Wp.cond rf (fun hb2=>?_) (fun hb2=>?_)
 ·
  obtain⟨hb2,hd⟩:=bT hb2 hd
  refine Wp.skip<|At.Ad<|Wp.seq<|Wp.block<|Wp.seq ?_
  obtain⟨x2,hx2,hd⟩:=Ae hd
  have hx2_:=Ah hx2
  refine Wp.region ?_
  obtain⟨_,⟨_,_,rfl,rfl,⟨v5,rfl,hv3⟩⟩,hc1⟩:=AW.get (hv1.mono (hl1.trans hl2)) hx2
  refine Aa.op (Ab.Bo CG Bl rf (hv1.mono (hl1.trans hl2)).sl rf (Ah hx2)) rf<|Aa.op (Ab.C9 (vs:=[(.bool x2.1),v5]) NA rf Bl rf rf (fun j u hj=>(hc1 j u hj))) rf<|Aa.alloc (cs:= #[(.bool false),(.slice none 0 0)]) Bl rf rf fun B2=>Aa.AP (i:=0) (cs':= #[(.bool x2.1),v5]) rf rf Bl rf rf (Bc (Ac rf (Ac hv3.one (As)))) rf ?_
  refine Aa.own (O:=_::_::_) ?_ rf
  refine Aa.Af<|Wp.sr<|Aa.op (Ab.AV (o':=0) E_ rf rf) rf<|Aa.op (Ab.Am (i:=0) (v:=(.bool x2.1)) u4 rf rf rf rf) rf<|Aa.op (Ab.Bi (vs:=[(0,(.bool x2.1))]) (cs:= #[(.bool x2.1),(.slice none 0 0)]) Hq Bl rf rf (AJ rf (Bd)) rf) rf<|Aa.alloc (cs:= #[(.bool false),(.slice none 0 0)]) Bl rf rf fun B3=>Aa.AP (i:=0) (cs':= #[(.bool x2.1),(.slice none 0 0)]) rf rf Bl rf rf (Bc (Ac rf (Ac rf (As)))) rf ?_
  refine Aa.own (O:=_::_::_::_) ?_ rf
  refine Aa.Af<|Wp.seq<|Wp.sr<|Aa.op (Ab.AV (o':=1) Bv rf rf) rf<|Aa.op (Ab.Am (i:=1) (v:=v5) CC rf rf rf rf) rf ?_
  have hb3:=hv3.le
  refine Aa.op (Ab.len CC rf hv3.sl) rf<|Aa.op (Ab.move rf) rf<|Aa.Af<|Wp.block<|Wp.BG 46 3<|Wp.A_ (fun m LL HH OO=> ∃(l2:List (Int×Int×Int)),∃(k2:Nat),∃(v6:Value),∃(xs2:List Value),[(3,v3),(4,v4),(7,(ptr B3 0)),(12,v1),(13,(.int .i64 (a0.length:Int))),(14,(.int .i64 (k1:Int))),(22,v5),(23,(.int .i64 (x2.2.length:Int))),(24,(.int .i64 (k2:Int)))]=LL∧ .row v6 46 3 l2.length xs2:: .AM B3 (.cells #[(.bool x2.1),v6] 43 (0,0)):: .AM B2 (.cells #[(.bool x2.1),v5] 43 (0,0)):: .row v4 43 2 l1.length xs1::O=OO∧Ax m (fun p nx=>DO fu x1 l1 k1 nx1 x2 p.1 p.2 nx) (l2,k2)=some r∧Au (cP AZ (cP AZ Ao)) HH l2 xs2) fu ⟨([]:List (Int×Int×Int)),0,(.slice none 0 0),[],rf,rf,hd,(Au.nil (c:=(cP AZ (cP AZ Ao))) (H:=H2))⟩ (Sub.of rf) ?_
  intro m3 L2 H3 O2 hl3 hI2
  obtain⟨l2,k2,v6,xs2,rfl,rfl,hd,hq2⟩:=hI2
  obtain⟨m4,nx2,rfl,hn2,hd⟩:=A9 hd
  replace hd:DO fu x1 l1 k1 nx1 x2 l2 k2 nx2=some r:=hd
  unfold DO at hd
  refine Wp.sr<|Aa.op (Ab.lss rf rf) rf<|Aa.Af<|Wp.seq ?_
  refine Wp.cond rf (fun hb4=>?_) (fun hb4=>?_)
  ·
   obtain⟨hb4,hd⟩:=bT hb4 hd
   refine Wp.skip<|At.Ad<|Wp.seq<|Wp.block<|Wp.seq ?_
   obtain⟨x3,hx3,hd⟩:=Ae hd
   have hx3_:=Ah hx3
   refine Wp.region ?_
   obtain⟨_,⟨_,_,rfl,⟨rfl,hr1,hr2⟩,⟨_,_,rfl,⟨rfl,hr3,hr4⟩,rfl⟩⟩,hc2⟩:=AW.get (hv3.mono hl3) hx3
   refine Aa.op (Ab.Bo CC BA rf (hv3.mono hl3).sl rf (Ah hx3)) rf<|Aa.op (Ab.C9 (vs:=[(.int .u8 x3.1),(.int .u8 x3.2.1),(.int .i64 x3.2.2)]) QS rf BA rf rf (fun j u hj=>(hc2 j u hj))) rf<|Aa.alloc (cs:= #[(.int .u8 0),(.int .u8 0),(.int .i64 0)]) BA rf rf fun B4=>Aa.AP (i:=0) (cs':= #[(.int .u8 x3.1),(.int .u8 x3.2.1),(.int .i64 x3.2.2)]) rf rf BA rf rf (Bc (Ac rf (Ac rf (Ac rf (As))))) rf ?_
   refine Aa.own (O:=_::_::_::_::_::_) ?_ rf
   refine Aa.Af<|Wp.seq ?_
   obtain⟨x4,hx4,hd⟩:=Ae hd
   have hx4_:=Ah hx4
   refine Wp.region<|Aa.op (Ab.move rf) rf<|Aa.op (Ab.AV (o':=2) CI rf rf) rf<|Aa.op (Ab.Am (i:=0) (v:=(.int .i64 x3.2.2)) u3 rf rf rf rf) rf ?_
   obtain⟨_,rfl,hc3⟩:=AW.get (hv2.mono (hl2.trans hl3)) hx4
   refine Aa.op (Ab.Bo GX ES rf (hv2.mono (hl2.trans hl3)).sl rf (Ah hx4)) rf<|Aa.op (Ab.FJ u4 rf rf (hc3 0 _ rf)) rf<|Aa.Af ?_
   refine Wp.cond rf (fun hb5=>?_) (fun hb5=>?_)
   ·
    replace hd:=Fs hb5 hd
    obtain⟨ha1,hd⟩:=Al hd
    refine Wp.region<|Aa.op (Ab.AV (o':=1) Bv rf rf) rf<|Aa.op (Ab.Am (i:=2) (v:=v6) CC rf rf rf rf) rf<|Aa.op (Ab.AF (i:=0) QS rf BA rf rf rf) rf<|Aa.A1 (c:=(cP AZ (cP AZ Ao))) (y:=x3) (cs:=[(.int .u8 x3.1),(.int .u8 x3.2.1),(.int .i64 x3.2.2)]) CC BA rf rf rf rf (⟨[(.int .u8 x3.1)],[(.int .u8 x3.2.1),(.int .i64 x3.2.2)],rf,⟨rf,(show(0:Int)≤x3.1 by omega),(show x3.1≤(255:Int) by omega)⟩,⟨[(.int .u8 x3.2.1)],[(.int .i64 x3.2.2)],rf,⟨rf,(show(0:Int)≤x3.2.1 by omega),(show x3.2.1≤(255:Int) by omega)⟩,rf⟩⟩) rf fun v7 xs3 hq3=>Aa.Df (i:=2) (j:=0) hq2 hq3 CC BA rf (by decide) rf rf rf rf (by decide) ha1 rf fun v8 xs4 hq4=>Aa.drop (i:=0)<|Aa.op (Ab.AV (o':=1) Bv rf rf) rf ?_
    refine Aa.Bm (i:=1) rf fun ho1=>Aa.Cc (i:=2) rf rf ho1 Mg rf (Nat.le_of_ble_eq_true rf) ?_
    refine Aa.own (O:=_::_::_::_::_::_) ?_ rf
    refine Aa.nil<|At.AE<|At.Ad<|Wp.region<|Aa.op (Ab.add rf rf (Aq (by omega))) rf<|Aa.op (Ab.move rf) rf<|Aa.nil<|At.AR [1,2,3,4] 5 rf rf rf ?_
    refine At.AO (Hp.le.refl _) ⟨(l2++([x3]:List (Int×Int×Int))),(k2+1),v8,xs4,rf,rf,(by rw[←hn2];exact hd),hq4⟩ (Sub.of rf)
   replace hd:=Ft hb5 hd
   refine Wp.skip<|At.AE<|At.Ad<|Wp.region<|Aa.op (Ab.add rf rf (Aq (by omega))) rf<|Aa.op (Ab.move rf) rf<|Aa.nil<|At.AR [1,2,3,4] 5 rf rf rf ?_
   refine At.AO (Hp.le.refl _) ⟨l2,(k2+1),v6,xs2,rf,rf,(by rw[←hn2];exact hd),hq2⟩ (Sub.of rf)
  obtain⟨hb4,hd⟩:=bF hb4 hd
  refine Wp.exit<|At.An<|At.An<|At.Az<|At.Ad ?_
  obtain⟨ha2,hd⟩:=Al hd
  refine Wp.region<|Aa.op (Ab.move rf) rf<|Aa.op (Ab.AF (i:=1) NA rf Bl rf rf rf) rf ?_
  refine Aa.A7 (i:=0) rf fun hb6=>?_
  refine Aa.freeze (i:=0) rf fun H4 hl4 hs1=>?_
  have hv4:=AW.of (c:=(cP AZ (cP AZ Ao))) hs1 rfl (hq2.mono hl4) hb6
  refine Aa.A1 (c:=(cP cB (cL (cP AZ (cP AZ Ao))))) (y:=(x2.1,l2)) (cs:=[(.bool x2.1),v6]) CG Bl rf rf rf rf (⟨[(.bool x2.1)],[v6],rf,rf,⟨_,rf,hv4⟩⟩) rf fun v9 xs5 hq5=>Aa.Df (i:=3) (j:=0) (hq1.mono (hl3.trans hl4)) hq5 CG Bl rf (by decide) rf rf rf rf (by decide) ha2 rf fun v10 xs6 hq6=>Aa.drop (i:=0)<|Aa.op (Ab.assign rf) rf<|Aa.nil<|At.AE<|At.Ad<|Wp.region ?_
  refine Aa.op (Ab.add rf rf (Aq (by omega))) rf<|Aa.op (Ab.move rf) rf<|Aa.nil<|At.AR [2] 3 rf rf rf ?_
  refine At.AO (hl3.trans hl4) ⟨(l1++([(x2.1,l2)]:List (Bool×(List (Int×Int×Int))))),(k1+1),v10,xs6,rf,rf,(by rw[←hn1];exact hd),hq6⟩ (Sub.of rf)
 obtain⟨hb2,hd⟩:=bF hb2 hd
 refine Wp.exit<|At.An<|At.An<|At.Az<|At.Ad<|Wp.sr<|Aa.op (Ab.move rf) rf<|Aa.op (Ab.assign rf) rf ?_
 refine Aa.Af<|Wp.ret ?_
 refine At.A7 (i:=0) rf fun hb7=>?_
 refine At.freeze (i:=0) rf fun H5 hl5 hs2=>?_
 have hv5:=AW.of (c:=(cP cB (cL (cP AZ (cP AZ Ao))))) hs2 rfl (hq1.mono hl5) hb7
 obtain rfl:=si hd
 exact At.DB rf (RV.tmp (v:=v4) rf) (fun w hs=>⟨_,_,_,rf,((hl1.trans hl2).trans hl5),(hs.Cg 0),⟨⟨v4,rf,hv5⟩,rf⟩⟩)
theorem Nj{fu:Nat}{a0:List (Bool×(List (Int×Int×Int)))}{v1:Value}{r:List (Bool×(List (Int×Int×Int)))}(hv1:AW (cP cB (cL (cP AZ (cP AZ Ao)))) H a0 v1)(hd:Gy fu a0=some r):
    ED Tryz.prog 29 [v1] H O (fun v H' O'=>(∃v2:Value,v2=v∧AW (cP cB (cL (cP AZ (cP AZ Ao)))) H' r v2)∧O=O'):=by
 intro w hs
 refine Bz Tryz.func29 rf rf rf ?_ hs
 clear hs w
 unfold Gy at hd
 refine Wp.sr<|Aa.op (Ab.assign rf) rf<|Aa.Af<|Wp.sr<|Aa.A1 (c:=Ao) (y:=0) (cs:=[(.int .i64 0)]) BF Cp rf rf rf rf (rf) rf fun v3 xs1 hq1=>Aa.op (Ab.assign rf) rf<|Aa.Af<|Wp.sr ?_
 refine Aa.op (Ab.assign rf) rf<|Aa.Af<|Wp.seq<|Wp.sr<|Aa.op (Ab.assign rf) rf<|Aa.Af<|Wp.block<|Wp.BG 43 2 ?_
 refine Wp.A_ (fun m LL HH OO=> ∃(l1:List Int),∃(l2:List (Bool×(List (Int×Int×Int)))),∃(k1:Nat),∃(v4:Value),∃(xs2:List Value),∃(v5:Value),∃(xs3:List Value),[(0,v1),(3,v4),(4,v5),(5,(.int .i64 (k1:Int)))]=LL∧ .row v5 43 2 l2.length xs3:: .row v4 3 1 l1.length xs2::O=OO∧Ax m (fun p nx=>Ek fu a0 p.1 p.2.1 p.2.2 nx) (l1,l2,k1)=some r∧Au Ao HH l1 xs2∧Au (cP cB (cL (cP AZ (cP AZ Ao)))) HH l2 xs3) fu ⟨([0]:List Int),([]:List (Bool×(List (Int×Int×Int)))),0,v3,xs1,(.slice none 0 0),[],rf,rf,hd,hq1,(Au.nil (c:=(cP cB (cL (cP AZ (cP AZ Ao))))) (H:=H))⟩ (Sub.of rf) ?_
 intro m1 L1 H1 O1 hl1 hI1
 obtain⟨l1,l2,k1,v4,xs2,v5,xs3,rfl,rfl,hd,hq2,hq3⟩:=hI1
 obtain⟨m2,nx1,rfl,hn1,hd⟩:=A9 hd
 replace hd:Ek fu a0 l1 l2 k1 nx1=some r:=hd
 unfold Ek at hd
 refine Wp.seq<|Wp.sr<|Aa.op (Ab.move rf) rf<|Aa.op (Ab.move rf) rf ?_
 refine Aa.A7 (i:=1) rf fun hb1=>?_
 refine Aa.op (Ab.BR (i:=1) BF rf rf) rf<|Aa.op (Ab.lss rf rf) rf<|Aa.Af ?_
 refine Wp.cond rf (fun hb2=>?_) (fun hb2=>?_)
 ·
  obtain⟨hb2,hd⟩:=bT hb2 hd
  refine Wp.skip<|At.Ad<|Wp.seq<|Wp.block<|Wp.seq ?_
  obtain⟨x1,hx1,hd⟩:=Ae hd
  have hx1_:=Ah hx1
  obtain⟨x2,hx2,hd⟩:=Ae hd
  have hx2_:=Ah hx2
  refine Wp.region<|Aa.op (Ab.move rf) rf<|Aa.op (Ab.move rf) rf<|Aa.op (Ab.move rf) rf ?_
  obtain⟨_,rfl,hc1,hc1_⟩:=Au.get hq2 (AG hx1).2
  refine Aa.op (Ab.Bu (j:=1) BF Cp rf rf rf (Ah hx1)) rf<|Aa.op (Ab.Ch (i:=1) (k:=k1*1+0) u3 rf rf rf (hc1 0 _ rf)) rf ?_
  obtain⟨_,⟨_,_,rfl,rfl,⟨v6,rfl,hv2⟩⟩,hc2⟩:=AW.get (hv1.mono hl1) hx2
  refine Aa.op (Ab.Bo CG Bl rf (hv1.mono hl1).sl rf (Ah hx2)) rf<|Aa.op (Ab.Nr E_ rf (hv1.mono hl1).sl (by omega)) rf<|Aa.op (Ab.FJ u4 rf rf (hc2 0 _ rf)) rf<|Aa.op (Ab.Bi (vs:=[(0,(.bool x2.1))]) (cs:= #[(.bool x2.1),(.slice none 0 0)]) Hq Bl rf rf (AJ rf (Bd)) rf) rf<|Aa.alloc (cs:= #[(.bool false),(.slice none 0 0)]) Bl rf rf fun B2=>Aa.AP (i:=0) (cs':= #[(.bool x2.1),(.slice none 0 0)]) rf rf Bl rf rf (Bc (Ac rf (Ac rf (As)))) rf ?_
  refine Aa.own (O:=_::_::_::_) ?_ rf
  refine Aa.Af<|Wp.seq<|Wp.seq ?_
  obtain⟨x3,hx3,hd⟩:=Ae hd
  have hx3_:=Ah hx3
  obtain⟨x4,hx4,hd⟩:=Ae hd
  have hx4_:=Ah hx4
  refine Wp.region<|Aa.op (Ab.move rf) rf<|Aa.op (Ab.move rf) rf<|Aa.op (Ab.move rf) rf ?_
  obtain⟨_,rfl,hc3,hc3_⟩:=Au.get hq2 (AG hx3).2
  refine Aa.op (Ab.Bu (j:=2) BF Cp rf rf rf (Ah hx3)) rf<|Aa.op (Ab.Ch (i:=2) (k:=k1*1+0) u3 rf rf rf (hc3 0 _ rf)) rf ?_
  obtain⟨_,⟨_,_,rfl,rfl,⟨v7,rfl,hv3⟩⟩,hc4⟩:=AW.get (hv1.mono hl1) hx4
  refine Aa.op (Ab.Bo CG Bl rf (hv1.mono hl1).sl rf (Ah hx4)) rf<|Aa.op (Ab.Nr Bv rf (hv1.mono hl1).sl (by omega)) rf<|Aa.op (Ab.FJ CC rf rf (hc4 1 _ rf)) rf ?_
  have hb3:=hv3.le
  refine Aa.op (Ab.len CC rf hv3.sl) rf<|Aa.op (Ab.move rf) rf<|Aa.Af<|Wp.block<|Wp.BG 46 3<|Wp.A_ (fun m LL HH OO=> ∃(l3:List Int),∃(l4:List (Int×Int×Int)),∃(k2:Nat),∃(v8:Value),∃(xs4:List Value),∃(v9:Value),∃(xs5:List Value),[(0,v1),(3,v8),(4,v5),(5,(.int .i64 (k1:Int))),(6,(ptr B2 0)),(33,v7),(34,(.int .i64 (x4.2.length:Int))),(35,(.int .i64 (k2:Int)))]=LL∧ .row v9 46 3 l4.length xs5:: .AM B2 (.cells #[(.bool x2.1),v9] 43 (0,0)):: .row v5 43 2 l2.length xs3:: .row v8 3 1 l3.length xs4::O=OO∧Ax m (fun p nx=>Dk fu l2 k1 nx1 x2 x4 p.1 p.2.1 p.2.2 nx) (l3,l4,k2)=some r∧Au Ao HH l3 xs4∧Au (cP AZ (cP AZ Ao)) HH l4 xs5) fu ⟨l1,([]:List (Int×Int×Int)),0,v4,xs2,(.slice none 0 0),[],rf,rf,hd,hq2,(Au.nil (c:=(cP AZ (cP AZ Ao))) (H:=H1))⟩ (Sub.of rf) ?_
  intro m3 L2 H2 O2 hl2 hI2
  obtain⟨l3,l4,k2,v8,xs4,v9,xs5,rfl,rfl,hd,hq4,hq5⟩:=hI2
  obtain⟨m4,nx2,rfl,hn2,hd⟩:=A9 hd
  replace hd:Dk fu l2 k1 nx1 x2 x4 l3 l4 k2 nx2=some r:=hd
  unfold Dk at hd
  refine Wp.sr<|Aa.op (Ab.lss rf rf) rf<|Aa.Af<|Wp.seq ?_
  refine Wp.cond rf (fun hb4=>?_) (fun hb4=>?_)
  ·
   obtain⟨hb4,hd⟩:=bT hb4 hd
   refine Wp.skip<|At.Ad<|Wp.seq<|Wp.block<|Wp.seq ?_
   obtain⟨x5,hx5,hd⟩:=Ae hd
   have hx5_:=Ah hx5
   refine Wp.region ?_
   obtain⟨_,⟨_,_,rfl,⟨rfl,hr1,hr2⟩,⟨_,_,rfl,⟨rfl,hr3,hr4⟩,rfl⟩⟩,hc5⟩:=AW.get (hv3.mono hl2) hx5
   refine Aa.op (Ab.Bo CC BA rf (hv3.mono hl2).sl rf (Ah hx5)) rf<|Aa.op (Ab.C9 (vs:=[(.int .u8 x5.1),(.int .u8 x5.2.1),(.int .i64 x5.2.2)]) QS rf BA rf rf (fun j u hj=>(hc5 j u hj))) rf<|Aa.alloc (cs:= #[(.int .u8 0),(.int .u8 0),(.int .i64 0)]) BA rf rf fun B3=>Aa.AP (i:=0) (cs':= #[(.int .u8 x5.1),(.int .u8 x5.2.1),(.int .i64 x5.2.2)]) rf rf BA rf rf (Bc (Ac rf (Ac rf (Ac rf (As))))) rf ?_
   refine Aa.own (O:=_::_::_::_::_::_) ?_ rf
   refine Aa.Af<|Wp.sr<|Aa.op (Ab.assign rf) rf<|Aa.Af<|Wp.seq<|Wp.block<|Wp.A_ (fun m LL HH OO=> ∃(i1:Int),[(0,v1),(3,v8),(4,v5),(5,(.int .i64 (k1:Int))),(6,(ptr B2 0)),(8,(ptr B3 0)),(9,(.int .i64 i1)),(33,v7),(34,(.int .i64 (x4.2.length:Int))),(35,(.int .i64 (k2:Int)))]=LL∧ .AM B3 (.cells #[(.int .u8 x5.1),(.int .u8 x5.2.1),(.int .i64 x5.2.2)] 46 (0,0)):: .row v9 46 3 l4.length xs5:: .AM B2 (.cells #[(.bool x2.1),v9] 43 (0,0)):: .row v5 43 2 l2.length xs3:: .row v8 3 1 l3.length xs4::O=OO∧Ax m (Ej fu l3 l4 k2 nx2 x5) i1=some r) fu ⟨0,rf,rf,hd⟩ (Sub.of rf) ?_
   intro m5 L3 H3 O3 hl3 hI3
   obtain⟨i1,rfl,rfl,hd⟩:=hI3
   obtain⟨m6,nx3,rfl,hn3,hd⟩:=A9 hd
   replace hd:Ej fu l3 l4 k2 nx2 x5 i1 nx3=some r:=hd
   unfold Ej at hd
   refine Wp.seq<|Wp.seq ?_
   rcases Bool.eq_false_or_eq_true (decide (i1<(l3.length:Int)))with hg1|hg1
   ·
    obtain⟨hg1_,hd⟩:=bT hg1 hd
    obtain⟨x6,hx6,hd⟩:=Ae hd
    have hx6_:=Ah hx6
    refine Wp.A7 (i:=4) rf fun hb5=>?_
    obtain⟨_,rfl,hc6,hc6_⟩:=Au.get (hq4.mono hl3) (AG hx6).2
    refine Wp.CV 13 follows rf (by kernel_rfl)<|Ag.A6 (Ab.move rf) rf<|Ag.A6 (Ab.move rf) rf<|Ag.A6 (Ab.BR (i:=4) BF rf rf) rf<|Ag.A6 (Ab.Bg (b:=decide (i1<(l3.length:Int))) (c:=true) (Ab.lss rf rf) hg1) rf<|Ag.A6 (Ab.move rf) rf<|Ag.AY rf rf (Ab.move rf) rf<|Ag.AY rf rf (Ab.move rf) rf ?_
    refine Ag.AY rf rf (Ab.Bu (j:=4) BF Cp rf rf rf (Ah hx6)) rf<|Ag.AY rf rf (Ab.Ch (i:=4) (k:=i1.toNat*1+0) u3 rf rf rf (hc6 0 _ rf)) rf<|Ag.AY rf rf (Ab.AV (o':=2) CI rf rf) rf<|Ag.AY rf rf (Ab.Am (i:=0) (v:=(.int .i64 x5.2.2)) u3 rf rf rf rf) rf<|Ag.AY rf rf (Ab.neq rf rf) rf<|Ag.A6 (Ab.AK rf rf) rf<|Ag.CW<|Ap.is (t:=0) rf ?_
    refine Ap.is (t:=3) rf<|Ap.is (t:=4) rf<|Ap.is (t:=5) rf<|Ap.is (t:=6) rf<|Ap.is (t:=8) rf<|Ap.is (t:=9) rf<|Ap.is (t:=33) rf<|Ap.is (t:=34) rf ?_
    refine Ap.is (t:=35) rf<|Ap.is (t:=51) rf<|Ap.JB<|Aa.Af ?_
    refine Wp.cond rf (fun hb6=>?_) (fun hb6=>?_)
    ·
     obtain⟨hb6,hd⟩:=bT hb6 hd
     refine Wp.skip<|At.Ad<|Wp.block ?_
     obtain⟨ha1,hd⟩:=Al hd
     refine Wp.region<|Aa.op (Ab.move rf) rf<|Aa.op (Ab.add rf rf (Aq ha1)) rf<|Aa.op (Ab.assign rf) rf<|Aa.nil<|At.AE ?_
     refine At.AO (Hp.le.refl _) ⟨(i1+1),rf,rf,(by rw[←hn3];exact hd)⟩ (Sub.of rf)
    obtain⟨hb6,hd⟩:=bF hb6 hd
    refine Wp.exit<|At.An<|At.An<|At.Az<|At.Ad<|Wp.seq<|Wp.sr<|Aa.op (Ab.move rf) rf ?_
    refine Aa.op (Ab.move rf) rf ?_
    refine Aa.A7 (i:=4) rf fun hb7=>?_
    refine Aa.op (Ab.BR (i:=4) BF rf rf) rf<|Aa.op (Ab.eql rf rf) rf<|Aa.Af ?_
    refine Wp.Fp (fun LL HH OO=> ∃(l5:List Int),∃(v10:Value),∃(xs6:List Value),[(0,v1),(3,v10),(4,v5),(5,(.int .i64 (k1:Int))),(6,(ptr B2 0)),(8,(ptr B3 0)),(9,(.int .i64 i1)),(33,v7),(34,(.int .i64 (x4.2.length:Int))),(35,(.int .i64 (k2:Int)))]=LL∧ .AM B3 (.cells #[(.int .u8 x5.1),(.int .u8 x5.2.1),(.int .i64 x5.2.2)] 46 (0,0)):: .row v9 46 3 l4.length xs5:: .AM B2 (.cells #[(.bool x2.1),v9] 43 (0,0)):: .row v5 43 2 l2.length xs3:: .row v10 3 1 l5.length xs6::O=OO∧Ei fu l4 k2 nx2 x5 i1 l5=some r∧Au Ao HH l5 xs6) ?_ ?_
    ·
     refine Wp.cond rf (fun hb8=>?_) (fun hb8=>?_)
     ·
      obtain⟨hb8,hd⟩:=bT hb8 hd
      obtain⟨ha2,hd⟩:=Al hd
      refine Wp.region<|Aa.op (Ab.move rf) rf<|Aa.op (Ab.AV (o':=2) CI rf rf) rf<|Aa.op (Ab.Am (i:=0) (v:=(.int .i64 x5.2.2)) u3 rf rf rf rf) rf<|Aa.A1 (c:=Ao) (y:=x5.2.2) (cs:=[(.int .i64 x5.2.2)]) BF Cp rf rf rf rf (rf) rf fun v11 xs7 hq6=>Aa.Df (i:=5) (j:=0) (hq4.mono hl3) hq6 BF Cp rf (by decide) rf rf rf rf (by decide) ha2 rf fun v12 xs8 hq7=>Aa.drop (i:=0)<|Aa.op (Ab.assign rf) rf ?_
      refine Aa.nil ?_
      refine At.Cn (Hp.le.refl _) ⟨(l3++([x5.2.2]:List Int)),v12,xs8,rf,rf,hd,hq7⟩ (Sub.of rf)
     obtain⟨hb8,hd⟩:=bF hb8 hd
     refine Wp.skip ?_
     refine At.Cn (Hp.le.refl _) ⟨l3,v8,xs4,rf,rf,hd,(hq4.mono hl3)⟩ (Sub.of rf)
    intro L4 H4 O4 hl4 hI4
    obtain⟨l5,v10,xs6,rfl,rfl,hd,hq8⟩:=hI4
    unfold Ei at hd
    obtain⟨ha3,hd⟩:=Al hd
    refine Wp.region<|Aa.op (Ab.AV (o':=1) Bv rf rf) rf<|Aa.op (Ab.Am (i:=2) (v:=v9) CC rf rf rf rf) rf<|Aa.op (Ab.AV (o':=0) Dg rf rf) rf<|Aa.op (Ab.Am (i:=0) (v:=(.int .u8 x5.1)) u5 rf rf rf rf) rf<|Aa.op (Ab.AV (o':=1) C_ rf rf) rf<|Aa.op (Ab.Am (i:=0) (v:=(.int .u8 x5.2.1)) u5 rf rf rf rf) rf<|Aa.op (Ab.move rf) rf ?_
    refine Aa.op (Ab.Bi (vs:=[(0,(.int .u8 x5.1)),(1,(.int .u8 x5.2.1)),(2,(.int .i64 i1))]) (cs:= #[(.int .u8 x5.1),(.int .u8 x5.2.1),(.int .i64 i1)]) Ho BA rf rf (AJ rf (AJ rf (AJ rf (Bd)))) rf) rf<|Aa.A1 (c:=(cP AZ (cP AZ Ao))) (y:=(x5.1,x5.2.1,i1)) (cs:=[(.int .u8 x5.1),(.int .u8 x5.2.1),(.int .i64 i1)]) CC BA rf rf rf rf (⟨[(.int .u8 x5.1)],[(.int .u8 x5.2.1),(.int .i64 i1)],rf,⟨rf,(show(0:Int)≤x5.1 by omega),(show x5.1≤(255:Int) by omega)⟩,⟨[(.int .u8 x5.2.1)],[(.int .i64 i1)],rf,⟨rf,(show(0:Int)≤x5.2.1 by omega),(show x5.2.1≤(255:Int) by omega)⟩,rf⟩⟩) rf fun v13 xs9 hq9=>Aa.Df (i:=2) (j:=0) (hq5.mono (hl3.trans hl4)) hq9 CC BA rf (by decide) rf rf rf rf (by decide) ha3 rf fun v14 xs10 hq10=>Aa.drop (i:=0)<|Aa.op (Ab.AV (o':=1) Bv rf rf) rf<|Aa.Bm (i:=1) rf fun ho1=>Aa.Cc (i:=2) rf rf ho1 Mg rf (Nat.le_of_ble_eq_true rf) ?_
    refine Aa.own (O:=_::_::_::_::_::_) ?_ rf
    refine Aa.nil<|At.AE<|At.Ad<|Wp.region<|Aa.op (Ab.add rf rf (Aq (by omega))) rf<|Aa.op (Ab.move rf) rf<|Aa.nil<|At.AR [1,2,3,4] 5 rf rf rf ?_
    refine At.AO (hl3.trans hl4) ⟨l5,(l4++([(x5.1,x5.2.1,i1)]:List (Int×Int×Int))),(k2+1),v10,xs6,v14,xs10,rf,rf,(by rw[←hn2];exact hd),hq8,hq10⟩ (Sub.of rf)
   obtain⟨hg1_,hd⟩:=bF hg1 hd
   refine Wp.A7 (i:=4) rf fun hb5=>?_
   refine Wp.CV 13 follows rf (by kernel_rfl)<|Ag.A6 (Ab.move rf) rf<|Ag.A6 (Ab.move rf) rf<|Ag.A6 (Ab.BR (i:=4) BF rf rf) rf<|Ag.A6 (Ab.Bg (b:=decide (i1<(l3.length:Int))) (c:=false) (Ab.lss rf rf) hg1) rf<|Ag.A6 (Ab.move rf) rf<|Ag.Aw rf rf rf rf<|Ag.Aw rf rf rf rf ?_
   refine Ag.Aw rf rf rf rf<|Ag.Aw rf rf rf rf<|Ag.Aw rf rf rf rf<|Ag.Aw rf rf rf rf<|Ag.Aw rf rf rf rf<|Ag.A6 (Ab.AA rf rf) rf<|Ag.CW<|Ap.is (t:=0) rf ?_
   refine Ap.is (t:=3) rf<|Ap.is (t:=4) rf<|Ap.is (t:=5) rf<|Ap.is (t:=6) rf<|Ap.is (t:=8) rf<|Ap.is (t:=9) rf<|Ap.is (t:=33) rf<|Ap.is (t:=34) rf ?_
   refine Ap.is (t:=35) rf<|Ap.is (t:=51) rf<|Ap.JB<|Aa.Af<|Wp.C2 rf<|Wp.exit<|At.An<|At.An ?_
   refine At.Az<|At.Ad<|Wp.seq<|Wp.sr<|Aa.op (Ab.move rf) rf<|Aa.op (Ab.move rf) rf ?_
   refine Aa.A7 (i:=4) rf fun hb9=>?_
   refine Aa.op (Ab.BR (i:=4) BF rf rf) rf<|Aa.op (Ab.eql rf rf) rf<|Aa.Af ?_
   refine Wp.Fp (fun LL HH OO=> ∃(l6:List Int),∃(v15:Value),∃(xs11:List Value),[(0,v1),(3,v15),(4,v5),(5,(.int .i64 (k1:Int))),(6,(ptr B2 0)),(8,(ptr B3 0)),(9,(.int .i64 i1)),(33,v7),(34,(.int .i64 (x4.2.length:Int))),(35,(.int .i64 (k2:Int)))]=LL∧ .AM B3 (.cells #[(.int .u8 x5.1),(.int .u8 x5.2.1),(.int .i64 x5.2.2)] 46 (0,0)):: .row v9 46 3 l4.length xs5:: .AM B2 (.cells #[(.bool x2.1),v9] 43 (0,0)):: .row v5 43 2 l2.length xs3:: .row v15 3 1 l6.length xs11::O=OO∧Eh fu l4 k2 nx2 x5 i1 l6=some r∧Au Ao HH l6 xs11) ?_ ?_
   ·
    refine Wp.cond rf (fun hb10=>?_) (fun hb10=>?_)
    ·
     obtain⟨hb10,hd⟩:=bT hb10 hd
     obtain⟨ha4,hd⟩:=Al hd
     refine Wp.region<|Aa.op (Ab.move rf) rf<|Aa.op (Ab.AV (o':=2) CI rf rf) rf<|Aa.op (Ab.Am (i:=0) (v:=(.int .i64 x5.2.2)) u3 rf rf rf rf) rf<|Aa.A1 (c:=Ao) (y:=x5.2.2) (cs:=[(.int .i64 x5.2.2)]) BF Cp rf rf rf rf (rf) rf fun v16 xs12 hq11=>Aa.Df (i:=5) (j:=0) (hq4.mono hl3) hq11 BF Cp rf (by decide) rf rf rf rf (by decide) ha4 rf fun v17 xs13 hq12=>Aa.drop (i:=0)<|Aa.op (Ab.assign rf) rf ?_
     refine Aa.nil ?_
     refine At.Cn (Hp.le.refl _) ⟨(l3++([x5.2.2]:List Int)),v17,xs13,rf,rf,hd,hq12⟩ (Sub.of rf)
    obtain⟨hb10,hd⟩:=bF hb10 hd
    refine Wp.skip ?_
    refine At.Cn (Hp.le.refl _) ⟨l3,v8,xs4,rf,rf,hd,(hq4.mono hl3)⟩ (Sub.of rf)
   intro L5 H5 O5 hl5 hI5
   obtain⟨l6,v15,xs11,rfl,rfl,hd,hq13⟩:=hI5
   unfold Eh at hd
   obtain⟨ha5,hd⟩:=Al hd
   refine Wp.region<|Aa.op (Ab.AV (o':=1) Bv rf rf) rf<|Aa.op (Ab.Am (i:=2) (v:=v9) CC rf rf rf rf) rf<|Aa.op (Ab.AV (o':=0) Dg rf rf) rf<|Aa.op (Ab.Am (i:=0) (v:=(.int .u8 x5.1)) u5 rf rf rf rf) rf<|Aa.op (Ab.AV (o':=1) C_ rf rf) rf<|Aa.op (Ab.Am (i:=0) (v:=(.int .u8 x5.2.1)) u5 rf rf rf rf) rf<|Aa.op (Ab.move rf) rf ?_
   refine Aa.op (Ab.Bi (vs:=[(0,(.int .u8 x5.1)),(1,(.int .u8 x5.2.1)),(2,(.int .i64 i1))]) (cs:= #[(.int .u8 x5.1),(.int .u8 x5.2.1),(.int .i64 i1)]) Ho BA rf rf (AJ rf (AJ rf (AJ rf (Bd)))) rf) rf<|Aa.A1 (c:=(cP AZ (cP AZ Ao))) (y:=(x5.1,x5.2.1,i1)) (cs:=[(.int .u8 x5.1),(.int .u8 x5.2.1),(.int .i64 i1)]) CC BA rf rf rf rf (⟨[(.int .u8 x5.1)],[(.int .u8 x5.2.1),(.int .i64 i1)],rf,⟨rf,(show(0:Int)≤x5.1 by omega),(show x5.1≤(255:Int) by omega)⟩,⟨[(.int .u8 x5.2.1)],[(.int .i64 i1)],rf,⟨rf,(show(0:Int)≤x5.2.1 by omega),(show x5.2.1≤(255:Int) by omega)⟩,rf⟩⟩) rf fun v18 xs14 hq14=>Aa.Df (i:=2) (j:=0) (hq5.mono (hl3.trans hl5)) hq14 CC BA rf (by decide) rf rf rf rf (by decide) ha5 rf fun v19 xs15 hq15=>Aa.drop (i:=0)<|Aa.op (Ab.AV (o':=1) Bv rf rf) rf<|Aa.Bm (i:=1) rf fun ho2=>Aa.Cc (i:=2) rf rf ho2 Mg rf (Nat.le_of_ble_eq_true rf) ?_
   refine Aa.own (O:=_::_::_::_::_::_) ?_ rf
   refine Aa.nil<|At.AE<|At.Ad<|Wp.region<|Aa.op (Ab.add rf rf (Aq (by omega))) rf<|Aa.op (Ab.move rf) rf<|Aa.nil<|At.AR [1,2,3,4] 5 rf rf rf ?_
   refine At.AO (hl3.trans hl5) ⟨l6,(l4++([(x5.1,x5.2.1,i1)]:List (Int×Int×Int))),(k2+1),v15,xs11,v19,xs15,rf,rf,(by rw[←hn2];exact hd),hq13,hq15⟩ (Sub.of rf)
  obtain⟨hb4,hd⟩:=bF hb4 hd
  refine Wp.exit<|At.An<|At.An<|At.Az<|At.Ad ?_
  obtain⟨ha6,hd⟩:=Al hd
  refine Wp.region<|Aa.op (Ab.move rf) rf<|Aa.op (Ab.AF (i:=1) NA rf Bl rf rf rf) rf ?_
  refine Aa.A7 (i:=0) rf fun hb11=>?_
  refine Aa.freeze (i:=0) rf fun H6 hl6 hs1=>?_
  have hv4:=AW.of (c:=(cP AZ (cP AZ Ao))) hs1 rfl (hq5.mono hl6) hb11
  refine Aa.A1 (c:=(cP cB (cL (cP AZ (cP AZ Ao))))) (y:=(x2.1,l4)) (cs:=[(.bool x2.1),v9]) CG Bl rf rf rf rf (⟨[(.bool x2.1)],[v9],rf,rf,⟨_,rf,hv4⟩⟩) rf fun v20 xs16 hq16=>Aa.Df (i:=2) (j:=0) (hq3.mono (hl2.trans hl6)) hq16 CG Bl rf (by decide) rf rf rf rf (by decide) ha6 rf fun v21 xs17 hq17=>Aa.drop (i:=0)<|Aa.op (Ab.assign rf) rf<|Aa.nil<|At.AE<|At.Ad<|Wp.region ?_
  refine Aa.op (Ab.move rf) rf<|Aa.op (Ab.add rf rf (Aq (by omega))) rf<|Aa.op (Ab.assign rf) rf<|Aa.nil<|At.AR [1,2] 3 rf rf rf ?_
  refine At.AO (hl2.trans hl6) ⟨l3,(l2++([(x2.1,l4)]:List (Bool×(List (Int×Int×Int))))),(k1+1),v8,xs4,v21,xs17,rf,rf,(by rw[←hn1];exact hd),(hq4.mono hl6),hq17⟩ (Sub.of rf)
 obtain⟨hb2,hd⟩:=bF hb2 hd
 refine Wp.exit<|At.An<|At.An<|At.Az<|At.Ad<|Wp.sr<|Aa.op (Ab.move rf) rf<|Aa.op (Ab.assign rf) rf ?_
 refine Aa.Af<|Wp.ret ?_
 refine At.A7 (i:=0) rf fun hb12=>?_
 refine At.freeze (i:=0) rf fun H7 hl7 hs2=>?_
 have hv5:=AW.of (c:=(cP cB (cL (cP AZ (cP AZ Ao))))) hs2 rfl (hq3.mono hl7) hb12
 obtain rfl:=si hd
 exact At.DB rf (RV.tmp (v:=v5) rf) (fun w hs=>⟨_,_,_,rf,(hl1.trans hl7),(hs.Cg 1),⟨⟨v5,rf,hv5⟩,rf⟩⟩)
theorem My{fu:Nat}{a0:List Int}{a1:List Int}{a2:Int}{v1 v2:Value}{r:Int}(hv1:AW Ao H a0 v1)(hv2:AW Ao H a1 v2)(hd:FB fu a0 a1 a2=some r):
    Ca Tryz.prog 33 [v1,v2,(.int .i64 a2)] H O (.int .i64 r):=by
 intro w hs
 refine Bz Tryz.func33 rf rf rf ?_ hs
 clear hs w
 unfold FB at hd
 refine Wp.sr<|Aa.op (Ab.assign rf) rf<|Aa.Af<|Wp.seq<|Wp.sr<|Aa.op (Ab.move rf) rf ?_
 have hb1:=hv1.le
 refine Aa.op (Ab.len BF rf hv1.sl) rf<|Aa.op (Ab.move rf) rf<|Aa.Af<|Wp.block<|Wp.A_ (fun m LL HH OO=> ∃(k1:Nat),[(0,v1),(1,v2),(2,(.int .i64 a2)),(9,v1),(10,(.int .i64 (a0.length:Int))),(11,(.int .i64 (k1:Int)))]=LL∧O=OO∧Ax m (Dm fu a0 a1 a2) k1=some r) fu ⟨0,rf,rf,hd⟩ (Sub.of rf) ?_
 intro m1 L1 H1 O1 hl1 hI1
 obtain⟨k1,rfl,rfl,hd⟩:=hI1
 obtain⟨m2,nx1,rfl,hn1,hd⟩:=A9 hd
 replace hd:Dm fu a0 a1 a2 k1 nx1=some r:=hd
 unfold Dm at hd
 refine Wp.sr<|Aa.op (Ab.lss rf rf) rf<|Aa.Af<|Wp.seq ?_
 refine Wp.cond rf (fun hb2=>?_) (fun hb2=>?_)
 ·
  obtain⟨hb2,hd⟩:=bT hb2 hd
  refine Wp.skip<|At.Ad<|Wp.seq<|Wp.block<|Wp.seq ?_
  obtain⟨x1,hx1,hd⟩:=Ae hd
  have hx1_:=Ah hx1
  refine Wp.region<|Aa.op (Ab.move rf) rf ?_
  obtain⟨_,rfl,hc1⟩:=AW.get (hv1.mono hl1) hx1
  refine Aa.op (Ab.Bo BF Cp rf (hv1.mono hl1).sl rf (Ah hx1)) rf<|Aa.op (Ab.FJ u3 rf rf (hc1 0 _ rf)) rf<|Aa.op (Ab.assign rf) rf<|Aa.op (Ab.assign rf) rf<|Aa.Af<|Wp.seq ?_
  obtain⟨x2,hx2,hd⟩:=Ae hd
  have hx2_:=Ah hx2
  obtain⟨x3,hx3,hd⟩:=Ae hd
  have hx3_:=Ah hx3
  obtain⟨_,rfl,hc2⟩:=AW.get (hv2.mono hl1) hx2
  obtain⟨_,rfl,hc3⟩:=AW.get (hv2.mono hl1) hx3
  refine Wp.CV 9 follows rf (by kernel_rfl)<|Ag.A6 (Ab.move rf) rf<|Ag.A6 (Ab.move rf) rf<|Ag.A6 (Ab.Bo BF Cp rf (hv2.mono hl1).sl rf (Ah hx2)) rf<|Ag.A6 (Ab.FJ u3 rf rf (hc2 0 _ rf)) rf<|Ag.A6 (Ab.move rf) rf<|Ag.A6 (Ab.move rf) rf<|Ag.A6 (Ab.Bo BF Cp rf (hv2.mono hl1).sl rf (Ah hx3)) rf ?_
  refine Ag.A6 (Ab.FJ u3 rf rf (hc3 0 _ rf)) rf<|Ag.A6 (Ab.eql rf rf) rf<|Ag.CW<|Ap.is (t:=0) rf<|Ap.is (t:=1) rf<|Ap.is (t:=2) rf<|Ap.is (t:=7) rf<|Ap.is (t:=9) rf ?_
  refine Ap.is (t:=10) rf<|Ap.is (t:=11) rf<|Ap.is (t:=24) rf<|Ap.JB<|Aa.Af ?_
  refine Wp.cond rf (fun hb3=>?_) (fun hb3=>?_)
  ·
   obtain⟨hb3,hd⟩:=bT hb3 hd
   refine Wp.sr<|Aa.op (Ab.move rf) rf<|Aa.op (Ab.assign rf) rf<|Aa.Af<|Wp.ret<|At.Be<|At.Av<|At.Av ?_
   refine At.Be<|At.Av ?_
   obtain rfl:=si hd
   exact At.q1 0 hl1 rf (RV.tmp rf) rf
  obtain⟨hb3,hd⟩:=bF hb3 hd
  refine Wp.skip<|At.AE<|At.Ad<|Wp.region<|Aa.op (Ab.add rf rf (Aq (by omega))) rf<|Aa.op (Ab.move rf) rf<|Aa.nil ?_
  refine At.AO (Hp.le.refl _) ⟨(k1+1),rf,rf,(by rw[←hn1];exact hd)⟩ (Sub.of rf)
 obtain⟨hb2,hd⟩:=bF hb2 hd
 refine Wp.exit<|At.An<|At.An<|At.Az<|At.Ad<|Wp.sr<|Aa.op (Ab.move rf) rf ?_
 have hb4:=hv1.le
 refine Aa.op (Ab.len BF rf (hv1.mono hl1).sl) rf<|Aa.op (Ab.assign rf) rf<|Aa.Af<|Wp.ret ?_
 obtain rfl:=si hd
 exact At.q1 0 hl1 rf (RV.tmp rf) rf
theorem Nl{fu:Nat}{a0:List (Bool×(List (Int×Int×Int)))}{v1:Value}{r:(List (Bool×(List (Int×Int×Int))))×Int}(hv1:AW (cP cB (cL (cP AZ (cP AZ Ao)))) H a0 v1)(hd:GD fu a0=some r):
    ED Tryz.prog 9 [v1] H O (fun v H' O'=>(∃v2:Value,(.tuple #[(.agg #[v2]),(.int .i64 r.2)])=v∧AW (cP cB (cL (cP AZ (cP AZ Ao)))) H' r.1 v2)∧O=O'):=by
 intro w hs
 refine Bz Tryz.func9 rf rf rf ?_ hs
 clear hs w
 unfold GD at hd
 refine Wp.sr<|Aa.alloc (cs:= #[(.slice none 0 0)]) A5 rf rf fun B2=>Aa.op (Ab.assign rf) rf<|Aa.Af<|Wp.seq<|Wp.seq ?_
 obtain⟨x1,hx1,hd⟩:=Ae hd
 refine Wp.region<|Aa.op (Ab.move rf) rf<|Aa.op (Ab.call Zs rf (La hv1 hx1)) rf<|Aa.op (Ab.not rf) rf<|Aa.Af ?_
 refine Wp.cond rf (fun hb1=>?_) (fun hb1=>?_)
 ·
  replace hd:=Fs hb1 hd
  refine Wp.sr<|Aa.op (Ab.Bi (vs:=[]) (cs:= #[(.slice none 0 0)]) FQ A5 rf rf (Bd) rf) rf<|Aa.AP (i:=0) (cs':= #[(.slice none 0 0)]) rf rf A5 rf rf (Bc (Ac rf (As))) rf ?_
  refine Aa.own (O:=_::_) ?_ rf
  refine Aa.op (Ab.assign rf) rf<|Aa.Af<|Wp.ret<|At.Av ?_
  obtain rfl:=si hd
  exact At.I5 rf (RV.C' (i:=0) rf Eo rf A5 rf rf) (RV.tmp (v:=(.int .i64 11)) rf) (fun w hs=>⟨_,_,_,rf,(Hp.le.refl _),(hs.Cg 1),⟨⟨(.slice none 0 0),rf,AW.nil⟩,rf⟩⟩)
 replace hd:=Ft hb1 hd
 refine Wp.skip<|At.Ad<|Wp.seq<|Wp.seq ?_
 rcases Bool.eq_false_or_eq_true (decide ((a0.length:Int)=0))with hg1|hg1
 ·
  obtain⟨hg1_,hd⟩:=bT hg1 hd
  refine Wp.region<|Aa.op (Ab.move rf) rf ?_
  have hb2:=hv1.le
  refine Aa.op (Ab.len CG rf hv1.sl) rf<|Aa.op (Ab.Bg (b:=decide ((a0.length:Int)=0)) (c:=true) (Ab.eql rf rf) hg1) rf<|Aa.op (Ab.move rf) rf<|Aa.Ai rf rf rf rf<|Aa.Ai rf rf rf rf<|Aa.Ai rf rf rf rf<|Aa.Ai rf rf rf rf<|Aa.Ai rf rf rf rf ?_
  refine Aa.op (Ab.AK rf rf) rf<|Aa.Af<|Wp.D_ rf<|Wp.sr<|Aa.op (Ab.Bi (vs:=[]) (cs:= #[(.slice none 0 0)]) FQ A5 rf rf (Bd) rf) rf<|Aa.AP (i:=0) (cs':= #[(.slice none 0 0)]) rf rf A5 rf rf (Bc (Ac rf (As))) rf ?_
  refine Aa.own (O:=_::_) ?_ rf
  refine Aa.op (Ab.assign rf) rf<|Aa.Af<|Wp.ret<|At.Av ?_
  obtain rfl:=si hd
  exact At.I5 rf (RV.C' (i:=0) rf Eo rf A5 rf rf) (RV.tmp (v:=(.int .i64 0)) rf) (fun w hs=>⟨_,_,_,rf,(Hp.le.refl _),(hs.Cg 1),⟨⟨(.slice none 0 0),rf,AW.nil⟩,rf⟩⟩)
 obtain⟨hg1_,hd⟩:=bF hg1 hd
 obtain⟨x2,hx2,hd⟩:=Ae hd
 obtain⟨x3,hx3,hd⟩:=Ae hd
 have hx3_:=Ah hx3
 refine Wp.region<|Aa.op (Ab.move rf) rf ?_
 have hb2:=hv1.le
 refine Aa.op (Ab.len CG rf hv1.sl) rf<|Aa.op (Ab.Bg (b:=decide ((a0.length:Int)=0)) (c:=false) (Ab.eql rf rf) hg1) rf<|Aa.op (Ab.move rf) rf<|Aa.Ay rf rf (Ab.move rf) rf<|Aa.ZP rf rf (BC.call Xb rf (Lz hv1 hx2)) rf ?_
 rintro _ H1 _ hl1 ⟨⟨v3,rfl,hv2⟩,rfl⟩
 obtain⟨_,rfl,hc1⟩:=AW.get hv2 hx3
 refine Aa.Ay rf rf (Ab.Bo GX ES rf hv2.sl rf (Ah hx3)) rf<|Aa.Ay rf rf (Ab.FJ u4 rf rf (hc1 0 _ rf)) rf<|Aa.Ay rf rf (Ab.not rf) rf<|Aa.op (Ab.AA rf rf) rf<|Aa.Af ?_
 refine Wp.cond rf (fun hb3=>?_) (fun hb3=>?_)
 ·
  replace hd:=Fs hb3 hd
  refine Wp.sr<|Aa.op (Ab.Bi (vs:=[]) (cs:= #[(.slice none 0 0)]) FQ A5 rf rf (Bd) rf) rf<|Aa.AP (i:=0) (cs':= #[(.slice none 0 0)]) rf rf A5 rf rf (Bc (Ac rf (As))) rf ?_
  refine Aa.own (O:=_::_) ?_ rf
  refine Aa.op (Ab.assign rf) rf<|Aa.Af<|Wp.ret<|At.Av ?_
  obtain rfl:=si hd
  exact At.I5 rf (RV.C' (i:=0) rf Eo rf A5 rf rf) (RV.tmp (v:=(.int .i64 0)) rf) (fun w hs=>⟨_,_,_,rf,hl1,(hs.Cg 1),⟨⟨(.slice none 0 0),rf,AW.nil⟩,rf⟩⟩)
 replace hd:=Ft hb3 hd
 refine Wp.skip<|At.Ad<|Wp.seq ?_
 obtain⟨x4,hx4,hd⟩:=Ae hd
 obtain⟨x5,hx5,hd⟩:=Ae hd
 refine Wp.region<|Aa.op (Ab.move rf) rf<|Aa.E8 (BC.call Zm rf (Nj (hv1.mono hl1) hx4)) rf ?_
 rintro _ H2 _ hl2 ⟨⟨v4,rfl,hv3⟩,rfl⟩
 refine Aa.E8 (BC.call Zn rf (Ni hv3 hx5)) rf ?_
 rintro _ H3 _ hl3 ⟨⟨v5,rfl,hv4⟩,rfl⟩
 refine Aa.op (Ab.assign rf) rf<|Aa.Af<|Wp.seq ?_
 obtain⟨x6,hx6,hd⟩:=Ae hd
 refine Wp.region<|Aa.op (Ab.move rf) rf<|Aa.E8 (BC.call Zl rf (OI hv4 hx6)) rf ?_
 rintro _ H4 _ hl4 ⟨v6,xs1,rfl,hq1,rfl⟩
 refine Aa.op (Ab.assign rf) rf<|Aa.Af<|Wp.seq ?_
 obtain⟨x7,hx7,hd⟩:=Ae hd
 refine Wp.region<|Aa.op (Ab.move rf) rf<|Aa.op (Ab.move rf) rf ?_
 refine Aa.A7 (i:=0) rf fun hb4=>?_
 refine Aa.freeze (i:=0) rf fun H5 hl5 hs1=>?_
 have hv5:=AW.of (c:=Ao) hs1 rfl (hq1.mono hl5) hb4
 refine Aa.E8 (BC.call Zk rf (Nk (hv4.mono (hl4.trans hl5)) hv5 hx7)) rf ?_
 rintro _ H6 _ hl6 ⟨⟨v7,rfl,hv6⟩,rfl⟩
 refine Aa.op (Ab.assign rf) rf<|Aa.Af<|Wp.sr<|Aa.A1 (c:=Ao) (y:=0) (cs:=[(.int .i64 0)]) BF Cp rf rf rf rf (rf) rf fun v8 xs2 hq2=>Aa.op (Ab.assign rf) rf<|Aa.Af<|Wp.sr<|Aa.alloc (cs:= #[(.slice none 0 0)]) A5 rf rf fun B3=>?_
 refine Aa.Af<|Wp.seq<|Wp.sr<|Aa.op (Ab.assign rf) rf<|Aa.Af<|Wp.block<|Wp.BG 43 2<|Wp.A_ (fun m LL HH OO=> ∃(l1:List Int),∃(l2:List (Bool×(List (Int×Int×Int)))),∃(k1:Nat),∃(v9:Value),∃(xs3:List Value),∃(v10:Value),∃(xs4:List Value),[(2,(ptr B2 0)),(4,v5),(5,v6),(6,v7),(7,v9),(8,(ptr B3 0)),(9,(.int .i64 (k1:Int)))]=LL∧ .row v10 43 2 l2.length xs4:: .AM B3 (.cells #[v10] 26 (0,0)):: .row v9 3 1 l1.length xs3:: .AM B2 (.cells #[(.slice none 0 0)] 26 (0,0))::O=OO∧Ax m (fun p nx=>Dw fu x5 x6 x7 p.1 p.2.1 p.2.2 nx) (l1,l2,k1)=some r∧Au Ao HH l1 xs3∧Au (cP cB (cL (cP AZ (cP AZ Ao)))) HH l2 xs4) fu ⟨([0]:List Int),([]:List (Bool×(List (Int×Int×Int)))),0,v8,xs2,(.slice none 0 0),[],rf,rf,hd,hq2,(Au.nil (c:=(cP cB (cL (cP AZ (cP AZ Ao))))) (H:=H6))⟩ (Sub.of rf) ?_
 intro m1 L1 H7 O1 hl7 hI1
 obtain⟨l1,l2,k1,v9,xs3,v10,xs4,rfl,rfl,hd,hq3,hq4⟩:=hI1
 obtain⟨m2,nx1,rfl,hn1,hd⟩:=A9 hd
 replace hd:Dw fu x5 x6 x7 l1 l2 k1 nx1=some r:=hd
 unfold Dw at hd
 refine Wp.seq<|Wp.sr<|Aa.op (Ab.move rf) rf<|Aa.op (Ab.move rf) rf ?_
 refine Aa.A7 (i:=2) rf fun hb5=>?_
 refine Aa.op (Ab.BR (i:=2) BF rf rf) rf<|Aa.op (Ab.lss rf rf) rf<|Aa.Af ?_
 refine Wp.cond rf (fun hb6=>?_) (fun hb6=>?_)
 ·
  obtain⟨hb6,hd⟩:=bT hb6 hd
  refine Wp.skip<|At.Ad<|Wp.seq<|Wp.block<|Wp.seq ?_
  obtain⟨x8,hx8,hd⟩:=Ae hd
  have hx8_:=Ah hx8
  obtain⟨x9,hx9,hd⟩:=Ae hd
  have hx9_:=Ah hx9
  refine Wp.region<|Aa.op (Ab.move rf) rf<|Aa.op (Ab.move rf) rf<|Aa.op (Ab.move rf) rf ?_
  obtain⟨_,rfl,hc2,hc2_⟩:=Au.get hq3 (AG hx8).2
  refine Aa.op (Ab.Bu (j:=2) BF Cp rf rf rf (Ah hx8)) rf<|Aa.op (Ab.Ch (i:=2) (k:=k1*1+0) u3 rf rf rf (hc2 0 _ rf)) rf ?_
  obtain⟨_,⟨_,_,rfl,rfl,⟨v11,rfl,hv7⟩⟩,hc3⟩:=AW.get (hv4.mono (((hl4.trans hl5).trans hl6).trans hl7)) hx9
  refine Aa.op (Ab.Bo CG Bl rf (hv4.mono (((hl4.trans hl5).trans hl6).trans hl7)).sl rf (Ah hx9)) rf<|Aa.op (Ab.Nr E_ rf (hv4.mono (((hl4.trans hl5).trans hl6).trans hl7)).sl (by omega)) rf<|Aa.op (Ab.FJ u4 rf rf (hc3 0 _ rf)) rf<|Aa.op (Ab.Bi (vs:=[(0,(.bool x9.1))]) (cs:= #[(.bool x9.1),(.slice none 0 0)]) Hq Bl rf rf (AJ rf (Bd)) rf) rf<|Aa.alloc (cs:= #[(.bool false),(.slice none 0 0)]) Bl rf rf fun B4=>Aa.AP (i:=0) (cs':= #[(.bool x9.1),(.slice none 0 0)]) rf rf Bl rf rf (Bc (Ac rf (Ac rf (As)))) rf ?_
  refine Aa.own (O:=_::_::_::_::_::_) ?_ rf
  refine Aa.Af<|Wp.seq<|Wp.sr<|Aa.op (Ab.move rf) rf ?_
  have hb7:=hv5.le
  refine Aa.op (Ab.len BF rf (hv5.mono (hl6.trans hl7)).sl) rf<|Aa.op (Ab.move rf) rf<|Aa.Af<|Wp.block<|Wp.BG 46 3<|Wp.A_ (fun m LL HH OO=> ∃(l3:List Int),∃(l4:List (Int×Int×Int)),∃(k2:Nat),∃(v12:Value),∃(xs5:List Value),∃(v13:Value),∃(xs6:List Value),[(2,(ptr B2 0)),(4,v5),(5,v6),(6,v7),(7,v12),(8,(ptr B3 0)),(9,(.int .i64 (k1:Int))),(10,(ptr B4 0)),(56,v6),(57,(.int .i64 (x6.length:Int))),(58,(.int .i64 (k2:Int)))]=LL∧ .row v13 46 3 l4.length xs6:: .AM B4 (.cells #[(.bool x9.1),v13] 43 (0,0)):: .row v10 43 2 l2.length xs4:: .AM B3 (.cells #[v10] 26 (0,0)):: .row v12 3 1 l3.length xs5:: .AM B2 (.cells #[(.slice none 0 0)] 26 (0,0))::O=OO∧Ax m (fun p nx=>Dv fu x5 x6 x7 l2 k1 nx1 x9 p.1 p.2.1 p.2.2 nx) (l3,l4,k2)=some r∧Au Ao HH l3 xs5∧Au (cP AZ (cP AZ Ao)) HH l4 xs6) fu ⟨l1,([]:List (Int×Int×Int)),0,v9,xs3,(.slice none 0 0),[],rf,rf,hd,hq3,(Au.nil (c:=(cP AZ (cP AZ Ao))) (H:=H7))⟩ (Sub.of rf) ?_
  intro m3 L2 H8 O2 hl8 hI2
  obtain⟨l3,l4,k2,v12,xs5,v13,xs6,rfl,rfl,hd,hq5,hq6⟩:=hI2
  obtain⟨m4,nx2,rfl,hn2,hd⟩:=A9 hd
  replace hd:Dv fu x5 x6 x7 l2 k1 nx1 x9 l3 l4 k2 nx2=some r:=hd
  unfold Dv at hd
  refine Wp.sr<|Aa.op (Ab.lss rf rf) rf<|Aa.Af<|Wp.seq ?_
  refine Wp.cond rf (fun hb8=>?_) (fun hb8=>?_)
  ·
   obtain⟨hb8,hd⟩:=bT hb8 hd
   refine Wp.skip<|At.Ad<|Wp.seq<|Wp.block<|Wp.seq ?_
   obtain⟨x10,hx10,hd⟩:=Ae hd
   have hx10_:=Ah hx10
   refine Wp.region<|Aa.op (Ab.move rf) rf ?_
   obtain⟨_,rfl,hc4⟩:=AW.get (hv5.mono ((hl6.trans hl7).trans hl8)) hx10
   refine Aa.op (Ab.Bo BF Cp rf (hv5.mono ((hl6.trans hl7).trans hl8)).sl rf (Ah hx10)) rf<|Aa.op (Ab.FJ u3 rf rf (hc4 0 _ rf)) rf<|Aa.op (Ab.assign rf) rf<|Aa.op (Ab.assign rf) rf<|Aa.Af<|Wp.seq ?_
   obtain⟨x11,hx11,hd⟩:=Ae hd
   have hx11_:=Ah hx11
   obtain⟨ha1,hd⟩:=Al hd
   have:=ha1
   obtain⟨x12,hx12,hd⟩:=Ae hd
   refine Wp.region<|Aa.op (Ab.move rf) rf<|Aa.op (Ab.move rf) rf<|Aa.op (Ab.move rf) rf ?_
   obtain⟨_,rfl,hc5,hc5_⟩:=Au.get hq5 (AG hx11).2
   refine Aa.op (Ab.Bu (j:=4) BF Cp rf rf rf (Ah hx11)) rf<|Aa.op (Ab.Ch (i:=4) (k:=k1*1+0) u3 rf rf rf (hc5 0 _ rf)) rf<|Aa.op (Ab.move rf) rf<|Aa.op (Ab.conv u3 u5 rf (Cm ha1)) rf<|Aa.op (Ab.call Xa rf (Mz (hv4.mono ((((hl4.trans hl5).trans hl6).trans hl7).trans hl8)) (by omega) (by omega) hx12)) rf<|Aa.op (Ab.assign rf) rf<|Aa.Af<|Wp.seq ?_
   refine Wp.sr<|Aa.op (Ab.move rf) rf<|Aa.op (Ab.lss rf rf) rf<|Aa.Af ?_
   refine Wp.cond rf (fun hb9=>?_) (fun hb9=>?_)
   ·
    obtain⟨hb9,hd⟩:=bT hb9 hd
    refine Wp.exit<|At.An<|At.Az<|At.Ad<|Wp.region<|Aa.op (Ab.add rf rf (Aq (by omega))) rf<|Aa.op (Ab.move rf) rf<|Aa.nil ?_
    refine At.AO (Hp.le.refl _) ⟨l3,l4,(k2+1),v12,xs5,v13,xs6,rf,rf,(by rw[←hn2];exact hd),hq5,hq6⟩ (Sub.of rf)
   obtain⟨hb9,hd⟩:=bF hb9 hd
   refine Wp.skip<|At.Ad<|Wp.sr<|Aa.op (Ab.assign rf) rf<|Aa.Af<|Wp.seq<|Wp.sr<|Aa.op (Ab.move rf) rf ?_
   refine Aa.op (Ab.add rf rf (Aq (by omega))) rf<|Aa.op (Ab.move rf) rf ?_
   have hb10:=hv5.le
   refine Aa.op (Ab.len BF rf (hv5.mono ((hl6.trans hl7).trans hl8)).sl) rf<|Aa.op (Ab.lss rf rf) rf<|Aa.Af ?_
   refine Wp.Fp (fun LL HH OO=> ∃(i1:Int),[(2,(ptr B2 0)),(4,v5),(5,v6),(6,v7),(7,v12),(8,(ptr B3 0)),(9,(.int .i64 (k1:Int))),(10,(ptr B4 0)),(12,(.int .i64 x10)),(13,(.int .i64 x12)),(14,(.int .i64 i1)),(56,v6),(57,(.int .i64 (x6.length:Int))),(58,(.int .i64 (k2:Int)))]=LL∧ .row v13 46 3 l4.length xs6:: .AM B4 (.cells #[(.bool x9.1),v13] 43 (0,0)):: .row v10 43 2 l2.length xs4:: .AM B3 (.cells #[v10] 26 (0,0)):: .row v12 3 1 l3.length xs5:: .AM B2 (.cells #[(.slice none 0 0)] 26 (0,0))::O=OO∧Du fu x7 l3 l4 k2 nx2 x10 x12 i1=some r) ?_ ?_
   ·
    refine Wp.cond rf (fun hb11=>?_) (fun hb11=>?_)
    ·
     obtain⟨hb11,hd⟩:=bT hb11 hd
     obtain⟨x13,hx13,hd⟩:=Ae hd
     have hx13_:=Ah hx13
     obtain⟨ha2,hd⟩:=Al hd
     refine Wp.region<|Aa.op (Ab.move rf) rf<|Aa.op (Ab.move rf) rf<|Aa.op (Ab.add rf rf (Aq (by omega))) rf ?_
     obtain⟨_,rfl,hc6⟩:=AW.get (hv5.mono ((hl6.trans hl7).trans hl8)) hx13
     refine Aa.op (Ab.Bo BF Cp rf (hv5.mono ((hl6.trans hl7).trans hl8)).sl rf (Ah hx13)) rf<|Aa.op (Ab.FJ u3 rf rf (hc6 0 _ rf)) rf<|Aa.op (Ab.sub rf rf (Aq ha2)) rf<|Aa.op (Ab.assign rf) rf<|Aa.nil ?_
     refine At.Cn (Hp.le.refl _) ⟨(x13-1),rf,rf,hd⟩ (Sub.of rf)
    obtain⟨hb11,hd⟩:=bF hb11 hd
    refine Wp.skip ?_
    refine At.Cn (Hp.le.refl _) ⟨255,rf,rf,hd⟩ (Sub.of rf)
   intro L3 H9 O3 hl9 hI3
   obtain⟨i1,rfl,rfl,hd⟩:=hI3
   unfold Du at hd
   refine Wp.seq ?_
   obtain⟨x14,hx14,hd⟩:=Ae hd
   refine Wp.region<|Aa.op (Ab.move rf) rf<|Aa.op (Ab.move rf) rf<|Aa.op (Ab.move rf) rf<|Aa.op (Ab.call Zj rf (Ca.Lh (c:=Ao) 4 rf (hq5.mono hl9) (fun _ e1 d1=>My d1 ((hv6.mono ((hl7.trans hl8).trans hl9)).mono e1) hx14))) rf<|Aa.op (Ab.assign rf) rf<|Aa.Af<|Wp.seq ?_
   refine Wp.sr<|Aa.op (Ab.move rf) rf<|Aa.op (Ab.move rf) rf ?_
   refine Aa.A7 (i:=4) rf fun hb12=>?_
   refine Aa.op (Ab.BR (i:=4) BF rf rf) rf<|Aa.op (Ab.eql rf rf) rf<|Aa.Af ?_
   refine Wp.Fp (fun LL HH OO=> ∃(l5:List Int),∃(v14:Value),∃(xs7:List Value),[(2,(ptr B2 0)),(4,v5),(5,v6),(6,v7),(7,v14),(8,(ptr B3 0)),(9,(.int .i64 (k1:Int))),(10,(ptr B4 0)),(12,(.int .i64 x10)),(14,(.int .i64 i1)),(15,(.int .i64 x14)),(56,v6),(57,(.int .i64 (x6.length:Int))),(58,(.int .i64 (k2:Int)))]=LL∧ .row v13 46 3 l4.length xs6:: .AM B4 (.cells #[(.bool x9.1),v13] 43 (0,0)):: .row v10 43 2 l2.length xs4:: .AM B3 (.cells #[v10] 26 (0,0)):: .row v14 3 1 l5.length xs7:: .AM B2 (.cells #[(.slice none 0 0)] 26 (0,0))::O=OO∧Dt fu l4 k2 nx2 x10 i1 x14 l5=some r∧Au Ao HH l5 xs7) ?_ ?_
   ·
    refine Wp.cond rf (fun hb13=>?_) (fun hb13=>?_)
    ·
     obtain⟨hb13,hd⟩:=bT hb13 hd
     obtain⟨ha3,hd⟩:=Al hd
     refine Wp.region<|Aa.op (Ab.move rf) rf<|Aa.op (Ab.move rf) rf<|Aa.A1 (c:=Ao) (y:=x12) (cs:=[(.int .i64 x12)]) BF Cp rf rf rf rf (rf) rf fun v15 xs8 hq7=>Aa.Df (i:=5) (j:=0) (hq5.mono hl9) hq7 BF Cp rf (by decide) rf rf rf rf (by decide) ha3 rf fun v16 xs9 hq8=>Aa.drop (i:=0)<|Aa.op (Ab.assign rf) rf<|Aa.nil ?_
     refine At.Cn (Hp.le.refl _) ⟨(l3++([x12]:List Int)),v16,xs9,rf,rf,hd,hq8⟩ (Sub.of rf)
    obtain⟨hb13,hd⟩:=bF hb13 hd
    refine Wp.skip ?_
    refine At.Cn (Hp.le.refl _) ⟨l3,v12,xs5,rf,rf,hd,(hq5.mono hl9)⟩ (Sub.of rf)
   intro L4 H10 O4 hl10 hI4
   obtain⟨l5,v14,xs7,rfl,rfl,hd,hq9⟩:=hI4
   unfold Dt at hd
   refine Wp.seq ?_
   obtain⟨ha4,hd⟩:=Al hd
   refine Wp.region<|Aa.op (Ab.AV (o':=1) Bv rf rf) rf<|Aa.op (Ab.Am (i:=1) (v:=v13) CC rf rf rf rf) rf ?_
   refine Aa.A7 (i:=0) rf fun hb14=>?_
   refine Aa.op (Ab.BR (i:=0) CC rf rf) rf<|Aa.op (Ab.sub rf rf (Aq ha4)) rf<|Aa.op (Ab.assign rf) rf<|Aa.Af<|Wp.seq ?_
   rcases Bool.eq_false_or_eq_true (decide (0≤((l4.length:Int)-1)))with hg2|hg2
   ·
    obtain⟨hg2_,hd⟩:=bT hg2 hd
    obtain⟨x15,hx15,hd⟩:=Ae hd
    have hx15_:=Ah hx15
    rcases Bool.eq_false_or_eq_true (decide (x15.2.2=x14))with hg3|hg3
    ·
     obtain⟨hg3_,hd⟩:=bT hg3 hd
     obtain⟨x16,hx16,hd⟩:=Ae hd
     have hx16_:=Ah hx16
     obtain⟨ha5,hd⟩:=Al hd
     refine Wp.region<|Aa.op (Ab.move rf) rf<|Aa.op (Ab.Bg (b:=decide (0≤((l4.length:Int)-1))) (c:=true) (Ab.geq rf rf) hg2) rf<|Aa.op (Ab.move rf) rf<|Aa.Ay rf rf (Ab.AV (o':=1) Bv rf rf) rf<|Aa.Ay rf rf (Ab.Am (i:=1) (v:=v13) CC rf rf rf rf) rf<|Aa.Ay rf rf (Ab.move rf) rf ?_
     obtain⟨_,⟨_,_,rfl,⟨rfl,hr1,hr2⟩,⟨_,_,rfl,⟨rfl,hr3,hr4⟩,rfl⟩⟩,hc7,hc7_⟩:=Au.get (hq6.mono (hl9.trans hl10)) (AG hx15).2
     refine Aa.Ay rf rf (Ab.Bu (j:=0) CC BA rf rf rf (Ah hx15)) rf<|Aa.Ay rf rf (Ab.Je (q:=0) CI rf rf (by omega)) rf<|Aa.Ay rf rf (Ab.Ch (i:=0) (k:=(((l4.length:Int)-1).toNat)*3+2) u3 rf rf rf (hc7 2 _ rf)) rf<|Aa.Ay rf rf (Ab.move rf) rf<|Aa.Ay rf rf (Ab.Bg (b:=decide (x15.2.2=x14)) (c:=true) (Ab.eql rf rf) hg3) rf<|Aa.op (Ab.AK rf rf) rf<|Aa.op (Ab.move rf) rf<|Aa.Ay rf rf (Ab.AV (o':=1) Bv rf rf) rf ?_
     refine Aa.Ay rf rf (Ab.Am (i:=1) (v:=v13) CC rf rf rf rf) rf<|Aa.Ay rf rf (Ab.move rf) rf ?_
     obtain⟨_,⟨_,_,rfl,⟨rfl,hr5,hr6⟩,⟨_,_,rfl,⟨rfl,hr7,hr8⟩,rfl⟩⟩,hc8,hc8_⟩:=Au.get (hq6.mono (hl9.trans hl10)) (AG hx16).2
     refine Aa.Ay rf rf (Ab.Bu (j:=0) CC BA rf rf rf (Ah hx16)) rf<|Aa.Ay rf rf (Ab.Je (q:=0) C_ rf rf (by omega)) rf<|Aa.Ay rf rf (Ab.Ch (i:=0) (k:=(((l4.length:Int)-1).toNat)*3+1) u5 rf rf rf (hc8 1 _ rf)) rf<|Aa.Ay rf rf (Ab.conv u5 u3 rf (Aq (by omega))) rf<|Aa.Ay rf rf (Ab.add rf rf (Aq ha5)) rf<|Aa.Ay rf rf (Ab.move rf) rf<|Aa.Ay rf rf (Ab.eql rf rf) rf<|Aa.op (Ab.AK rf rf) rf ?_
     refine Aa.Af ?_
     refine Wp.cond rf (fun hb15=>?_) (fun hb15=>?_)
     ·
      obtain⟨hb15,hd⟩:=bT hb15 hd
      obtain⟨ha6,hd⟩:=Al hd
      have:=ha6
      obtain⟨x17,hx17,hd⟩:=Ae hd
      have hx17_:=Ah hx17
      refine Wp.region<|Aa.op (Ab.AV (o':=1) Bv rf rf) rf<|Aa.op (Ab.Am (i:=1) (v:=v13) CC rf rf rf rf) rf<|Aa.op (Ab.move rf) rf<|Aa.op (Ab.move rf) rf<|Aa.op (Ab.conv u3 u5 rf (Cm ha6)) rf ?_
      obtain⟨_,⟨_,_,rfl,⟨rfl,hr9,hr10⟩,⟨_,_,rfl,⟨rfl,hr11,hr12⟩,rfl⟩⟩,hc9,hc9_⟩:=Au.get (hq6.mono (hl9.trans hl10)) (AG hx17).2
      refine Aa.op (Ab.Bu (j:=0) CC BA rf rf rf (Ah hx17)) rf<|Aa.op (Ab.Je (q:=0) C_ rf rf (by omega)) rf ?_
      refine Aa.Pw (q:=0) (off:=1) (vs:=[(.int .u8 i1)]) (y:=(x17.1,i1,x17.2.2)) (cs:=[(.int .u8 x17.1),(.int .u8 x17.2.1),(.int .i64 x17.2.2)]) (hq6.mono (hl9.trans hl10)) hx17 hc9_ rf rf rf VO rf rf (Ac rf (As)) rf (⟨[(.int .u8 x17.1)],[(.int .u8 i1),(.int .i64 x17.2.2)],rf,⟨rf,(show(0:Int)≤x17.1 by omega),(show x17.1≤(255:Int) by omega)⟩,⟨[(.int .u8 i1)],[(.int .i64 x17.2.2)],rf,⟨rf,(show(0:Int)≤i1 by omega),(show i1≤(255:Int) by omega)⟩,rf⟩⟩) rf (fun xs10 hq10=>?_)
      refine Aa.nil<|At.AE<|At.Ad<|Wp.region<|Aa.op (Ab.add rf rf (Aq (by omega))) rf<|Aa.op (Ab.move rf) rf<|Aa.nil ?_
      refine At.AO (hl9.trans hl10) ⟨l5,(l4.set (((l4.length:Int)-1).toNat) (x17.1,i1,x17.2.2)),(k2+1),v14,xs7,v13,xs10,rf,rf,(by rw[←hn2];exact hd),hq9,hq10⟩ (Sub.of rf)
     obtain⟨hb15,hd⟩:=bF hb15 hd
     obtain⟨ha7,hd⟩:=Al hd
     have:=ha7
     obtain⟨ha8,hd⟩:=Al hd
     have:=ha8
     obtain⟨ha9,hd⟩:=Al hd
     refine Wp.region<|Aa.op (Ab.AV (o':=1) Bv rf rf) rf<|Aa.op (Ab.Am (i:=1) (v:=v13) CC rf rf rf rf) rf<|Aa.op (Ab.move rf) rf<|Aa.op (Ab.conv u3 u5 rf (Cm ha7)) rf<|Aa.op (Ab.move rf) rf<|Aa.op (Ab.conv u3 u5 rf (Cm ha8)) rf<|Aa.op (Ab.move rf) rf ?_
     refine Aa.op (Ab.Bi (vs:=[(0,(.int .u8 x10)),(1,(.int .u8 i1)),(2,(.int .i64 x14))]) (cs:= #[(.int .u8 x10),(.int .u8 i1),(.int .i64 x14)]) Ho BA rf rf (AJ rf (AJ rf (AJ rf (Bd)))) rf) rf<|Aa.A1 (c:=(cP AZ (cP AZ Ao))) (y:=(x10,i1,x14)) (cs:=[(.int .u8 x10),(.int .u8 i1),(.int .i64 x14)]) CC BA rf rf rf rf (⟨[(.int .u8 x10)],[(.int .u8 i1),(.int .i64 x14)],rf,⟨rf,(show(0:Int)≤x10 by omega),(show x10≤(255:Int) by omega)⟩,⟨[(.int .u8 i1)],[(.int .i64 x14)],rf,⟨rf,(show(0:Int)≤i1 by omega),(show i1≤(255:Int) by omega)⟩,rf⟩⟩) rf fun v17 xs11 hq11=>Aa.Df (i:=1) (j:=0) (hq6.mono (hl9.trans hl10)) hq11 CC BA rf (by decide) rf rf rf rf (by decide) ha9 rf fun v18 xs12 hq12=>Aa.drop (i:=0)<|Aa.op (Ab.AV (o':=1) Bv rf rf) rf<|Aa.Bm (i:=0) rf fun ho1=>Aa.Cc (i:=1) rf rf ho1 Mg rf (Nat.le_of_ble_eq_true rf) ?_
     refine Aa.own (O:=_::_::_::_::_::_::_) ?_ rf
     refine Aa.nil<|At.AE<|At.Ad<|Wp.region<|Aa.op (Ab.add rf rf (Aq (by omega))) rf<|Aa.op (Ab.move rf) rf<|Aa.nil ?_
     refine At.AO (hl9.trans hl10) ⟨l5,(l4++([(x10,i1,x14)]:List (Int×Int×Int))),(k2+1),v14,xs7,v18,xs12,rf,rf,(by rw[←hn2];exact hd),hq9,hq12⟩ (Sub.of rf)
    obtain⟨hg3_,hd⟩:=bF hg3 hd
    refine Wp.region<|Aa.op (Ab.move rf) rf<|Aa.op (Ab.Bg (b:=decide (0≤((l4.length:Int)-1))) (c:=true) (Ab.geq rf rf) hg2) rf<|Aa.op (Ab.move rf) rf<|Aa.Ay rf rf (Ab.AV (o':=1) Bv rf rf) rf<|Aa.Ay rf rf (Ab.Am (i:=1) (v:=v13) CC rf rf rf rf) rf<|Aa.Ay rf rf (Ab.move rf) rf ?_
    obtain⟨_,⟨_,_,rfl,⟨rfl,hr1,hr2⟩,⟨_,_,rfl,⟨rfl,hr3,hr4⟩,rfl⟩⟩,hc7,hc7_⟩:=Au.get (hq6.mono (hl9.trans hl10)) (AG hx15).2
    refine Aa.Ay rf rf (Ab.Bu (j:=0) CC BA rf rf rf (Ah hx15)) rf<|Aa.Ay rf rf (Ab.Je (q:=0) CI rf rf (by omega)) rf<|Aa.Ay rf rf (Ab.Ch (i:=0) (k:=(((l4.length:Int)-1).toNat)*3+2) u3 rf rf rf (hc7 2 _ rf)) rf<|Aa.Ay rf rf (Ab.move rf) rf<|Aa.Ay rf rf (Ab.Bg (b:=decide (x15.2.2=x14)) (c:=false) (Ab.eql rf rf) hg3) rf<|Aa.op (Ab.AK rf rf) rf<|Aa.op (Ab.move rf) rf<|Aa.Ai rf rf rf rf ?_
    refine Aa.Ai rf rf rf rf<|Aa.Ai rf rf rf rf<|Aa.Ai rf rf rf rf<|Aa.Ai rf rf rf rf<|Aa.Ai rf rf rf rf<|Aa.Ai rf rf rf rf<|Aa.Ai rf rf rf rf<|Aa.Ai rf rf rf rf ?_
    refine Aa.Ai rf rf rf rf<|Aa.op (Ab.AA rf rf) rf<|Aa.Af<|Wp.C2 rf ?_
    obtain⟨ha10,hd⟩:=Al hd
    have:=ha10
    obtain⟨ha11,hd⟩:=Al hd
    have:=ha11
    obtain⟨ha12,hd⟩:=Al hd
    refine Wp.region<|Aa.op (Ab.AV (o':=1) Bv rf rf) rf<|Aa.op (Ab.Am (i:=1) (v:=v13) CC rf rf rf rf) rf<|Aa.op (Ab.move rf) rf<|Aa.op (Ab.conv u3 u5 rf (Cm ha10)) rf<|Aa.op (Ab.move rf) rf<|Aa.op (Ab.conv u3 u5 rf (Cm ha11)) rf<|Aa.op (Ab.move rf) rf ?_
    refine Aa.op (Ab.Bi (vs:=[(0,(.int .u8 x10)),(1,(.int .u8 i1)),(2,(.int .i64 x14))]) (cs:= #[(.int .u8 x10),(.int .u8 i1),(.int .i64 x14)]) Ho BA rf rf (AJ rf (AJ rf (AJ rf (Bd)))) rf) rf<|Aa.A1 (c:=(cP AZ (cP AZ Ao))) (y:=(x10,i1,x14)) (cs:=[(.int .u8 x10),(.int .u8 i1),(.int .i64 x14)]) CC BA rf rf rf rf (⟨[(.int .u8 x10)],[(.int .u8 i1),(.int .i64 x14)],rf,⟨rf,(show(0:Int)≤x10 by omega),(show x10≤(255:Int) by omega)⟩,⟨[(.int .u8 i1)],[(.int .i64 x14)],rf,⟨rf,(show(0:Int)≤i1 by omega),(show i1≤(255:Int) by omega)⟩,rf⟩⟩) rf fun v19 xs13 hq13=>Aa.Df (i:=1) (j:=0) (hq6.mono (hl9.trans hl10)) hq13 CC BA rf (by decide) rf rf rf rf (by decide) ha12 rf fun v20 xs14 hq14=>Aa.drop (i:=0)<|Aa.op (Ab.AV (o':=1) Bv rf rf) rf<|Aa.Bm (i:=0) rf fun ho2=>Aa.Cc (i:=1) rf rf ho2 Mg rf (Nat.le_of_ble_eq_true rf) ?_
    refine Aa.own (O:=_::_::_::_::_::_::_) ?_ rf
    refine Aa.nil<|At.AE<|At.Ad<|Wp.region<|Aa.op (Ab.add rf rf (Aq (by omega))) rf<|Aa.op (Ab.move rf) rf<|Aa.nil ?_
    refine At.AO (hl9.trans hl10) ⟨l5,(l4++([(x10,i1,x14)]:List (Int×Int×Int))),(k2+1),v14,xs7,v20,xs14,rf,rf,(by rw[←hn2];exact hd),hq9,hq14⟩ (Sub.of rf)
   obtain⟨hg2_,hd⟩:=bF hg2 hd
   refine Wp.region<|Aa.op (Ab.move rf) rf<|Aa.op (Ab.Bg (b:=decide (0≤((l4.length:Int)-1))) (c:=false) (Ab.geq rf rf) hg2) rf<|Aa.op (Ab.move rf) rf<|Aa.Ai rf rf rf rf<|Aa.Ai rf rf rf rf<|Aa.Ai rf rf rf rf<|Aa.Ai rf rf rf rf ?_
   refine Aa.Ai rf rf rf rf<|Aa.Ai rf rf rf rf<|Aa.Ai rf rf rf rf<|Aa.Ai rf rf rf rf<|Aa.op (Ab.AA rf rf) rf<|Aa.op (Ab.move rf) rf<|Aa.Ai rf rf rf rf<|Aa.Ai rf rf rf rf ?_
   refine Aa.Ai rf rf rf rf<|Aa.Ai rf rf rf rf<|Aa.Ai rf rf rf rf<|Aa.Ai rf rf rf rf<|Aa.Ai rf rf rf rf<|Aa.Ai rf rf rf rf<|Aa.Ai rf rf rf rf<|Aa.Ai rf rf rf rf ?_
   refine Aa.op (Ab.AA rf rf) rf<|Aa.Af<|Wp.C2 rf ?_
   obtain⟨ha13,hd⟩:=Al hd
   have:=ha13
   obtain⟨ha14,hd⟩:=Al hd
   have:=ha14
   obtain⟨ha15,hd⟩:=Al hd
   refine Wp.region<|Aa.op (Ab.AV (o':=1) Bv rf rf) rf<|Aa.op (Ab.Am (i:=1) (v:=v13) CC rf rf rf rf) rf<|Aa.op (Ab.move rf) rf<|Aa.op (Ab.conv u3 u5 rf (Cm ha13)) rf<|Aa.op (Ab.move rf) rf<|Aa.op (Ab.conv u3 u5 rf (Cm ha14)) rf<|Aa.op (Ab.move rf) rf ?_
   refine Aa.op (Ab.Bi (vs:=[(0,(.int .u8 x10)),(1,(.int .u8 i1)),(2,(.int .i64 x14))]) (cs:= #[(.int .u8 x10),(.int .u8 i1),(.int .i64 x14)]) Ho BA rf rf (AJ rf (AJ rf (AJ rf (Bd)))) rf) rf<|Aa.A1 (c:=(cP AZ (cP AZ Ao))) (y:=(x10,i1,x14)) (cs:=[(.int .u8 x10),(.int .u8 i1),(.int .i64 x14)]) CC BA rf rf rf rf (⟨[(.int .u8 x10)],[(.int .u8 i1),(.int .i64 x14)],rf,⟨rf,(show(0:Int)≤x10 by omega),(show x10≤(255:Int) by omega)⟩,⟨[(.int .u8 i1)],[(.int .i64 x14)],rf,⟨rf,(show(0:Int)≤i1 by omega),(show i1≤(255:Int) by omega)⟩,rf⟩⟩) rf fun v21 xs15 hq15=>Aa.Df (i:=1) (j:=0) (hq6.mono (hl9.trans hl10)) hq15 CC BA rf (by decide) rf rf rf rf (by decide) ha15 rf fun v22 xs16 hq16=>Aa.drop (i:=0)<|Aa.op (Ab.AV (o':=1) Bv rf rf) rf<|Aa.Bm (i:=0) rf fun ho3=>Aa.Cc (i:=1) rf rf ho3 Mg rf (Nat.le_of_ble_eq_true rf) ?_
   refine Aa.own (O:=_::_::_::_::_::_::_) ?_ rf
   refine Aa.nil<|At.AE<|At.Ad<|Wp.region<|Aa.op (Ab.add rf rf (Aq (by omega))) rf<|Aa.op (Ab.move rf) rf<|Aa.nil ?_
   refine At.AO (hl9.trans hl10) ⟨l5,(l4++([(x10,i1,x14)]:List (Int×Int×Int))),(k2+1),v14,xs7,v22,xs16,rf,rf,(by rw[←hn2];exact hd),hq9,hq16⟩ (Sub.of rf)
  obtain⟨hb8,hd⟩:=bF hb8 hd
  refine Wp.exit<|At.An<|At.An<|At.Az<|At.Ad ?_
  obtain⟨ha16,hd⟩:=Al hd
  refine Wp.region<|Aa.op (Ab.AV (o':=0) Ck rf rf) rf<|Aa.op (Ab.Am (i:=3) (v:=v10) CG rf rf rf rf) rf<|Aa.op (Ab.AF (i:=1) NA rf Bl rf rf rf) rf ?_
  refine Aa.A7 (i:=0) rf fun hb16=>?_
  refine Aa.freeze (i:=0) rf fun H11 hl11 hs2=>?_
  have hv8:=AW.of (c:=(cP AZ (cP AZ Ao))) hs2 rfl (hq6.mono hl11) hb16
  refine Aa.A1 (c:=(cP cB (cL (cP AZ (cP AZ Ao))))) (y:=(x9.1,l4)) (cs:=[(.bool x9.1),v13]) CG Bl rf rf rf rf (⟨[(.bool x9.1)],[v13],rf,rf,⟨_,rf,hv8⟩⟩) rf fun v23 xs17 hq17=>Aa.Df (i:=2) (j:=0) (hq4.mono (hl8.trans hl11)) hq17 CG Bl rf (by decide) rf rf rf rf (by decide) ha16 rf fun v24 xs18 hq18=>Aa.drop (i:=0)<|Aa.op (Ab.AV (o':=0) Ck rf rf) rf<|Aa.Bm (i:=1) rf fun ho4=>Aa.Cc (i:=2) rf rf ho4 VP rf (Nat.le_of_ble_eq_true rf) ?_
  refine Aa.own (O:=_::_::_::_::_::_) ?_ rf
  refine Aa.nil<|At.AE<|At.Ad<|Wp.region<|Aa.op (Ab.move rf) rf<|Aa.op (Ab.add rf rf (Aq (by omega))) rf<|Aa.op (Ab.assign rf) rf<|Aa.nil ?_
  refine At.AR [1,2,3,4] 5 rf rf rf ?_
  refine At.AO (hl8.trans hl11) ⟨l3,(l2++([(x9.1,l4)]:List (Bool×(List (Int×Int×Int))))),(k1+1),v12,xs5,v24,xs18,rf,rf,(by rw[←hn1];exact hd),(hq5.mono hl11),hq18⟩ (Sub.of rf)
 obtain⟨hb6,hd⟩:=bF hb6 hd
 refine Wp.exit<|At.An<|At.An<|At.Az<|At.Ad<|Wp.sr<|Aa.op (Ab.AF (i:=1) Eo rf A5 rf rf rf) rf<|Aa.Bm (i:=0) rf fun ho5=>?_
 refine Aa.AP (i:=3) (cs':= #[v10]) rf rf A5 rf rf (Bc (Ac ho5 (As))) rf ?_
 refine Aa.own (O:=_::_::_::_::_) ?_ rf
 refine Aa.op (Ab.assign rf) rf<|Aa.Af<|Wp.ret ?_
 refine At.A7 (i:=0) rf fun hb17=>?_
 refine At.freeze (i:=0) rf fun H12 hl12 hs3=>?_
 have hv9:=AW.of (c:=(cP cB (cL (cP AZ (cP AZ Ao))))) hs3 rfl (hq4.mono hl12) hb17
 obtain rfl:=si hd
 exact At.I5 rf (RV.C' (i:=2) rf Eo rf A5 rf rf) (RV.tmp (v:=(.int .i64 0)) rf) (fun w hs=>⟨_,_,_,rf,(((((((hl1.trans hl2).trans hl3).trans hl4).trans hl5).trans hl6).trans hl7).trans hl12),(hs.Cg 3),⟨⟨v10,rf,hv9⟩,rf⟩⟩)
end Go.Proofs.YtjmbmodmepdmjaaGreatDoor
namespace Go.GK
def FE(fu:Nat)(a0:Rx)(a1:Int)(slf:Rx→Int→Option Int)(i51:Int)(i52:Int)(nx50:(Int×Int)→Option Int):Option Int:=
 bif decide (i52<((a0.AL.length:Nat):Int))then(bif decide (i51≤a1)then(AX (idx a0.AL i52) (fun x64=>A0 (C0 (a1-i51)) (AX (slf x64 (a1-i51)) (fun x71=>A0 (C0 (i51+x71)) (A0 (C0 (i52+1)) (nx50 (i51+x71,i52+1)))))))else(some i51))else(some i51)
def FG(fu:Nat)(slf:Rx→Int→Option Int)(a0:Rx)(a1:Int):Option Int:=
 Ax fu (fun p nx=>FE fu a0 a1 slf p.1 p.2 nx) (1,0)
def Fj:Nat→Rx→Int→Option Int
 |0,_,_=>none
 |fu+1,a0,a1=>FG fu (Fj fu) a0 a1
def Ik(fu:Nat)(a0:Rx):Option Bool:=
 AX (Fj fu a0 12) (fun x4=>some (decide (x4≤12)))
def Fi(fu:Nat)(a0:Rx):Option Int:=
 bif decide (a0.kind<3)then(bif decide (0<((a0.AL.length:Nat):Int))then(some 2)else(bif decide (a0.kind=3)then(bif decide (((a0.AL.length:Nat):Int)<2)then(some 2)else(bif decide (a0.kind=5)then(bif decide (((a0.AL.length:Nat):Int)≠1)then(some 2)else(some 0))else(some 0)))else(bif decide (a0.kind=4)then(bif decide (((a0.AL.length:Nat):Int)<2)then(some 2)else(bif decide (a0.kind=5)then(bif decide (((a0.AL.length:Nat):Int)≠1)then(some 2)else(some 0))else(some 0)))else(bif decide (a0.kind=5)then(bif decide (((a0.AL.length:Nat):Int)≠1)then(some 2)else(some 0))else(some 0)))))else(bif decide (a0.kind=3)then(bif decide (((a0.AL.length:Nat):Int)<2)then(some 2)else(bif decide (a0.kind=5)then(bif decide (((a0.AL.length:Nat):Int)≠1)then(some 2)else(some 0))else(some 0)))else(bif decide (a0.kind=4)then(bif decide (((a0.AL.length:Nat):Int)<2)then(some 2)else(bif decide (a0.kind=5)then(bif decide (((a0.AL.length:Nat):Int)≠1)then(some 2)else(some 0))else(some 0)))else(bif decide (a0.kind=5)then(bif decide (((a0.AL.length:Nat):Int)≠1)then(some 2)else(some 0))else(some 0))))
def Jb(fu:Nat)(a0:Rx):Option Int:=
 bif decide (a0.kind<0)then(some 11)else(bif decide (5<a0.kind)then(some 11)else(bif decide (a0.kind≠2)then(bif !MZ a0.set (fun _=>false)then(some 11)else(Fi fu a0))else(Fi fu a0)))
def G8(fu:Nat)(a0:Rx)(a1:Int)(slf:Rx→Int→Option Int)(k35:Nat)(nx34:Nat→Option Int):Option Int:=
 bif decide (((k35:Nat):Int)<((a0.AL.length:Nat):Int))then(AX (idx a0.AL ((k35:Nat):Int)) (fun x46=>A0 (C0 (a1+1)) (AX (slf x46 (a1+1)) (fun x53=>bif decide (x53≠0)then(some x53)else(nx34 (k35+1))))))else(some 0)
def Ed(fu:Nat)(slf:Rx→Int→Option Int)(a0:Rx)(a1:Int):Option Int:=
 bif decide (16<a1)then(some 9)else(AX (Jb fu a0) (fun x5=>bif decide (x5≠0)then(some x5)else(Ax fu (G8 fu a0 a1 slf) 0)))
def EK:Nat→Rx→Int→Option Int
 |0,_,_=>none
 |fu+1,a0,a1=>Ed fu (EK fu) a0 a1
def Hc(fu:Nat)(a0:Rx):Option Int:=
 AX (EK fu a0 1) (fun x4=>some x4)
def DR(fu:Nat)(a0:(List (Int×Int×AD×Bool))×Int)(nx214:((List Bool)×Bool)→Option (List Int))(l279:List Bool)(b283:Bool)(k284:Nat)(nx278:((List Bool)×Bool×Nat)→Option (List Int)):Option (List Int):=
 bif decide (((k284:Nat):Int)<((a0.1.length:Nat):Int))then(AX (idx a0.1 ((k284:Nat):Int)) (fun x294=>bif x294.2.2.2 then(AX (idx l279 x294.1) (fun x299=>bif x299 then(AX (idx l279 x294.2.1) (fun x303=>bif !x303 then(AX (idx l279 x294.2.1) (fun x307=>nx278 (l279.set x294.2.1.toNat true,true,k284+1)))else(nx278 (l279,b283,k284+1))))else(nx278 (l279,b283,k284+1))))else(nx278 (l279,b283,k284+1))))else(nx214 (l279,b283))
def DQ(fu:Nat)(l215:List Bool)(l346:List Int)(k350:Nat)(nx345:((List Int)×Nat)→Option (List Int)):Option (List Int):=
 bif decide (((k350:Nat):Int)<((l215.length:Nat):Int))then(AX (idx l215 ((k350:Nat):Int)) (fun x360=>bif x360 then(A0 (l346.length+([((k350:Nat):Int)]:List Int).length≤AH) (nx345 (l346++([((k350:Nat):Int)]:List Int),k350+1)))else(nx345 (l346,k350+1))))else(some l346)
def EA(fu:Nat)(a0:(List (Int×Int×AD×Bool))×Int)(l215:List Bool)(b219:Bool)(nx214:((List Bool)×Bool)→Option (List Int)):Option (List Int):=
 bif b219 then(Ax fu (fun p nx=>DR fu a0 nx214 p.1 p.2.1 p.2.2 nx) (l215,false,0))else(Ax fu (fun p nx=>DQ fu l215 p.1 p.2 nx) (([]:List Int),0))
def DS(fu:Nat)(a0:(List (Int×Int×AD×Bool))×Int)(a1:List Int)(l38:List Bool)(k42:Nat)(nx37:((List Bool)×Nat)→Option (List Int)):Option (List Int):=
 bif decide (((k42:Nat):Int)<((a1.length:Nat):Int))then(AX (idx a1 ((k42:Nat):Int)) (fun x52=>AX (idx l38 x52) (fun x55=>nx37 (l38.set x52.toNat true,k42+1))))else(Ax fu (fun p nx=>EA fu a0 p.1 p.2 nx) (l38,true))
def EB(fu:Nat)(a0:(List (Int×Int×AD×Bool))×Int)(a1:List Int):Option (List Int):=
 A0 (0≤a0.2) (A0 ((Int.toNat a0.2)≤AH) (Ax fu (fun p nx=>DS fu a0 a1 p.1 p.2 nx) ((List.replicate (Int.toNat a0.2) false:List Bool),0)))
def FY(fu:Nat)(a0:List Int)(a1:Int)(k17:Nat)(nx16:Nat→Option Bool):Option Bool:=
 bif decide (((k17:Nat):Int)<((a0.length:Nat):Int))then(AX (idx a0 ((k17:Nat):Int)) (fun x27=>bif decide (x27=a1)then(some true)else(nx16 (k17+1))))else(some false)
def II(fu:Nat)(a0:List Int)(a1:Int):Option Bool:=
 Ax fu (FY fu a0 a1) 0
def DU(fu:Nat)(a0:(List (Int×Int×AD×Bool))×Int)(l120:List Int)(k124:Nat)(nx119:((List Int)×Nat)→Option (List Int))(b163:Bool)(k164:Nat)(nx162:(Bool×Nat)→Option (List Int)):Option (List Int):=
 bif decide (((k164:Nat):Int)<((a0.1.length:Nat):Int))then(AX (idx a0.1 ((k164:Nat):Int)) (fun x174=>bif b163 then(nx162 (true,k164+1))else(A0 (F8 ((k124:Nat):Int)) (A0 (C0 (((k124:Nat):Int)-1)) (A0 (F8 (((k124:Nat):Int)-1)) (nx162 (!((x174.2.2.1 (((k124:Nat):Int)).toNat)==(x174.2.2.1 ((((k124:Nat):Int)-1)).toNat)),k164+1)))))))else(bif b163 then(A0 (l120.length+([((k124:Nat):Int)]:List Int).length≤AH) (nx119 (l120++([((k124:Nat):Int)]:List Int),k124+1)))else(nx119 (l120,k124+1)))
def DV(fu:Nat)(a0:(List (Int×Int×AD×Bool))×Int)(l120:List Int)(k124:Nat)(nx119:((List Int)×Nat)→Option (List Int)):Option (List Int):=
 bif decide (((k124:Nat):Int)<256)then(Ax fu (fun p nx=>DU fu a0 l120 k124 nx119 p.1 p.2 nx) (false,0))else(some l120)
def Fe(fu:Nat)(a0:(List (Int×Int×AD×Bool))×Int):Option (List Int):=
 Ax fu (fun p nx=>DV fu a0 p.1 p.2 nx) (([0]:List Int),1)
def Fb(fu:Nat)(slf:((List (Int×Int×AD×Bool))×Int)→Rx→Int→Int→Option ((List (Int×Int×AD×Bool))×Int))(i96:Int)(k97:Nat)(l98:List (Int×Int×AD×Bool))(nx95:(Int×Nat×(List (Int×Int×AD×Bool))×Int)→Option ((List (Int×Int×AD×Bool))×Int))(x112:Rx)(i123:Int)(i124:Int):Option ((List (Int×Int×AD×Bool))×Int):=
 AX (slf (l98,i124) x112 i96 i123) (fun x130=>nx95 (i123,k97+1,x130.1,x130.2))
def DD(fu:Nat)(a1:Rx)(a3:Int)(slf:((List (Int×Int×AD×Bool))×Int)→Rx→Int→Int→Option ((List (Int×Int×AD×Bool))×Int))(i96:Int)(k97:Nat)(l98:List (Int×Int×AD×Bool))(i102:Int)(nx95:(Int×Nat×(List (Int×Int×AD×Bool))×Int)→Option ((List (Int×Int×AD×Bool))×Int)):Option ((List (Int×Int×AD×Bool))×Int):=
 bif decide (((k97:Nat):Int)<((a1.AL.length:Nat):Int))then(AX (idx a1.AL ((k97:Nat):Int)) (fun x112=>bif decide ((((k97:Nat):Int)+1)<((a1.AL.length:Nat):Int))then(A0 (C0 (i102+1)) (Fb fu slf i96 k97 l98 nx95 x112 i102 (i102+1)))else(Fb fu slf i96 k97 l98 nx95 x112 a3 i102)))else(some (l98,i102))
def DC(fu:Nat)(a1:Rx)(a2:Int)(a3:Int)(slf:((List (Int×Int×AD×Bool))×Int)→Rx→Int→Int→Option ((List (Int×Int×AD×Bool))×Int))(k185:Nat)(l186:List (Int×Int×AD×Bool))(i190:Int)(nx184:(Nat×(List (Int×Int×AD×Bool))×Int)→Option ((List (Int×Int×AD×Bool))×Int)):Option ((List (Int×Int×AD×Bool))×Int):=
 bif decide (((k185:Nat):Int)<((a1.AL.length:Nat):Int))then(AX (idx a1.AL ((k185:Nat):Int)) (fun x200=>AX (slf (l186,i190) x200 a2 a3) (fun x208=>nx184 (k185+1,x208.1,x208.2))))else(some (l186,i190))
def Gw(fu:Nat)(slf:((List (Int×Int×AD×Bool))×Int)→Rx→Int→Int→Option ((List (Int×Int×AD×Bool))×Int))(a0:(List (Int×Int×AD×Bool))×Int)(a1:Rx)(a2:Int)(a3:Int):Option ((List (Int×Int×AD×Bool))×Int):=
 bif decide (a1.kind=1)then(A0 (a0.1.length+([(a2,a3,(fun _=>false),true)]:List (Int×Int×AD×Bool)).length≤AH) (some (a0.1++([(a2,a3,(fun _=>false),true)]:List (Int×Int×AD×Bool)),a0.2)))else(bif decide (a1.kind=2)then(A0 (a0.1.length+([(a2,a3,a1.set,false)]:List (Int×Int×AD×Bool)).length≤AH) (some (a0.1++([(a2,a3,a1.set,false)]:List (Int×Int×AD×Bool)),a0.2)))else(bif decide (a1.kind=3)then(Ax fu (fun p nx=>DD fu a1 a3 slf p.1 p.2.1 p.2.2.1 p.2.2.2 nx) (a2,0,a0.1,a0.2))else(bif decide (a1.kind=4)then(Ax fu (fun p nx=>DC fu a1 a2 a3 slf p.1 p.2.1 p.2.2 nx) (0,a0.1,a0.2))else(bif decide (a1.kind=5)then(A0 (C0 (a0.2+1)) (A0 (a0.1.length+([(a2,a0.2,(fun _=>false),true)]:List (Int×Int×AD×Bool)).length≤AH) (A0 ((a0.1++([(a2,a0.2,(fun _=>false),true)]:List (Int×Int×AD×Bool))).length+([(a0.2,a3,(fun _=>false),true)]:List (Int×Int×AD×Bool)).length≤AH) (AX (idx a1.AL 0) (fun x249=>AX (slf ((a0.1++([(a2,a0.2,(fun _=>false),true)]:List (Int×Int×AD×Bool)))++([(a0.2,a3,(fun _=>false),true)]:List (Int×Int×AD×Bool)),a0.2+1) x249 a0.2 a0.2) (fun x255=>some x255))))))else(some a0)))))
def EW:Nat→((List (Int×Int×AD×Bool))×Int)→Rx→Int→Int→Option ((List (Int×Int×AD×Bool))×Int)
 |0,_,_,_,_=>none
 |fu+1,a0,a1,a2,a3=>Gw fu (EW fu) a0 a1 a2 a3
def Ep(fu:Nat)(l1582:List (Int×Int×Int))(k1586:Nat)(nx1577:((List (List Int))×(List (Int×Int×Int))×Nat)→Option (List (Bool×(List (Int×Int×Int)))))(x1596:Int)(l1747:List (List Int))(i1751:Int)(i1763:Int):Option (List (Bool×(List (Int×Int×Int)))):=
 A0 (F8 x1596) (A0 (F8 i1763) (A0 (l1582.length+([(x1596,i1763,i1751)]:List (Int×Int×Int)).length≤AH) (nx1577 (l1747,l1582++([(x1596,i1763,i1751)]:List (Int×Int×Int)),k1586+1))))
def Er(fu:Nat)(x5:List Int)(l1582:List (Int×Int×Int))(k1586:Nat)(nx1577:((List (List Int))×(List (Int×Int×Int))×Nat)→Option (List (Bool×(List (Int×Int×Int)))))(x1596:Int)(l1747:List (List Int))(i1751:Int):Option (List (Bool×(List (Int×Int×Int)))):=
 bif decide ((((k1586:Nat):Int)+1)<((x5.length:Nat):Int))then(AX (idx x5 (((k1586:Nat):Int)+1)) (fun x1780=>A0 (C0 (x1780-1)) (Ep fu l1582 k1586 nx1577 x1596 l1747 i1751 (x1780-1))))else(Ep fu l1582 k1586 nx1577 x1596 l1747 i1751 255)
def DH(fu:Nat)(a0:(List (Int×Int×AD×Bool))×Int)(x5:List Int)(k1192:Nat)(l1578:List (List Int))(l1582:List (Int×Int×Int))(k1586:Nat)(nx1577:((List (List Int))×(List (Int×Int×Int))×Nat)→Option (List (Bool×(List (Int×Int×Int)))))(x1596:Int)(l1677:List Int)(k1681:Nat)(nx1676:((List Int)×Nat)→Option (List (Bool×(List (Int×Int×Int))))):Option (List (Bool×(List (Int×Int×Int)))):=
 bif decide (((k1681:Nat):Int)<((a0.1.length:Nat):Int))then(AX (idx a0.1 ((k1681:Nat):Int)) (fun x1691=>bif !x1691.2.2.2 then(AX (idx l1578 ((k1192:Nat):Int)) (fun x1706=>AX (II fu x1706 x1691.1) (fun x1711=>bif x1711 then(A0 (F8 x1596) (bif x1691.2.2.1 (x1596).toNat then(A0 (l1677.length+([x1691.2.1]:List Int).length≤AH) (nx1676 (l1677++([x1691.2.1]:List Int),k1681+1)))else(nx1676 (l1677,k1681+1))))else(nx1676 (l1677,k1681+1)))))else(nx1676 (l1677,k1681+1))))else(bif decide (((l1677.length:Nat):Int)=0)then(nx1577 (l1578,l1582,k1586+1))else(AX (EB fu a0 l1677) (fun x1730=>AX (Hn fu l1578 x1730) (fun x1736=>bif decide (x1736<0)then(A0 (l1578.length+([x1730]:List (List Int)).length≤AH) (Er fu x5 l1582 k1586 nx1577 x1596 (l1578++([x1730]:List (List Int))) ((l1578.length:Nat):Int)))else(Er fu x5 l1582 k1586 nx1577 x1596 l1578 x1736)))))
def DI(fu:Nat)(a0:(List (Int×Int×AD×Bool))×Int)(x5:List Int)(l1188:List (Bool×(List (Int×Int×Int))))(k1192:Nat)(nx1183:((List (List Int))×(List (Bool×(List (Int×Int×Int))))×Nat)→Option (List (Bool×(List (Int×Int×Int)))))(x1208:Bool)(l1578:List (List Int))(l1582:List (Int×Int×Int))(k1586:Nat)(nx1577:((List (List Int))×(List (Int×Int×Int))×Nat)→Option (List (Bool×(List (Int×Int×Int))))):Option (List (Bool×(List (Int×Int×Int)))):=
 bif decide (((k1586:Nat):Int)<((x5.length:Nat):Int))then(AX (idx x5 ((k1586:Nat):Int)) (fun x1596=>Ax fu (fun p nx=>DH fu a0 x5 k1192 l1578 l1582 k1586 nx1577 x1596 p.1 p.2 nx) (([]:List Int),0)))else(A0 (l1188.length+([(x1208,l1582)]:List (Bool×(List (Int×Int×Int)))).length≤AH) (nx1183 (l1578,l1188++([(x1208,l1582)]:List (Bool×(List (Int×Int×Int)))),k1192+1)))
def EX(fu:Nat)(a0:(List (Int×Int×AD×Bool))×Int)(x5:List Int)(l1184:List (List Int))(l1188:List (Bool×(List (Int×Int×Int))))(k1192:Nat)(nx1183:((List (List Int))×(List (Bool×(List (Int×Int×Int))))×Nat)→Option (List (Bool×(List (Int×Int×Int))))):Option (List (Bool×(List (Int×Int×Int)))):=
 bif decide (((k1192:Nat):Int)<((l1184.length:Nat):Int))then(AX (idx l1184 ((k1192:Nat):Int)) (fun x1203=>AX (II fu x1203 1) (fun x1208=>Ax fu (fun p nx=>DI fu a0 x5 l1188 k1192 nx1183 x1208 p.1 p.2.1 p.2.2 nx) (l1184,([]:List (Int×Int×Int)),0))))else(some l1188)
def Ih(fu:Nat)(a0:(List (Int×Int×AD×Bool))×Int):Option (List (Bool×(List (Int×Int×Int)))):=
 AX (Fe fu a0) (fun x5=>AX (EB fu a0 ([0]:List Int)) (fun x19=>Ax fu (fun p nx=>EX fu a0 x5 p.1 p.2.1 p.2.2 nx) (([x19]:List (List Int)),([]:List (Bool×(List (Int×Int×Int)))),0)))
def EF(fu:Nat)(k1184:Nat)(nx1179:((List (List Int))×Nat)→Option Bool)(l1293:List (List Int)):Option Bool:=
 bif decide (501<((l1293.length:Nat):Int))then(some true)else(nx1179 (l1293,k1184+1))
def Eb(fu:Nat)(a0:(List (Int×Int×AD×Bool))×Int)(x957:List Int)(l1180:List (List Int))(k1184:Nat)(nx1179:((List (List Int))×Nat)→Option Bool)(x1194:Int)(l1245:List Int)(k1249:Nat)(nx1244:((List Int)×Nat)→Option Bool):Option Bool:=
 bif decide (((k1249:Nat):Int)<((a0.1.length:Nat):Int))then(AX (idx a0.1 ((k1249:Nat):Int)) (fun x1259=>bif !x1259.2.2.2 then(AX (II fu x957 x1259.1) (fun x1264=>bif x1264 then(A0 (F8 x1194) (bif x1259.2.2.1 (x1194).toNat then(A0 (l1245.length+([((k1249:Nat):Int)]:List Int).length≤AH) (nx1244 (l1245++([((k1249:Nat):Int)]:List Int),k1249+1)))else(nx1244 (l1245,k1249+1))))else(nx1244 (l1245,k1249+1))))else(nx1244 (l1245,k1249+1))))else(bif decide (0<((l1245.length:Nat):Int))then(AX (Hn fu l1180 l1245) (fun x1278=>bif decide (x1278<0)then(A0 (l1180.length+([l1245]:List (List Int)).length≤AH) (EF fu k1184 nx1179 (l1180++([l1245]:List (List Int)))))else(EF fu k1184 nx1179 l1180)))else(bif decide (501<((l1180.length:Nat):Int))then(some true)else(nx1179 (l1180,k1184+1))))
def Ec(fu:Nat)(a0:(List (Int×Int×AD×Bool))×Int)(x4:List Int)(k855:Nat)(nx850:((List (List Int))×Nat)→Option Bool)(x957:List Int)(l1180:List (List Int))(k1184:Nat)(nx1179:((List (List Int))×Nat)→Option Bool):Option Bool:=
 bif decide (((k1184:Nat):Int)<((x4.length:Nat):Int))then(AX (idx x4 ((k1184:Nat):Int)) (fun x1194=>Ax fu (fun p nx=>Eb fu a0 x957 l1180 k1184 nx1179 x1194 p.1 p.2 nx) (([]:List Int),0)))else(nx850 (l1180,k855+1))
def EH(fu:Nat)(a0:(List (Int×Int×AD×Bool))×Int)(x4:List Int)(l851:List (List Int))(k855:Nat)(nx850:((List (List Int))×Nat)→Option Bool)(x884:List Int)(l925:List Int)(k929:Nat)(nx924:((List Int)×Nat)→Option Bool):Option Bool:=
 bif decide (((k929:Nat):Int)<((x884.length:Nat):Int))then(AX (idx x884 ((k929:Nat):Int)) (fun x939=>AX (idx a0.1 x939) (fun x942=>A0 (l925.length+([x942.2.1]:List Int).length≤AH) (nx924 (l925++([x942.2.1]:List Int),k929+1)))))else(AX (EB fu a0 l925) (fun x957=>Ax fu (fun p nx=>Ec fu a0 x4 k855 nx850 x957 p.1 p.2 nx) (l851,0)))
def EG(fu:Nat)(a0:(List (Int×Int×AD×Bool))×Int)(x4:List Int)(l851:List (List Int))(k855:Nat)(nx850:((List (List Int))×Nat)→Option Bool)(l875:List Int):Option Bool:=
 AX (idx l851 ((k855:Nat):Int)) (fun x884=>Ax fu (fun p nx=>EH fu a0 x4 l851 k855 nx850 x884 p.1 p.2 nx) (l875,0))
def Gz(fu:Nat)(a0:(List (Int×Int×AD×Bool))×Int)(x4:List Int)(l851:List (List Int))(k855:Nat)(nx850:((List (List Int))×Nat)→Option Bool):Option Bool:=
 bif decide (((k855:Nat):Int)<((l851.length:Nat):Int))then(bif decide (((k855:Nat):Int)=0)then(A0 (([]:List Int).length+([0]:List Int).length≤AH) (EG fu a0 x4 l851 k855 nx850 (([]:List Int)++([0]:List Int))))else(EG fu a0 x4 l851 k855 nx850 ([]:List Int)))else(some false)
def Ja(fu:Nat)(a0:(List (Int×Int×AD×Bool))×Int):Option Bool:=
 AX (Fe fu a0) (fun x4=>Ax fu (fun p nx=>Gz fu a0 x4 p.1 p.2 nx) (([([]:List Int)]:List (List Int)),0))
def JY(fu:Nat)(a0:Rx):Option ((List (Bool×(List (Int×Int×Int))))×Int):=
 AX (Hc fu a0) (fun x6=>bif decide (x6≠0)then(some (([]:List (Bool×(List (Int×Int×Int)))),x6))else(AX (EW fu (([]:List (Int×Int×AD×Bool)),2) a0 0 1) (fun x11=>AX (Ja fu x11) (fun x26=>bif x26 then(some (([]:List (Bool×(List (Int×Int×Int)))),10))else(AX (Ih fu x11) (fun x30=>AX (GD fu x30) (fun x36=>bif decide (200<((x36.1.length:Nat):Int))then(some (([]:List (Bool×(List (Int×Int×Int)))),10))else(some (x36.1,0)))))))))
end Go.GK
