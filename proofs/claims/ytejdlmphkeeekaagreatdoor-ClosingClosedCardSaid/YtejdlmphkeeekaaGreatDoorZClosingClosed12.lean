/- Part 12 of the texts of this claim: what its theorem leans on. -/
import Derived.Test.YtejdlmphkeeekaaGreatDoorZClosingClosed11
set_option linter.all false
open Option renaming some→Ac,none→Dc
open Bool renaming false→Ak,true→Br
open Go renaming Value→Ce,Operand→Er,TypeId→Gn,Program→GO,World→IK,execOp→Kr,Oper→K5,IntKind→Lm
open Decidable renaming decide→Ds
namespace Go.GV
open Go Go.GK Go.Proofs
noncomputable section
def R254(fu:Nat):=sQ (bs [eJ,B249,B251,B250,B252] fu) fu Tryz.func154 [Ba,Ba] [Ba] (la:=lk [(8,⟨[.Ae Ck],(kp [2,3,4,5,6,41] []),[(0, .c 0),(1, .c 0),(2, .c 0),(3, .c 0),(4, .Af 30 [(1, .AE 8)]),(8, .row 56 0)],9⟩),(15,⟨[.Ae Ci],(kp [4,5,6,11,59] []),[(0, .c 0),(1, .c 0),(2, .c 0),(3, .c 0),(4, .c 0),(8, .c 0),(5, .c 0),(6, .c 0),(9, .Af 31 [(1, .AE 13)]),(13, .row 52 0)],14⟩)]) (pt:=lg [(7,[.Cn 6 0 56 BW]),(14,[.Cn 11 0 52 BL])])
def B254(fu:Nat):=BI (R254 fu)
def R255(fu:Nat):=sQ (bs [B254] fu) fu Tryz.func112 [A_,A_] [A_]
def B255(fu:Nat):=BI (R255 fu)
def R256(fu:Nat):=sQ (bs [BTm] fu) fu Tryz.func111 [A_] [A_]
def B256(fu:Nat):=BI (R256 fu)
def R257(fu:Nat):=sQ (bs [BTv,B256,B255] fu) fu Tryz.func83 [A_,A_] [A_,Am]
def B257(fu:Nat):=BI (R257 fu)
def R258(fu:Nat):=sQ (bs [B257] fu) fu Tryz.func48 [Ba,Ba] [Ba,Am]
def kQ(fu:Nat):=BI (R258 fu)
def R259(fu:Nat):=sQ (bs [kR] fu) fu Tryz.func28 [A_,A_] [A_]
def B259(fu:Nat):=BI (R259 fu)
def R260(fu:Nat):=sQ (bs [BTm] fu) fu Tryz.func36 [Ba] [Ba]
def kP(fu:Nat):=BI (R260 fu)
def mj:A9:=⟨[.Ae A_],[(0, .v 0 A_),(1, .loc 0 0)],[(0, .Af 70 [(1, .AA 82 [] [1,2])]),(1, .Af 105 [(1, .AA 81 [] [0])]),(2, .Af 65 [(1, .AA 28 [] [])])],3⟩
def ly:A9:=⟨[.Ae A_],[(0, .v 0 A_)],[(0, .Af 70 [(1, .AA 82 [] [1,2])]),(1, .Af 105 [(1, .AA 81 [] [0])]),(2, .Af 65 [(1, .AA 28 [] [])])],3⟩
def mi:A9:=⟨[.Ae Ba],[(0, .v 0 Ba),(1, .loc 0 0),(2, .loc 1 0)],[(0, .Af 105 [(1, .AA 81 [] [2])]),(1, .Af 65 [(1, .AA 28 [] [])]),(2, .Af 70 [(1, .AA 82 [] [0,1])])],3⟩
def lu:A9:=⟨[.Ae Ba],[(0, .v 0 Ba)],[(0, .Af 105 [(1, .AA 81 [] [2])]),(1, .Af 65 [(1, .AA 28 [] [])]),(2, .Af 70 [(1, .AA 82 [] [0,1])])],3⟩
abbrev n_:Type:=Gl 81 mj ly 1 []×Gl 82 mi lu 1 []
def G261(n:Nat):n_:=Nat.rec (motive:=λ_=>n_) (tP Tryz.func81,tP Tryz.func82) (λfu ⟨g0,g1⟩=>(sP (BO g1::bs [kQ] fu) fu Tryz.func81 mj ly 1 [],sP (BO g0::bs [B259,kP] fu) fu Tryz.func82 mi lu 1 [] (la:=lk [(3,⟨[.Ae Ck, .nat],(kp [1,2,3,4,5,26,27] [(28, .AB 1 301)]),[(5, .Af 33 (kp [1,6] [(1, .AE 6),(1, .Al)])),(4, .c 0),(3, .c 0),(1, .Af 65 [(1, .AA 28 [] [])]),(0, .Af 105 [(1, .AA 81 [] [2])]),(2, .Af 70 [(1, .AA 82 [] [0,1])]),(6, .row 56 0)],7⟩),(7,⟨[.Ae Cz, .nat],(kp [1,2,3,4,5,7,8,26,27,28,33,34] [(35, .AB 1 701)]),[(8, .Af 56 [(1, .AE 9),(1, .Al)]),(7, .c 0),(5, .c 0),(6, .c 0),(4, .c 0),(3, .c 0),(1, .Af 65 [(1, .AA 28 [] [])]),(0, .Af 105 [(1, .AA 81 [] [2])]),(2, .Af 70 [(1, .AA 82 [] [0,1])]),(9, .row 38 0)],10⟩),(12,⟨[.Ae Cz, .nat],(kp [1,2,3,4,5,8,26,27,28,49,50] [(51, .AB 1 1201)]),[(8, .Af 56 [(1, .Al),(1, .AE 10)]),(9, .c 0),(5, .c 0),(6, .c 0),(4, .c 0),(3, .c 0),(1, .Af 65 [(1, .AA 28 [] [])]),(0, .Af 105 [(1, .AA 81 [] [2])]),(2, .Af 70 [(1, .AA 82 [] [0,1])]),(10, .row 38 0)],11⟩),(19,⟨[.Ae Ci, .nat],(kp [1,2,4,5,72,73] [(74, .AB 1 1901)]),[(5, .Af 33 (kp [1,6,1] [(1, .AE 7)])),(6, .c 0),(4, .c 0),(1, .Af 65 [(1, .AA 28 [] [])]),(0, .Af 105 [(1, .AA 81 [] [2])]),(2, .Af 70 [(1, .AA 82 [] [0,1])]),(7, .row 52 0)],8⟩),(23,⟨[.Ae Ke, .nat],(kp [1,2,4,5,14,15,72,73,74,79,80] [(81, .AB 1 2301)]),[(9, .Af 52 [(1, .AE 10),(1, .Al)]),(8, .c 0),(5, .c 0),(7, .c 0),(6, .c 0),(4, .c 0),(1, .Af 65 [(1, .AA 28 [] [])]),(0, .Af 105 [(1, .AA 81 [] [2])]),(2, .Af 70 [(1, .AA 82 [] [0,1])]),(10, .row 59 0)],11⟩),(28,⟨[.Ae I', .nat],(kp [1,2,4,5,15,72,73,74,101,102] [(103, .AB 1 2801)]),[(9, .Af 52 [(1, .Al),(1, .AE 11)]),(10, .c 0),(5, .c 0),(7, .c 0),(6, .c 0),(4, .c 0),(1, .Af 65 [(1, .AA 28 [] [])]),(0, .Af 105 [(1, .AA 81 [] [2])]),(2, .Af 70 [(1, .AA 82 [] [0,1])]),(11, .row 62 0)],12⟩)]) (pt:=lg [(2,[.Cn 5 7 56 BW]),(6,[.Cn 8 0 38 A_]),(11,[.Cn 8 1 38 A_]),(18,[.Cn 5 8 52 BL]),(22,[.Cn 15 0 59 ED]),(27,[.Cn 15 1 62 E'])]))) n
def B262(fu:Nat):=BO (G261 fu).2
def R263(fu:Nat):=sP (bs [B262] fu) fu Tryz.func47 ⟨[.Ae Ba],[(0, .v 0 Ba),(1, .AA 28 [] [])],[],0⟩ ⟨[.Ae Ba],[(0, .v 0 Ba)],[],0⟩ 1 []
def B263(fu:Nat):=BO (R263 fu)
def R264(fu:Nat):=sP (bs [BTv,B263,kQ] fu) fu Tryz.func27 ⟨[.Ae A_],[(0, .v 0 A_),(1, .AA 28 [] [])],[],0⟩ ⟨[.Ae A_, .Ae Am],[(0, .v 0 A_),(1, .v 1 Am)],[],0⟩ 2 []
def B264(fu:Nat):=BO (R264 fu)
def sZ(fu:Nat):=sQ (bs [B264] fu) fu Tryz.func11 [A_] [A_,Am]
def B265(fu:Nat):=BI (sZ fu)
def F6(b:Nat)(a:Vl):Option AH:=Ac (a,a)
def zT:=bQ [] Tryz.func53 [Ba] [A_] F6
def F32(a:Nat)(_:Unit):Option AH:=Ab (F6 a (Vl.mk Br (Ak,Ak,Ak,([],[]),[]) [] [])) Ac
def zS:=bQ [zT] Tryz.func34 [] [A_] F32
def R268(fu:Nat):=sQ (bs [kS,zS] fu) fu Tryz.func32 [A_,A_] [A_]
def B268(fu:Nat):=BI (R268 fu)
def mh:A9:=⟨[.Ae A_],[(0, .v 0 A_),(1, .loc 0 0)],[(0, .Af 70 [(1, .AA 82 [] [1,2])]),(1, .Af 105 [(1, .AA 81 [] [0])]),(2, .Af 65 [(1, .AA 32 [] [])])],3⟩
def lr:A9:=⟨[.Ae A_],[(0, .v 0 A_)],[(0, .Af 70 [(1, .AA 82 [] [1,2])]),(1, .Af 105 [(1, .AA 81 [] [0])]),(2, .Af 65 [(1, .AA 32 [] [])])],3⟩
def mg:A9:=⟨[.Ae Ba],[(0, .v 0 Ba),(1, .loc 0 0),(2, .loc 1 0)],[(0, .Af 105 [(1, .AA 81 [] [2])]),(1, .Af 65 [(1, .AA 32 [] [])]),(2, .Af 70 [(1, .AA 82 [] [0,1])])],3⟩
def lq:A9:=⟨[.Ae Ba],[(0, .v 0 Ba)],[(0, .Af 105 [(1, .AA 81 [] [2])]),(1, .Af 65 [(1, .AA 32 [] [])]),(2, .Af 70 [(1, .AA 82 [] [0,1])])],3⟩
abbrev n9:Type:=Gl 81 mh lr 1 []×Gl 82 mg lq 1 []
def G269(n:Nat):n9:=Nat.rec (motive:=λ_=>n9) (tP Tryz.func81,tP Tryz.func82) (λfu ⟨g0,g1⟩=>(sP (BO g1::bs [kQ] fu) fu Tryz.func81 mh lr 1 [],sP (BO g0::bs [B268,kP] fu) fu Tryz.func82 mg lq 1 [] (la:=lk [(3,⟨[.Ae Ck, .nat],(kp [1,2,3,4,5,26,27] [(28, .AB 1 301)]),[(5, .Af 33 (kp [1,6] [(1, .AE 6),(1, .Al)])),(4, .c 0),(3, .c 0),(1, .Af 65 [(1, .AA 32 [] [])]),(0, .Af 105 [(1, .AA 81 [] [2])]),(2, .Af 70 [(1, .AA 82 [] [0,1])]),(6, .row 56 0)],7⟩),(7,⟨[.Ae Cz, .nat],(kp [1,2,3,4,5,7,8,26,27,28,33,34] [(35, .AB 1 701)]),[(8, .Af 56 [(1, .AE 9),(1, .Al)]),(7, .c 0),(5, .c 0),(6, .c 0),(4, .c 0),(3, .c 0),(1, .Af 65 [(1, .AA 32 [] [])]),(0, .Af 105 [(1, .AA 81 [] [2])]),(2, .Af 70 [(1, .AA 82 [] [0,1])]),(9, .row 38 0)],10⟩),(12,⟨[.Ae Cz, .nat],(kp [1,2,3,4,5,8,26,27,28,49,50] [(51, .AB 1 1201)]),[(8, .Af 56 [(1, .Al),(1, .AE 10)]),(9, .c 0),(5, .c 0),(6, .c 0),(4, .c 0),(3, .c 0),(1, .Af 65 [(1, .AA 32 [] [])]),(0, .Af 105 [(1, .AA 81 [] [2])]),(2, .Af 70 [(1, .AA 82 [] [0,1])]),(10, .row 38 0)],11⟩),(19,⟨[.Ae Ci, .nat],(kp [1,2,4,5,72,73] [(74, .AB 1 1901)]),[(5, .Af 33 (kp [1,6,1] [(1, .AE 7)])),(6, .c 0),(4, .c 0),(1, .Af 65 [(1, .AA 32 [] [])]),(0, .Af 105 [(1, .AA 81 [] [2])]),(2, .Af 70 [(1, .AA 82 [] [0,1])]),(7, .row 52 0)],8⟩),(23,⟨[.Ae Ke, .nat],(kp [1,2,4,5,14,15,72,73,74,79,80] [(81, .AB 1 2301)]),[(9, .Af 52 [(1, .AE 10),(1, .Al)]),(8, .c 0),(5, .c 0),(7, .c 0),(6, .c 0),(4, .c 0),(1, .Af 65 [(1, .AA 32 [] [])]),(0, .Af 105 [(1, .AA 81 [] [2])]),(2, .Af 70 [(1, .AA 82 [] [0,1])]),(10, .row 59 0)],11⟩),(28,⟨[.Ae I', .nat],(kp [1,2,4,5,15,72,73,74,101,102] [(103, .AB 1 2801)]),[(9, .Af 52 [(1, .Al),(1, .AE 11)]),(10, .c 0),(5, .c 0),(7, .c 0),(6, .c 0),(4, .c 0),(1, .Af 65 [(1, .AA 32 [] [])]),(0, .Af 105 [(1, .AA 81 [] [2])]),(2, .Af 70 [(1, .AA 82 [] [0,1])]),(11, .row 62 0)],12⟩)]) (pt:=lg [(2,[.Cn 5 7 56 BW]),(6,[.Cn 8 0 38 A_]),(11,[.Cn 8 1 38 A_]),(18,[.Cn 5 8 52 BL]),(22,[.Cn 15 0 59 ED]),(27,[.Cn 15 1 62 E'])]))) n
def B270(fu:Nat):=BO (G269 fu).2
def R271(fu:Nat):=sP (bs [B270] fu) fu Tryz.func47 ⟨[.Ae Ba],[(0, .v 0 Ba),(1, .AA 32 [] [])],[],0⟩ ⟨[.Ae Ba],[(0, .v 0 Ba)],[],0⟩ 1 []
def B271(fu:Nat):=BO (R271 fu)
def R272(fu:Nat):=sP (bs [BTv,B271,kQ] fu) fu Tryz.func27 ⟨[.Ae A_],[(0, .v 0 A_),(1, .AA 32 [] [])],[],0⟩ ⟨[.Ae A_, .Ae Am],[(0, .v 0 A_),(1, .v 1 Am)],[],0⟩ 2 []
def B272(fu:Nat):=BO (R272 fu)
def sY(fu:Nat):=sQ (bs [B272] fu) fu Tryz.func13 [A_] [A_,Am]
def B273(fu:Nat):=BI (sY fu)
def R274(fu:Nat):=sQ (bs [] fu) fu Tryz.func56 [.str] [y3] (la:=lk [(3,⟨[.Ae I_, .Ae Am],(kp [0,2,3,6] [(7, .v 1 Am)]),[(1, .Af 27 [(1, .AE 2)]),(0, .c 0),(2, .row 77 0)],3⟩)]) (pt:=lg [(2,[.Cn 3 0 77 Kb]),(8,[.NC 2 0])])
def B274(fu:Nat):=BI (R274 fu)
def R275(fu:Nat):=sP (bs [] fu) fu Tryz.func88 ⟨[.Ae I'],[(0, .v 0 I')],[],0⟩ ⟨[.Ae I'],[(0, .AE 0)],[(0, .row 62 0)],1⟩ 1 [] (pt:=lg [(2,[.own 2 62 E'])])
def B275(fu:Nat):=BO (R275 fu)
def F261(a:Nat):AH×AH->Option Bool|(b,c)=>Ab (Nx a (b,c)) λd=>iB d (Ab (F92 a b) Ac)<|some Ak
def B276:=bQ [B89,B133] Tryz.func89 [A_,A_] [.bool] F261
def R277(fu:Nat):=sQ (bs [B275,B276,vd] fu) fu Tryz.func55 [I',E'] [I'] (la:=lk [(3,⟨[.nat],(kp [3,5,10,11] [(12, .AB 0 300)]),[(1, .c 0),(0, .c 0)],2⟩)]) (pt:=lg [(7,[.fz 4]),(9,[.fz 4])])
def B277(fu:Nat):=BI (R277 fu)
abbrev n8:Type:=EM 35 [Ba] [Ba]
def G278(n:Nat):n8:=Nat.rec (motive:=λ_=>n8) (tQ Tryz.func35) (λfu g0=>sQ (BI g0::bs [kS,zS,kP,zT,zV,B277,B274] fu) fu Tryz.func35 [Ba] [Ba] (la:=lk [(6,⟨[.Ae Ci, .nat],(kp [2,3,28,29] [(30, .AB 1 601)]),[(4, .Af 33 (kp [1,6,1] [(1, .AE 5)])),(3, .c 0),(1, .c 0),(5, .row 52 0)],6⟩),(10,⟨[.Ae I', .nat],(kp [2,3,5,6,28,29,30,35,36] [(37, .AB 1 1001)]),[(7, .Af 52 [(1, .Al),(1, .v 0 I')]),(6, .c 0),(4, .c 0),(5, .c 0),(3, .c 0),(1, .c 0)],8⟩),(15,⟨[.Ae I', .nat],(kp [2,3,6,28,29,30,56,57] [(58, .AB 1 1501)]),[(7, .Af 52 [(1, .Al),(1, .v 0 I')]),(4, .c 0),(5, .c 0),(3, .c 0),(1, .c 0)],8⟩)]) (pt:=lg [(5,[.Cn 3 8 52 BL])])) n
def B278(fu:Nat):=BI (G278 fu)
def ju(fu:Nat):=sQ (bs [BTg,B278,kP] fu) fu Tryz.func14 [Ba] [A_,Am]
def B279(fu:Nat):=BI (ju fu)
end
end Go.GV
