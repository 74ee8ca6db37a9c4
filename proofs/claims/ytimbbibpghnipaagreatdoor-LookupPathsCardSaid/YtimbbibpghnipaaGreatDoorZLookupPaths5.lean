/- Part 5 of the texts of this claim: what its theorem leans on. -/
import Derived.Test.YtimbbibpghnipaaGreatDoorZLookupPaths4
import Derived.KernelRfl
set_option linter.all false
open Option renaming some→Ac,none→C7
open Bool renaming false→Aj,true→Bp
open Go renaming Value→BZ,Operand→Dn,TypeId→Gs,Program→GQ,World→IW,execOp→Kt,Oper→K_,IntKind→Lr
open Decidable renaming decide→Di
namespace Go.GV
open Go Go.GK Go.Proofs
noncomputable section
def D249(c:Nat)(d:AE):Option (AE×Bool):=Ab (YQ c d.1) λa=>Ab (YQ c d.2) λb=>iB a.2 (iB b.2 (Ab (TR c (b.1,a.1)) λe=>Ac (((a.1,b.1),e)))<|some (((a.1,b.1),Aj)))<|some ((a.1,b.1),Aj)
theorem d249(fu x0):LD (fu+1) x0=D249 fu x0:=by kernel_rfl
def TO(a:Nat)(b:AE):Option (AE×Int):=Ab (F92 a b) λd=>iB (!d) (Ac (((Vl.mk Aj (Aj,Aj,Aj,([],[]),[]) [] [],Vl.mk Aj (Aj,Aj,Aj,([],[]),[]) [] []),11)))<|Ab (LD a b) λc=>iB (!c.2) (Ac (((Vl.mk Aj (Aj,Aj,Aj,([],[]),[]) [] [],Vl.mk Aj (Aj,Aj,Aj,([],[]),[]) [] []),11)))<|some (c.1,0)
def u_:=bQ [B89,B246] Tryz.func55 [Bq] [Bq,Ak] TO
def Q4(a:Nat)(b:AE):Option Bool:=Ab (TO a b) λc=>iF (c.2=0) (Ab (eT a (c.1,b)) Ac)<|some Aj
def lj:=bQ [u_,ve] Tryz.func50 [Bq] [.bool] Q4
def tt(b:Nat)(c:AE):Option Vl:=Ab (TO b c) λa=>iF (a.2≠0) (Ac (Vl.mk Aj (Aj,Aj,Aj,([],[]),[]) [] []))<|Ab (Q4 b c) λd=>iB (!d) (Ac (Vl.mk Aj (Aj,Aj,Aj,([],[]),[]) [] []))<|Ab (Vq b a.1.2) λe=>iB e (Ac a.1.1)<|some a.1.2
def B249:=bQ [ll,lj,u_] Tryz.func82 [Bq] [BD] tt
def kx(a:Nat)(b:AE):Option ((Vl×Bool)×Int):=Ab (Q4 a b) λd=>iB (!d) (Ac (((Vl.mk Aj (Aj,Aj,Aj,([],[]),[]) [] [],Aj),11)))<|Ab (Vq a b.1) λe=>iB e (Ac (((Vl.mk Aj (Aj,Aj,Aj,([],[]),[]) [] [],Aj),12)))<|Ab (tt a b) λc=>Ab (Y2 a (Vl.sc c)) λf=>Ac ((c,(!f)),0)
def zG:=bQ [ll,vg,lj,B249] Tryz.func61 [Bq] [(.st y26),Ak] kx
def tq(b:Nat)(a:Vl×Bool):Option Int:=Aa .i64 (((Vl.lists a.1).length:Int)+((Vl.structs a.1).length:Int))<|iB a.2 (Aa .i64 (((Vl.lists a.1).length:Int)+((Vl.structs a.1).length:Int)+1)<|some (((((Vl.lists a.1).length:Int)+((Vl.structs a.1).length:Int))+1)))<|some (((Vl.lists a.1).length:Int)+((Vl.structs a.1).length:Int))
def B251:=bQ [] Tryz.func83 [(.st y26)] [Ak] tq
def kv(c:Nat):(Vl×Bool)×Int->Option Int|(b,a)=>iB (Vl.any b.1) (Ac 14)<|iF ((0:Int)<a) (Ab (tq c b) λd=>iF ((1:Int)<d) (Ac 14)<|iF (a=0) (Ac 11)<|some 0)<|iF (a=0) (Ac 11)<|some 0
def zF:=bQ [B251] Tryz.func62 [(.st y26),Ak] [Ak] kv
def tp(b:Nat)(d:AE):Option (BC×Int):=Ab (kx b d) λa=>iF (a.2=0) (Ab (kv b (a.1,((Vl.structs a.1.1).length:Int))) λc=>iF (c≠0) (Ac ((([],[]),c)))<|Ab (idx (Vl.structs a.1.1) (0:Int)) λe=>Ac ((e,0)))<|iF (a.2≠0) (Ac ((([],[]),a.2)))<|Ab (idx (Vl.structs a.1.1) (0:Int)) λf=>Ac (f,0)
def B253:=bQ [zG,zF] Tryz.func37 [Bq] [BQ,Ak] tp
def Vk(c:Nat):AE×Aq->Option (AE×Int)|(e,f)=>Ab (tp c e) λa=>iF (a.2≠0) (Ac (((Vl.mk Aj (Aj,Aj,Aj,([],[]),[]) [] [],Vl.mk Aj (Aj,Aj,Aj,([],[]),[]) [] []),a.2)))<|Ad c (λ(b:Nat) g=>iF ((b:Int)<a.1.1.length) (Ab (idx a.1.1 b) λd=>iF (d.1=f) (Ac ((d.2.2,0)))<|g (b+1))<|some (((Vl.mk Aj (Aj,Aj,Aj,([],[]),[]) [] [],Vl.mk Aj (Aj,Aj,Aj,([],[]),[]) [] []),13))) (0)
def zE:=bQ [B253] Tryz.func11 [Bq, .str] [Bq,Ak] Vk (la:=lk [(5,⟨[.nat],(kp [1,4,20,21] [(22, .AD 0 500)]),[(1, .c 0)],3⟩)])
def tj(b:Nat)(d:AE):Option (BP×Int):=Ab (kx b d) λa=>iF (a.2=0) (Ab (kv b (a.1,((Vl.lists a.1.1).length:Int))) λc=>iF (c≠0) (Ac ((([],[]),c)))<|Ab (idx (Vl.lists a.1.1) (0:Int)) λe=>Ac ((e,0)))<|iF (a.2≠0) (Ac ((([],[]),a.2)))<|Ab (idx (Vl.lists a.1.1) (0:Int)) λf=>Ac (f,0)
def B255:=bQ [zG,zF] Tryz.func45 [Bq] [Cc,Ak] tj
def ku(c:Nat):AE×Int->Option (AE×Int)|(d,b)=>Ab (tj c d) λa=>iF (a.2≠0) (Ac (((Vl.mk Aj (Aj,Aj,Aj,([],[]),[]) [] [],Vl.mk Aj (Aj,Aj,Aj,([],[]),[]) [] []),a.2)))<|iF (b<0) (Ac (((Vl.mk Aj (Aj,Aj,Aj,([],[]),[]) [] [],Vl.mk Aj (Aj,Aj,Aj,([],[]),[]) [] []),1)))<|iF (b<(a.1.1.length:Int)) (Ab (idx a.1.1 b) λe=>Ac ((e,0)))<|iF ((0:Int)<a.1.2.length) (Ac (((Vl.mk Aj (Aj,Aj,Aj,([],[]),[]) [] [],Vl.mk Aj (Aj,Aj,Aj,([],[]),[]) [] []),14)))<|some ((Vl.mk Aj (Aj,Aj,Aj,([],[]),[]) [] [],Vl.mk Aj (Aj,Aj,Aj,([],[]),[]) [] []),13)
def zD:=bQ [B255] Tryz.func18 [Bq,Ak] [Bq,Ak] ku
def yf(a:Nat):AE×AE->Option Bool|(b,c)=>Ab (NH a (b,c)) λd=>iB d (Ab (F92 a b) Ac)<|some Aj
def B257:=bQ [zP,B89] Tryz.func35 [Bq,Bq] [.bool] yf
def ye(a:Nat)(b:Vl):Option Bool:=Ab (Q4 a (b,Vl.mk Aj (Aj,Aj,Aj,([],[]),[]) [] [])) Ac
def B258:=bQ [lj] Tryz.func42 [BD] [.bool] ye
def yd(c:Nat):Vl×Aq->Option Bool|(a,b)=>iF (b=([110,117,108,108]:Aq)) (Ac ((Vl.sc a).1))<|iF (b=([98,111,111,108]:Aq)) (iB ((Vl.sc a).2.1) (Ac Bp)<|some ((Vl.sc a).2.2.1))<|iF (b=([105,110,116]:Aq)) (Ac (Di ((0:Int)<(((Vl.sc a).2.2.2.1.1).length:Int))))<|iF (b=([110,117,109,98,101,114]:Aq)) (Ac (Di ((0:Int)<(((Vl.sc a).2.2.2.1.2).length:Int))))<|iF (b=([115,116,114,105,110,103]:Aq)) (Ac (Di ((0:Int)<(((Vl.sc a).2.2.2.2).length:Int))))<|iF (b=([108,105,115,116]:Aq)) (Ac (Di ((0:Int)<(Vl.lists a).length)))<|some (Di ((0:Int)<(Vl.structs a).length))
def B259:=bQ [] Tryz.func43 [(.st BD), .str] [.bool] yd
def ti(b:Nat)(c:Vl):Option (List Aq):=Ab (ye b c) λf=>iB (!f) (Ac [])<|Ad b (λ(a:List Aq×Nat) d=>iF ((a.2:Int)< ↑(7)) (Ab (idx [([110,117,108,108]:Aq),([98,111,111,108]:Aq),([105,110,116]:Aq),([110,117,109,98,101,114]:Aq),([115,116,114,105,110,103]:Aq),([108,105,115,116]:Aq),([115,116,114,117,99,116]:Aq)] (a.2:Int)) λe=>iB (Vl.any c) (Ag (List.length a.1+1<=Ai)<|d ((a.1++[e]),a.2+1))<|Ab (yd b (c,e)) λg=>iB g (Ag (List.length a.1+1<=Ai)<|d ((a.1++[e]),a.2+1))<|d (a.1,a.2+1))<|some a.1) (([],0))
def B260:=bQ [B258,B259] Tryz.func16 [BD] [Lt] ti (la:=lk [(6,⟨[.Ae Lt, .nat],(kp [1,3] [(4, .AH 2),(13, .Am),(14, .Am),(15, .AD 1 601)]),[(1, .c 0),(0, .c 0),(2, .row 9 0)],3⟩)]) (pt:=lg [(5,[.own 4 9 .str]),(11,[.fz 2])])
def yc(d:Nat):List Aq×List Aq->Option Bool|(b,c)=>iF ((b.length:Int)≠c.length) (Ac Aj)<|Ad d (λ(a:Nat) e=>iF ((a:Int)<b.length) (Ab (idx b a) λf=>Ab (idx c a) λg=>iB (!decide (f=g)) (Ac Aj)<|e (a+1))<|some Bp) (0)
def B261:=bQ [] Tryz.func15 [Lt,Lt] [.bool] yc (la:=lk [(4,⟨[.nat],(kp [0,1] [(5, .AD 0 400)]),[],0⟩)])
def D266(fu:Nat):Option Bool:=Ab (F5 fu (1,1)) λr1=>Ab (F6 fu r1) λr2=>Ab (F33 fu (([97]:Aq),r2)) λr3=>Ab (F6 fu r3) λr4=>Ab (Vk fu (r4,([97]:Aq))) λr5=>Ab (Vk fu (r4,([98]:Aq))) λr6=>Ab (ku fu (r4,0)) λr7=>Ab (F33 fu (([97]:Aq),r2)) λr8=>Ab (F5 fu (1,1)) λr9=>Ab (F6 fu (Vl.mk (Vl.any r8) (Vl.sc r9) (Vl.lists r8) (Vl.structs r8))) λr10=>Ab (Vk fu (r10,([97]:Aq))) λr11=>Ab (F5 fu (1,2)) λr12=>Ab (F6 fu r12) λr13=>Ab (Vk fu (r13,([97]:Aq))) λr14=>bif Di (r5.2=0)then bif Di (r6.2=13)then bif Di (r7.2=11)then bif Di (r11.2=14)then bif Di (r14.2=11)then Ab (yf fu (r5.1,r2)) λr15=>bif r15 then Ab (F32 fu ()) λr16=>Ab (ti fu r16.1) λr17=>bif Di ((r17.length:Int)=7)then Ab (F5 fu ((-3:Int),3)) λr18=>Ab (ti fu r18) λr19=>Ab (yc fu (r19,[([105,110,116]:Aq)])) λr20=>Ac r20 else Ac Aj else Ac Aj else Ac Aj else Ac Aj else Ac Aj else Ac Aj else Ac Aj
abbrev eJ(fu:Nat)(_:Unit):=D266 fu
def B262:=bQ [zE,B261,B260,zD,B6,B5,B33,B257,B32] Tryz.func10 [] [.bool] eJ
end
end Go.GV
