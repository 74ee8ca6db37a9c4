/- Part 7 of the texts of this claim: what its theorem leans on. -/
import Derived.Test.YtimbbibpghnipaaGreatDoorZLookupPaths6
import Derived.KernelRfl
import Derived.Test.YtimbbibpghnipaaGreatDoorZLookupPaths1
set_option linter.all false
open Option renaming some→Ac,none→C7
open Bool renaming false→Aj,true→Bp
open Go renaming Value→BZ,Operand→Dn,TypeId→Gs,Program→GQ,World→IW,execOp→Kt,Oper→K_,IntKind→Lr
open Decidable renaming decide→Di
open List renaming length→EW,replicate→Uh,range→a_,take_succ_eq_append_getElem→cu,getElem?_eq_getElem→lr,set→lD,take_append_getElem→qz,mem_singleton→wM,length_map→Als
open Int renaming toNat→aC,tdiv→jl,tmod→jz
open Go.Op renaming bytesLess→gq
open Nat renaming strongRecOn→rT
namespace Go.GV
open Go Go.GK Go.Proofs
noncomputable section
def B900(_:Nat):=si (exQ (f:=10) (F:=eJ 2000) (rs:=[.bool]) (B262 2000).ok xl)
abbrev Vj(_:Nat)(_:Unit):Option Bool:=Ac Bp
def kq(b:Nat)(a:Vl):Option Bool:=iB (!(Vl.sc a).1) (iB (!(Vl.sc a).2.1) (iB (!(Vl.sc a).2.2.1) (iF ((((Vl.sc a).2.2.2.1.1).length:Int)=0) (iF ((((Vl.sc a).2.2.2.1.2).length:Int)=0) (iF ((((Vl.sc a).2.2.2.2).length:Int)=0) (iF (((Vl.lists a).length:Int)=0) (Ac (Di (((Vl.structs a).length:Int)=0)))<|some Aj)<|some Aj)<|some Aj)<|some Aj)<|some Aj)<|some Aj)<|some Aj
def B263:=bQ [] Tryz.func117 [BD] [.bool] kq
def ko(g:Nat)(h:List (Int×Int)):Option (List (Int×Int)):=Ad g (λ(c:List (Int×Int)×Nat) f=>iF ((c.2:Int)<h.length) (Ab (idx h c.2) λd=>iF (d.2<d.1) (f (c.1,c.2+1))<|Ad g (λ(a:List (Int×Int)×Int×Int×Bool×Nat) e=>iF ((a.2.2.2.2:Int)<c.1.length) (Ab (idx c.1 a.2.2.2.2) λb=>Aa .i64 (b.2+1)<|iF (b.2+1<a.2.1) (Ag (EW a.1+1<=Ai)<|e ((a.1++[b]),a.2.1,a.2.2.1,a.2.2.2.1,a.2.2.2.2+1))<|Aa .i64 (a.2.2.1+1)<|iF (a.2.2.1+1<b.1) (iB (!a.2.2.2.1) (Ag (EW a.1+1<=Ai)<|Ag (EW (a.1++[(a.2.1,a.2.2.1)])+1<=Ai)<|e (((a.1++[(a.2.1,a.2.2.1)])++[b]),a.2.1,a.2.2.1,Bp,a.2.2.2.2+1))<|Ag (EW a.1+1<=Ai)<|e ((a.1++[b]),a.2.1,a.2.2.1,a.2.2.2.1,a.2.2.2.2+1))<|Aa .i64 (if b.1<a.2.1 then b.1 else a.2.1)<|Aa .i64 (if b.2>a.2.2.1 then b.2 else a.2.2.1)<|e (a.1,(if b.1<a.2.1 then b.1 else a.2.1),(if a.2.2.1<b.2 then b.2 else a.2.2.1),a.2.2.2.1,a.2.2.2.2+1))<|iB (!a.2.2.2.1) (Ag (EW a.1+1<=Ai)<|f ((a.1++[(a.2.1,a.2.2.1)]),c.2+1))<|f ((a.1,c.2+1))) (([],d.1,d.2,Aj,0)))<|some c.1) (([],0))
def zC:=bQ [] Tryz.func251 [BI] [BI] ko (la:=lk [(3,⟨[.Ae BI, .nat],[(3, .AH 0),(10, .Am),(11, .Am),(12, .AD 1 301)],[(0, .row 88 0)],1⟩),(9,⟨[.Ae BI, .Ae Ak, .Ae Ak, .Ae .bool, .nat],[(5, .Am),(6, .AH 2),(7, .v 3 .bool),(10, .Am),(11, .Am),(12, .Am),(21, .Am),(22, .Am),(23, .AD 4 904)],[(0, .c 0),(1, .Ah 88 [(1, .v 1 Ak),(1, .v 2 Ak)]),(2, .row 88 0)],3⟩)]) (pt:=lg [(2,[.own 3 88 Ew]),(8,[.own 6 88 Ew]),(25,[.fz 2])])
def kj(c:Nat)(d:Bc):Option (List (Int×Int)):=Ad c (λ(b:List (Int×Int)×Nat) e=>iF ((b.2:Int)<d.1.length) (Ab (idx d.1 b.2) λa=>Aa .i64 (if(-100000000000:Int)>a.1 then(-100000000000:Int)else a.1)<|Aa .i64 (if(100000000000:Int)<a.2 then(100000000000:Int)else a.2)<|Ag (EW b.1+1<=Ai)<|e ((b.1++[((if a.1<(-100000000000:Int)then(-100000000000:Int)else a.1),(if(100000000000:Int)<a.2 then(100000000000:Int)else a.2))]),b.2+1))<|Ab (ko c b.1) Ac) (([],0))
def zB:=bQ [zC] Tryz.func195 [Fb] [BI] kj (la:=lk [(3,⟨[.Ae BI, .nat],[(3, .AH 1),(7, .Am),(8, .Am),(9, .AD 1 301)],[(1, .row 88 0)],2⟩)]) (pr:=lg [(7,[.fz 3])]) (pt:=lg [(2,[.own 3 88 Ew])])
def Vi(b:Nat)(a:Int):Option Bool:=Ag ((10000:Int)≠0)<|Aa .i64 (jz a (10000:Int))<|some (Di ((jz a (10000:Int))=0))
def zA:=bQ [] Tryz.func239 [Ak] [.bool] Vi
def kg(c:Nat)(b:Int):Option Int:=Ag ((10000:Int)≠0)<|Aa .i64 (jl b (10000:Int))<|Ag ((10000:Int)≠0)<|Aa .i64 (jz b (10000:Int))<|iF (jz b (10000:Int)<0) (Aa .i64 (jl b (10000:Int)-1)<|some (((jl b (10000:Int))-1)))<|some (Int.rec (λa=>Int.ofNat (a/10000)) (λa=>Nat.rec (0:Int) (λn n_ih=>Int.negSucc n) (Nat.succ a/10000)) b)
def B267:=bQ [] Tryz.func292 [Ak] [Ak] kg
def LC(c:Nat)(b:Int):Option Int:=Ab (kg c b) λa=>Aa .i64 (a*9999)<|Aa .i64 (a*10000)<|Aa .i64 (b-a*10000)<|Aa .i64 (a*9999+(b-a*10000))<|Aa .i64 (a*9999+(b-a*10000)-1)<|some ((a*9999+(b-a*10000))-1)
def B268:=bQ [B267] Tryz.func252 [Ak] [Ak] LC
def kf(c:Nat)(e:Bc):Option (List (Int×Int)):=Ad c (λ(b:List (Int×Int)×Nat) d=>iF ((b.2:Int)<e.2.length) (Ab (idx e.2 b.2) λa=>Aa .i64 (if(-1000000000000000:Int)>a.1 then(-1000000000000000:Int)else a.1)<|Aa .i64 (if(1000000000000000:Int)<a.2 then(1000000000000000:Int)else a.2)<|iF ((if(1000000000000000:Int)<a.2 then(1000000000000000:Int)else a.2)<if(-1000000000000000:Int)>a.1 then(-1000000000000000:Int)else a.1) (d (b.1,b.2+1))<|Ab (Vi c ((if a.1<(-1000000000000000:Int)then(-1000000000000000:Int)else a.1))) λf=>iB f (Aa .i64 ((if(-1000000000000000:Int)>a.1 then(-1000000000000000:Int)else a.1)+1)<|Ab (Vi c ((if(1000000000000000:Int)<a.2 then(1000000000000000:Int)else a.2))) λg=>iB g (Aa .i64 ((if(1000000000000000:Int)<a.2 then(1000000000000000:Int)else a.2)-1)<|iF ((if(-1000000000000000:Int)>a.1 then(-1000000000000000:Int)else a.1)+1<=(if(1000000000000000:Int)<a.2 then(1000000000000000:Int)else a.2)-1) (Ab (LC c (((if(-1000000000000000:Int)>a.1 then(-1000000000000000:Int)else a.1)+1))) λh=>Ab (LC c (((if(1000000000000000:Int)<a.2 then(1000000000000000:Int)else a.2)-1))) λi=>Ag (EW b.1+1<=Ai)<|d ((b.1++[(h,i)]),b.2+1))<|d (b.1,b.2+1))<|iF ((if(-1000000000000000:Int)>a.1 then(-1000000000000000:Int)else a.1)+1<=if(1000000000000000:Int)<a.2 then(1000000000000000:Int)else a.2) (Ab (LC c (((if(-1000000000000000:Int)>a.1 then(-1000000000000000:Int)else a.1)+1))) λj=>Ab (LC c ((if(1000000000000000:Int)<a.2 then(1000000000000000:Int)else a.2))) λk=>Ag (EW b.1+1<=Ai)<|d ((b.1++[(j,k)]),b.2+1))<|d (b.1,b.2+1))<|Ab (Vi c ((if(1000000000000000:Int)<a.2 then(1000000000000000:Int)else a.2))) λl=>iB l (Aa .i64 ((if(1000000000000000:Int)<a.2 then(1000000000000000:Int)else a.2)-1)<|iF ((if(-1000000000000000:Int)>a.1 then(-1000000000000000:Int)else a.1)<=(if(1000000000000000:Int)<a.2 then(1000000000000000:Int)else a.2)-1) (Ab (LC c ((if a.1<(-1000000000000000:Int)then(-1000000000000000:Int)else a.1))) λm=>Ab (LC c (((if(1000000000000000:Int)<a.2 then(1000000000000000:Int)else a.2)-1))) λn=>Ag (EW b.1+1<=Ai)<|d ((b.1++[(m,n)]),b.2+1))<|d (b.1,b.2+1))<|iF ((if(-1000000000000000:Int)>a.1 then(-1000000000000000:Int)else a.1)<=if(1000000000000000:Int)<a.2 then(1000000000000000:Int)else a.2) (Ab (LC c ((if a.1<(-1000000000000000:Int)then(-1000000000000000:Int)else a.1))) λo=>Ab (LC c ((if(1000000000000000:Int)<a.2 then(1000000000000000:Int)else a.2))) λp=>Ag (EW b.1+1<=Ai)<|d ((b.1++[(o,p)]),b.2+1))<|d (b.1,b.2+1))<|Ab (ko c b.1) Ac) (([],0))
def zy:=bQ [zA,zC,B268] Tryz.func196 [Fb] [BI] kf (la:=lk [(3,⟨[.Ae BI, .nat],[(3, .AH 1),(9, .Am),(10, .Am),(11, .AD 1 301)],[(1, .row 88 0)],2⟩)]) (pr:=lg [(14,[.fz 3])]) (pt:=lg [(2,[.own 3 88 Ew])])
def kd(b:Nat)(a:Int):Option Int:=Ag ((9999:Int)≠0)<|Aa .i64 (jl a (9999:Int))<|Ag ((9999:Int)≠0)<|Aa .i64 (jz a (9999:Int))<|iF (jz a (9999:Int)<0) (Aa .i64 (jl a (9999:Int)-1)<|Aa .i64 ((jl a (9999:Int)-1)*10000)<|Aa .i64 ((jl a (9999:Int)-1)*9999)<|Aa .i64 (a-(jl a (9999:Int)-1)*9999)<|Aa .i64 ((jl a (9999:Int)-1)*10000+(a-(jl a (9999:Int)-1)*9999))<|Aa .i64 ((jl a (9999:Int)-1)*10000+(a-(jl a (9999:Int)-1)*9999)+1)<|some ((((jl a (9999:Int)-1)*10000+(a-(jl a (9999:Int)-1)*9999))+1)))<|Aa .i64 (jl a (9999:Int)*10000)<|Aa .i64 (jl a (9999:Int)*9999)<|Aa .i64 (a-jl a (9999:Int)*9999)<|Aa .i64 (jl a (9999:Int)*10000+(a-jl a (9999:Int)*9999))<|Aa .i64 (jl a (9999:Int)*10000+(a-jl a (9999:Int)*9999)+1)<|some ((jl a (9999:Int)*10000+(a-jl a (9999:Int)*9999))+1)
def B270:=bQ [] Tryz.func250 [Ak] [Ak] kd
def kc(b:Nat):(List (Int×Int))×List (Int×Int)->Option Bc|(e,c)=>Ad b (λ(a:List (Int×Int)×Nat) f=>iF ((a.2:Int)<c.length) (Ab (idx c a.2) λd=>Ab (kd b d.1) λg=>Ab (kd b d.2) λh=>Ag (EW a.1+1<=Ai)<|f ((a.1++[(g,h)]),a.2+1))<|some ((e,a.1))) (([],0))
def zx:=bQ [B270] Tryz.func194 [BI,BI] [Fb] kc (la:=lk [(3,⟨[.Ae BI, .nat],(kp [4,5,10,11] [(12, .AD 1 301)]),[(1, .Ah 24 [(1, .Am),(1, .AH 2)]),(0, .c 0),(2, .row 88 0)],3⟩)]) (pt:=lg [(2,[.Ey 5 1 88 Ew]),(7,[.M5 4 1])])
def Q3(a:Nat)(b:Bc):Option Bc:=Ab (kj a b) λc=>Ab (kf a b) λd=>Ab (kc a (c,d)) Ac
def lh:=bQ [zx,zB,zy] Tryz.func144 [Fb] [Fb] Q3
def j_(f:Nat):(List (Int×Int))×List (Int×Int)->Option Bool|(b,c)=>iF ((b.length:Int)≠c.length) (Ac Aj)<|Ad f (λ(a:Nat) g=>iF ((a:Int)<b.length) (Ab (idx b a) λd=>Ab (idx c a) λe=>iB (!decide (d.1::[d.2]=e.1::[e.2])) (Ac Aj)<|g (a+1))<|some Bp) (0)
def B273:=bQ [] Tryz.func193 [BI,BI] [.bool] j_ (la:=lk [(4,⟨[.nat],(kp [0,1,12] [(13, .AD 0 400)]),[],0⟩)])
def tg(a:Nat):Bc×Bc->Option Bool|(b,c)=>Ab (j_ a (b.1,c.1)) λd=>iB d (Ab (j_ a (b.2,c.2)) Ac)<|some Aj
def B274:=bQ [B273] Tryz.func143 [Fb,Fb] [.bool] tg
def tf(a:Nat)(b:Bc):Option Bool:=Ab (Q3 a b) λc=>Ab (tg a (b,c)) Ac
def B275:=bQ [B274,lh] Tryz.func105 [Fb] [.bool] tf
def N2(a:Nat)(b:FC):Option Bool:=Ab (tf a b.2.2.2.1) λc=>iB c (Ab (yn a b.2.2.2.2) Ac)<|some Aj
def ld:=bQ [B275,B21] Tryz.func75 [y8] [.bool] N2
def eI(d:Nat)(b:List (Aq×Int×AE)):Option Bool:=Ad d (λ(a:Nat) c=>iF ((a:Int)<b.length) (Ab (idx b a) λe=>iF (e.2.1≠1) (Ab (idx b a) λf=>iF (f.2.1≠2) (Ac Aj)<|iF ((0:Int)<a) (Aa .i64 ((a:Int)-1)<|Ab (idx b ((a:Int)-1)) λg=>Ab (idx b a) λh=>iB (!Go.Op.bytesLess g.1 h.1) (Ac Aj)<|c (a+1))<|c (a+1))<|iF ((0:Int)<a) (Aa .i64 ((a:Int)-1)<|Ab (idx b ((a:Int)-1)) λi=>Ab (idx b a) λj=>iB (!Go.Op.bytesLess i.1 j.1) (Ac Aj)<|c (a+1))<|c (a+1))<|some Bp) (0)
def B277:=bQ [] Tryz.func118 [Md] [.bool] eI (la:=lk [(2,⟨[.nat],[(0, .Am),(3, .AD 0 200)],[],0⟩)])
def td(c:Nat):List Int×List Int->Option Bool|(b,d)=>Ad c (λ(a:Nat) e=>iF ((a:Int)<b.length) (Ab (idx b a) λf=>Ab (idx d a) λg=>iF (f≠g) (Ac Aj)<|e (a+1))<|some Bp) (0)
def B278:=bQ [] Tryz.func281 [FU,FU] [.bool] td (la:=lk [(2,⟨[.nat],(kp [0,1] [(5, .AD 0 200)]),[],0⟩)])
def tc(b:Nat):List (List Int)×List Int->Option Bool|(c,d)=>Ad b (λ(a:Nat) e=>iF ((a:Int)<c.length) (Ab (idx c a) λf=>Ab (td b (f,d)) λg=>iB g (Ac Bp)<|e (a+1))<|some Aj) (0)
def B279:=bQ [B278] Tryz.func234 [Kf,FU] [.bool] tc (la:=lk [(2,⟨[.nat],(kp [0,1] [(5, .AD 0 200)]),[],0⟩)])
def ta(d:Nat)(g:List A5):Option Bool:=Ad d (λ(e:List Int×Nat) i=>iF ((e.2:Int)<g.length) (Ab (idx g e.2) λk=>iF ((k.length:Int)=0) (Ag (EW e.1+1<=Ai)<|i ((e.1++[(-1:Int)]),e.2+1))<|Ag (EW e.1+1<=Ai)<|i ((e.1++[(0:Int)]),e.2+1))<|Ad d (λ(c:List (List Int)×Nat) l=>iF ((c.2:Int)<c.1.length) (Ad d (λ(b:Int×Nat) h=>iF ((b.2:Int)<g.length) (Ab (idx c.1 c.2) λm=>Ab (idx m b.2) λn=>iF ((0:Int)<=n) (Ab (idx g b.2) λo=>Ab (idx c.1 c.2) λp=>Ab (idx p b.2) λq=>Ab (idx o q) λr=>iB r.1 (Aa .i64 (b.1+1)<|h ((b.1+1),b.2+1))<|h (b.1,b.2+1))<|h (b.1,b.2+1))<|iF (b.1≠1) (Ac Aj)<|Ad d (λ(a:List (List Int)×Int) j=>iF (a.2<256) (Ad d (λ(f:List Int×Nat) s=>iF ((f.2:Int)<g.length) (Ab (idx g f.2) λt=>Ab (idx a.1 c.2) λu=>Ab (idx u f.2) λv=>Aa .u8 a.2<|Ab (uI d (t,v,a.2)) λw=>Ag (EW f.1+1<=Ai)<|s ((f.1++[w]),f.2+1))<|Ab (tc d (a.1,f.1)) λx=>iB (!x) (Ag (EW a.1+1<=Ai)<|Ab (idx (a.1++[f.1]) (c.2:Int)) λy=>Ab (ob d (g,y,a.2)) λz=>j ((a.1++[f.1]),z))<|Ab (idx a.1 c.2) λA=>Ab (ob d (g,A,a.2)) λB=>j ((a.1,B))) (([],0)))<|l ((a.1,c.2+1))) ((c.1,0))) ((0,0)))<|some Bp) (([e.1],0))) (([],0))
def B280:=bQ [B14,B26,B279] Tryz.func175 [(.sl y3)] [.bool] ta (la:=lk [(3,⟨[.Ae Ei, .nat],[(0, .Am),(3, .AH 0),(4, .AD 1 301)],[(0, .row 3 0)],1⟩),(10,⟨[.Ae Kf, .nat],[(0, .Am),(5, .AH 1),(6, .AD 1 1001)],[(1, .row 158 0)],2⟩),(14,⟨[.Ae Ak, .nat],(kp [0,5,6] [(7, .v 0 Ak),(8, .AD 1 1401)]),[(1, .c 0)],2⟩),(21,⟨[.Ae Kf, .Ae Ak],[(0, .Am),(5, .AH 1),(6, .Am),(9, .v 1 Ak)],[(1, .row 158 0)],2⟩),(25,⟨[.Ae Ei, .nat],(kp [0,5,6,9] [(10, .AH 2),(11, .AD 1 2501)]),[(1, .c 0),(2, .row 3 0)],3⟩)]) (pr:=lg [(8,[.fz 3]),(29,[.fz 10])]) (pt:=lg [(2,[.own 3 3 Ak]),(24,[.own 10 3 Ak])])
def eH(c:Nat)(d:BC):Option Bool:=Ad c (λ(a:List A5×Nat) f=>iF ((a.2:Int)<d.2.length) (Ab (idx d.2 a.2) λe=>Ab (yn c e.1) λg=>iB (!g) (Ac Aj)<|iF ((e.1.length:Int)=0) (Ac Aj)<|Ag (EW a.1+1<=Ai)<|f ((a.1++[e.1]),a.2+1))<|Ad c (λ(b:List A5×Nat) h=>iF ((b.2:Int)<d.1.length) (Ab (idx d.1 b.2) λi=>Ab (F7 c i.1) λj=>Ag (EW b.1+1<=Ai)<|h ((b.1++[j]),b.2+1))<|Ab (ta c b.1) Ac) ((a.1,0))) (([],0))
def B281:=bQ [B7,B21,B280] Tryz.func119 [BQ] [.bool] eH (la:=lk [(3,⟨[.Ae (.sl y3), .nat],[(1, .Am),(3, .AH 1),(4, .AD 1 301)],[(0, .c 0),(1, .row 27 0)],2⟩),(10,⟨[.Ae (.sl y3), .nat],[(1, .Am),(3, .AH 1),(6, .AD 1 1001)],[(1, .row 27 0),(0, .c 0)],2⟩)]) (pt:=lg [(2,[.own 3 27 y3])])
def eG(b:Nat)(a:BP):Option (List AE):=Ag (0+EW a.1<=4294967296)<|Ag (EW ([]++a.1)+EW a.2<=4294967296)<|some (([]++a.1)++a.2)
def B282:=bQ [] Tryz.func176 [Cc] [Dq] eG (pt:=lg [(3,[.fz 2])])
def j9(d:Nat)(c:BC):Option (List AE):=Ad d (λ(a:List AE×Nat) e=>iF ((a.2:Int)<c.1.length) (Ab (idx c.1 a.2) λf=>Ag (EW a.1+1<=4294967296)<|e ((a.1++[f.2.2]),a.2+1))<|Ad d (λ(b:List AE×Nat) g=>iF ((b.2:Int)<c.2.length) (Ab (idx c.2 b.2) λh=>Ag (EW b.1+1<=4294967296)<|g ((b.1++[h.2]),b.2+1))<|some b.1) ((a.1,0))) (([],0))
def B283:=bQ [] Tryz.func177 [BQ] [Dq] j9 (la:=lk [(3,⟨[.Ae Dq, .nat],[(1, .Am),(3, .AH 1),(4, .AD 1 301)],[(0, .c 0),(1, .row 35 0)],2⟩),(7,⟨[.Ae Dq, .nat],[(1, .Am),(3, .AH 1),(5, .AD 1 701)],[(1, .row 35 0),(0, .c 0)],2⟩)]) (pt:=lg [(2,[.own 3 35 Bq]),(10,[.fz 2])])
def eF(c:Nat)(d:Vl):Option (List AE):=Ad c (λ(a:List AE×Nat) g=>iF ((a.2:Int)<(Vl.lists d).length) (Ab (idx (Vl.lists d) (a.2:Int)) λh=>Ab (eG c h) λe=>Ag (EW a.1+EW e<=4294967296)<|g ((a.1++e),a.2+1))<|Ad c (λ(b:List AE×Nat) i=>iF ((b.2:Int)<(Vl.structs d).length) (Ab (idx (Vl.structs d) (b.2:Int)) λj=>Ab (j9 c j) λf=>Ag (EW b.1+EW f<=4294967296)<|i ((b.1++f),b.2+1))<|some b.1) ((a.1,0))) (([],0))
def B284:=bQ [B282,B283] Tryz.func120 [BD] [Dq] eF (la:=lk [(3,⟨[.Ae Dq, .nat],[(1, .Am),(3, .AH 1),(4, .AD 1 301)],[(0, .c 0),(1, .row 35 0)],2⟩),(7,⟨[.Ae Dq, .nat],[(1, .Am),(3, .AH 1),(5, .AD 1 701)],[(1, .row 35 0),(0, .c 0)],2⟩)]) (pt:=lg [(2,[.own 3 35 Bq]),(10,[.fz 2])])
abbrev nZ:Type:=Gq 85 [BD,Ak] [.bool]
def xT(n:Nat):nZ:=Nat.rec (motive:=λ_=>nZ) (tQ Tryz.func85) (λfu g0=>sQ (De g0::bs [ld,B263,B277,B281,B284] fu) fu Tryz.func85 [BD,Ak] [.bool] (la:=lk [(4,⟨[.nat],(kp [1,2] [(5, .AD 0 400)]),[(0, .c 0)],1⟩),(9,⟨[.nat],(kp [1,2] [(6, .AD 0 900)]),[(0, .c 0)],1⟩),(15,⟨[.nat],(kp [1,7] [(8, .AD 0 1500)]),[],1⟩)])) n
def B285(fu:Nat):=De (xT fu)
abbrev N1(fu:Nat)(x:(Vl)×(Int)):Option Bool:=(xT fu).1 x
def D289(a:Nat)(b:Vl)(c:Int):Option Bool:=iF ((16:Int)<c) (Ac Aj)<|iB (Vl.any b) (Ab (kq a b) λl=>iB (!l) (Ac Aj)<|Ab (N2 a (Vl.sc b)) λm=>iB (!m) (Ac Aj)<|Ad a (λ(h:Nat) n=>iF ((h:Int)<(Vl.lists b).length) (Ab (idx (Vl.lists b) (h:Int)) λo=>iF ((1:Int)<o.2.length) (Ac Aj)<|n (h+1))<|Ad a (λ(d:Nat) p=>iF ((d:Int)<(Vl.structs b).length) (Ab (idx (Vl.structs b) (d:Int)) λq=>Ab (eI a q.1) λr=>iB (!r) (Ac Aj)<|Ab (idx (Vl.structs b) (d:Int)) λs=>Ab (eH a s) λt=>iB (!t) (Ac Aj)<|p (d+1))<|Ab (eF a b) λi=>Ad a (λ(e:Nat) u=>iF ((e:Int)<i.length) (Ab (idx i e) λv=>Aa .i64 (c+1)<|Ab (N1 a (v.1,(c+1))) λw=>iB (!w) (Ac Aj)<|Ab (idx i e) λx=>Aa .i64 (c+1)<|Ab (N1 a (x.2,(c+1))) λy=>iB (!y) (Ac Aj)<|u (e+1))<|some Bp) (0)) (0)) (0))<|Ab (N2 a (Vl.sc b)) λz=>iB (!z) (Ac Aj)<|Ad a (λ(j:Nat) A=>iF ((j:Int)<(Vl.lists b).length) (Ab (idx (Vl.lists b) (j:Int)) λB=>iF ((1:Int)<B.2.length) (Ac Aj)<|A (j+1))<|Ad a (λ(f:Nat) E=>iF ((f:Int)<(Vl.structs b).length) (Ab (idx (Vl.structs b) (f:Int)) λG=>Ab (eI a G.1) λH=>iB (!H) (Ac Aj)<|Ab (idx (Vl.structs b) (f:Int)) λI=>Ab (eH a I) λJ=>iB (!J) (Ac Aj)<|E (f+1))<|Ab (eF a b) λk=>Ad a (λ(g:Nat) K=>iF ((g:Int)<k.length) (Ab (idx k g) λL=>Aa .i64 (c+1)<|Ab (N1 a (L.1,(c+1))) λM=>iB (!M) (Ac Aj)<|Ab (idx k g) λO=>Aa .i64 (c+1)<|Ab (N1 a (O.2,(c+1))) λQ=>iB (!Q) (Ac Aj)<|K (g+1))<|some Bp) (0)) (0)) (0)
theorem d289(fu x0 x1):N1 (fu+1) (x0,x1)=D289 fu x0 x1:=by kernel_rfl
def TN(a:Nat)(b:Vl):Option Bool:=Ab (N1 a (b,1)) Ac
def zw:=bQ [B285] Tryz.func65 [BD] [.bool] TN
def Vh(a:Nat)(b:AE):Option Bool:=Ab (TN a b.1) λc=>iB c (Ab (TN a b.2) Ac)<|some Aj
def zu:=bQ [zw] Tryz.func39 [Bq] [.bool] Vh
def YP(b:Nat)(a:FC):Option FC:=Ab (N2 b a) λc=>iB (!c) (Ac ((Aj,Aj,Aj,([],[]),[])))<|some a
def zt:=bQ [ld] Tryz.func107 [y8] [y8] YP
def j8(b:Nat)(c:Bc):Option Bool:=Ab (Q3 b c) λa=>iF ((a.1.length:Int)=0) (Ac (Di ((a.2.length:Int)=0)))<|some Aj
def B289:=bQ [lh] Tryz.func108 [Fb] [.bool] j8
def YO(b:Nat)(c:FC):Option Bool:=Ab (YP b c) λa=>iB (!a.1) (iB (!a.2.1) (iB (!a.2.2.1) (Ab (j8 b a.2.2.2.1) λd=>iB d (Ac (Di ((a.2.2.2.2.length:Int)=0)))<|some Aj)<|some Aj)<|some Aj)<|some Aj
def u9:=bQ [zt,B289] Tryz.func76 [y8] [.bool] YO
def YN(b:Nat)(a:Vl):Option Bool:=iB (!Vl.any a) (Ab (N2 b (Vl.sc a)) λc=>iB (!c) (iF (((Vl.lists a).length:Int)=0) (Ac (Di (((Vl.structs a).length:Int)=0)))<|some Aj)<|Ab (YO b (Vl.sc a)) λd=>iB d (iF (((Vl.lists a).length:Int)=0) (Ac (Di (((Vl.structs a).length:Int)=0)))<|some Aj)<|some Aj)<|some Aj
def u7:=bQ [ld,u9] Tryz.func53 [BD] [.bool] YN
def YM(a:Nat)(b:Vl):Option Bool:=Ab (YN a b) Ac
def zr:=bQ [u7] Tryz.func126 [BD] [.bool] YM
def jX(b:Nat)(a:BP):Option Vl:=Ac (Vl.mk Aj (Aj,Aj,Aj,([],[]),[]) [a] [])
def B293:=bQ [] Tryz.func92 [Cc] [BD] jX (pt:=lg [(1,[.M5 2 7])])
def eA(c:Nat):Bool×Bool->Option Int|(a,b)=>iB (a==b) (Ac 0)<|iB a (Ac ((-1:Int)))<|some 1
def B294:=bQ [] Tryz.func121 [.bool, .bool] [Ak] eA
def j7(f:Nat):(List (Int×Int))×Int×Int->Option (List (Int×Int))|(c,g,d)=>Ad f (λ(a:List (Int×Int)×Int×Nat) e=>iF ((a.2.2:Int)<c.length) (Ab (idx c a.2.2) λb=>iF (a.2.1<b.1) (Aa .i64 (b.1-1)<|Ag (EW a.1+1<=Ai)<|Aa .i64 (b.2+1)<|e ((a.1++[(a.2.1,(b.1-1))]),(b.2+1),a.2.2+1))<|Aa .i64 (b.2+1)<|e (a.1,(b.2+1),a.2.2+1))<|iF (a.2.1<=d) (Ag (EW a.1+1<=Ai)<|some ((a.1++[(a.2.1,d)])))<|some a.1) (([],g,0))
def B295:=bQ [] Tryz.func282 [BI,Ak,Ak] [BI] j7 (la:=lk [(3,⟨[.Ae BI, .Ae Ak, .nat],[(1, .v 1 Ak),(2, .Am),(7, .AH 0),(10, .Am),(11, .Am),(12, .AD 2 302)],[(0, .row 88 0)],1⟩)]) (pt:=lg [(2,[.own 7 88 Ew]),(11,[.fz 6])])
def TM(a:Nat)(b:Bc):Option Bc:=Ab (kj a b) λc=>Ab (j7 a (c,(-100000000000:Int),100000000000)) λd=>Ab (kf a b) λe=>Ab (j7 a (e,(-999900000000000:Int),999899999999999)) λf=>Ab (kc a (d,f)) Ac
def zq:=bQ [zx,zB,zy,B295] Tryz.func237 [Fb] [Fb] TM
def j6(c:Nat):Bc×Bc->Option Bc|(a,b)=>Ag (0+EW a.1<=Ai)<|Ag (EW ([]++a.1)+EW b.1<=Ai)<|Ag (0+EW a.2<=Ai)<|Ag (EW ([]++a.2)+EW b.2<=Ai)<|Ab (Q3 c ((([]++a.1)++b.1),(([]++a.2)++b.2))) Ac
def zo:=bQ [lh] Tryz.func179 [Fb,Fb] [Fb] j6 (pr:=lg [(6,[.fz 16, .fz 28])])
def s_(a:Nat):Bc×Bc->Option Bc|(b,c)=>Ab (TM a b) λd=>Ab (TM a c) λe=>Ab (j6 a (d,e)) λf=>Ab (TM a f) Ac
def B298:=bQ [zo,zq] Tryz.func236 [Fb,Fb] [Fb] s_
def K0(a:Nat):Bc×Bc->Option Bc|(b,c)=>Ab (TM a c) λd=>Ab (s_ a (b,d)) Ac
def zm:=bQ [B298,zq] Tryz.func180 [Fb,Fb] [Fb] K0
def s7(c:Nat):Int×Int->Option Bool|(a,b)=>Aa .i64 ((0:Int)-a)<|Aa .i64 (if(0:Int)-a>a then(0:Int)-a else a)<|Aa .i64 ((0:Int)-b)<|Aa .i64 (if(0:Int)-b>b then(0:Int)-b else b)<|iF ((if(0:Int)-a>a then(0:Int)-a else a)<if(0:Int)-b>b then(0:Int)-b else b) (Ac Bp)<|iF ((if(0:Int)-a>a then(0:Int)-a else a)=if(0:Int)-b>b then(0:Int)-b else b) (Ac (Di (b<a)))<|some Aj
def B300:=bQ [] Tryz.func235 [Ak,Ak] [.bool] s7
def jW(f:Nat)(l:Bc):Option (Int×Bool):=Ab (Q3 f l) λg=>Ad f (λ(e:List Int×Nat) k=>iF ((e.2:Int)<g.1.length) (Ab (idx g.1 e.2) λc=>iF (c.1<=0) (iF ((0:Int)<=c.2) (Ac ((0,Bp)))<|Aa .i64 (c.1*10000)<|Aa .i64 (c.2*10000)<|Ag (EW e.1+2<=Ai)<|k ((e.1++[(c.1*10000),(c.2*10000)]),e.2+1))<|Aa .i64 (c.1*10000)<|Aa .i64 (c.2*10000)<|Ag (EW e.1+2<=Ai)<|k ((e.1++[(c.1*10000),(c.2*10000)]),e.2+1))<|Ad f (λ(a:List Int×Nat) h=>iF ((a.2:Int)<g.2.length) (Ab (idx g.2 a.2) λd=>Ag (EW a.1+2<=Ai)<|iF (d.1<0) (iF ((0:Int)<d.2) (Ag (EW (a.1++[d.1,d.2])+1<=Ai)<|h (((a.1++[d.1,d.2])++[(1:Int)]),a.2+1))<|h ((a.1++[d.1,d.2]),a.2+1))<|h ((a.1++[d.1,d.2]),a.2+1))<|Ad f (λ(b:Int×Bool×Nat) i=>iF ((b.2.2:Int)<a.1.length) (Ab (idx a.1 b.2.2) λj=>iB (!b.2.1) (i (j,Bp,b.2.2+1))<|Ab (s7 f (j,b.1)) λm=>iB m (i (j,Bp,b.2.2+1))<|i (b.1,b.2.1,b.2.2+1))<|some ((b.1,b.2.1))) ((0,Aj,0))) ((e.1,0))) (([],0))
def B301:=bQ [lh,B300] Tryz.func178 [Fb] [Ak, .bool] jW (la:=lk [(4,⟨[.Ae Ei, .nat],[(4, .Am),(5, .AH 2),(17, .Am),(18, .Am),(19, .AD 1 401)],[(1, .c 0),(2, .row 2 0)],3⟩),(11,⟨[.Ae Ei, .nat],[(5, .AH 2),(42, .Am),(43, .Am),(44, .AD 1 1101)],[(2, .row 2 0)],3⟩),(19,⟨[.Ae Ak, .Ae .bool, .nat],[(10, .v 0 Ak),(11, .v 1 .bool),(67, .Am),(68, .Am),(69, .AD 2 1902)],[(2, .c 0)],3⟩)]) (pt:=lg [(3,[.own 5 2 Ak])])
def jV(b:Nat)(a:Int):Option Bool:=iF ((-1000000000000000:Int)<=a) (Ac (Di (a<=1000000000000000)))<|some Aj
def B302:=bQ [] Tryz.func238 [Ak] [.bool] jV
def s6(b:Nat):Bc×Int->Option Bool|(c,a)=>Ab (jV b a) λj=>iB (!j) (Ac Aj)<|Ab (Vi b a) λk=>iB k (Ag ((10000:Int)≠0)<|Aa .i64 (jl a (10000:Int))<|Ad b (λ(d:Nat) f=>iF ((d:Int)<c.1.length) (Ab (idx c.1 d) λg=>iF (g.1<=jl a (10000:Int)) (iF (jl a (10000:Int)<=g.2) (Ac Bp)<|f (d+1))<|f (d+1))<|some Aj) (0))<|Ad b (λ(e:Nat) h=>iF ((e:Int)<c.2.length) (Ab (idx c.2 e) λi=>iF (i.1<=a) (iF (a<=i.2) (Ac Bp)<|h (e+1))<|h (e+1))<|some Aj) (0)
def B303:=bQ [B302,zA] Tryz.func181 [Fb,Ak] [.bool] s6 (la:=lk [(7,⟨[.nat],(kp [6,21,22] [(23, .AD 0 700)]),[],1⟩)])
def Vg(a:Nat):Bc×Bc->Option Int|(b,c)=>Ab (K0 a (b,c)) λe=>Ab (K0 a (c,b)) λf=>Ab (j6 a (e,f)) λg=>Ab (jW a g) λd=>iB (!d.2) (Ac 0)<|Ab (s6 a (b,d.1)) λh=>iB h (Ac ((-1:Int)))<|some 1
def B304:=bQ [B301,zo,zm,B303] Tryz.func122 [Fb,Fb] [Ak] Vg
def jU(h:Nat):A5×Int->Option (List (List Bool))|(f,e)=>Ag (EW f<=Ai)<|Ad h (λ(a:List (Bool×List Bool)×Nat) p=>iF ((a.2:Int)<f.length) (Aa .i64 (e+1)<|Ag ((0:Int)<=e+1)<|Ag (aC (e+1)<=Ai)<|Ag ((0:Int)<=a.2/\(a.2:Int)<a.1.length)<|Ag (aC (a.2:Int)<EW a.1)<|Ag ((0:Int)<=a.2/\(a.2:Int)<((lD a.1 a.2 (Bp,(Uh (aC (e+1)) Aj))).length:Int))<|Ab (idx (lD a.1 a.2 (Bp,(Uh (aC (e+1)) Aj))) (a.2:Int)) λq=>Ag (q.1=Bp)<|Ab (idx f a.2) λr=>Ab (idx (lD a.1 a.2 (Bp,(Uh (aC (e+1)) Aj))) (a.2:Int)) λk=>Ag (k.1=Bp/\(0:Int)<=0/\(0:Int)<k.2.length)<|Ab (idx (lD a.1 a.2 (Bp,(Uh (aC (e+1)) Aj))) (a.2:Int)) λi=>Ag (i.1=Bp/\aC (0:Int)<EW i.2)<|p (((lD a.1 a.2 (Bp,(Uh (aC (e+1)) Aj))).set a.2 (Bp,lD i.2 (aC (0:Int)) r.1)),a.2+1))<|Ad h (λ(c:List (Bool×List Bool)×Int) s=>iF (c.2<=e) (Ad h (λ(d:List (Bool×List Bool)×Nat) t=>iF ((d.2:Int)<f.length) (Ad h (λ(b:List (Bool×List Bool)×Nat) l=>Ab (idx f d.2) λu=>iF ((b.2:Int)<u.2.length) (Ab (idx f d.2) λv=>Ab (idx v.2 b.2) λg=>Ag ((0:Int)<=g.2.2/\g.2.2<(b.1.length:Int))<|Ab (idx b.1 (↑(aC g.2.2):Int)) λw=>Ag (w.1=Bp)<|Aa .i64 (c.2-1)<|Ab (idx b.1 (↑(aC g.2.2):Int)) λm=>Ag (m.1=Bp/\(0:Int)<=c.2-1/\c.2-1<m.2.length)<|Ab (idx b.1 (↑(aC g.2.2):Int)) λn=>Ag (n.1=Bp)<|Ab (idx n.2 (↑(aC (c.2-1)):Int)) λy=>iB y (Ag ((0:Int)<=d.2/\(d.2:Int)<b.1.length)<|Ab (idx b.1 d.2) λz=>Ag (z.1=Bp)<|Ab (idx b.1 d.2) λo=>Ag (o.1=Bp/\(0:Int)<=c.2/\c.2<(o.2.length:Int))<|Ab (idx b.1 d.2) λj=>Ag (j.1=Bp/\aC c.2<EW j.2)<|l ((b.1.set d.2 (Bp,lD j.2 (aC c.2) Bp)),b.2+1))<|l (b.1,b.2+1))<|t ((b.1,d.2+1))) ((d.1,0)))<|Aa .i64 (c.2+1)<|s ((d.1,(c.2+1)))) ((c.1,0)))<|Ag ((List.all c.1 λx=>x.1)=Bp)<|some ((List.map (λx=>x.2) c.1))) ((a.1,(1:Int)))) (((Uh (EW (Uh (EW f) ([]:List Bool))) (Aj,[])),0))
def B305:=bQ [] Tryz.func283 [y3,Ak] [vL] jU (la:=lk [(3,⟨[.Ae (.sl (.pr .bool El)), .nat],(kp [1,2,5] [(6, .AD 1 301)]),[(1, .Ck 75 4 3 0),(0, .c 0)],4⟩),(8,⟨[.Ae (.sl (.pr .bool El)), .Ae Ak],(kp [1,2,5] [(7, .v 1 Ak)]),[(1, .Ck 75 4 4 0),(0, .c 0)],5⟩),(11,⟨[.Ae (.sl (.pr .bool El)), .nat],(kp [1,2,5,7] [(8, .AD 1 1101)]),[(1, .Ck 75 4 5 0),(0, .c 0)],6⟩),(14,⟨[.Ae (.sl (.pr .bool El)), .nat],(kp [1,2,5,7,8] [(9, .AD 1 1401)]),[(1, .Ck 75 4 6 0),(0, .c 0)],7⟩)]) (pt:=lg [(1,[.fm 5 4]),(18,[.fz 4])])
abbrev nY:Type:=Gq 284 [y3,vL,Ak,Ak,Ak, .str] [Lt]
def xS(n:Nat):nY:=Nat.rec (motive:=λ_=>nY) (tQ Tryz.func284) (λfu g0=>sQ [De g0] fu Tryz.func284 [y3,vL,Ak,Ak,Ak, .str] [Lt] (la:=lk [(7,⟨[.Ae Lt, .nat],(kp [1,2,3,4,5,6] [(13, .AH 1),(14, .AD 1 701)]),[(0, .c 0),(1, .row 9 0)],2⟩),(11,⟨[.Ae Lt, .Ae Ak],(kp [1,2,3,4,5,6] [(13, .AH 1),(14, .Am),(15, .Am),(16, .v 1 Ak)]),[(2, .c 0),(1, .row 9 0),(0, .c 0)],3⟩)]) (pt:=lg [(4,[.fz 12]),(6,[.own 13 9 .str]),(14,[.fz 12])])) n
def B306(fu:Nat):=De (xS fu)
abbrev YJ(fu:Nat)(x:A5×(List (List Bool))×(Int)×(Int)×(Int)×Aq):Option (List Aq):=(xS fu).1 x
def yL(e:Nat)(f:A5)(j:List (List Bool))(g:Int)(d:Int)(c:Int)(h:Aq):Option (List Aq):=Ab (idx j g) λm=>Ab (idx m d) λn=>iB (!n) (Ac [])<|iF (c<=0) (Ac [])<|iF (d=0) (Ac ([h]))<|Ad e (λ(b:List Aq×Nat) k=>Ab (idx f g) λo=>iF ((b.2:Int)<o.2.length) (iF ((b.1.length:Int)<c) (Ab (idx f g) λp=>Ab (idx p.2 b.2) λi=>Ad e (λ(a:List Aq×Int) q=>iF (a.2<=i.2.1) (iF ((a.1.length:Int)<c) (Aa .i64 (d-1)<|Aa .i64 (c-(a.1.length:Int))<|Aa .u8 a.2<|Ag (EW h+EW (UInt8.ofNat (aC a.2)::[])<=1099511627776)<|Ab (YJ e (f,j,i.2.2,(d-1),(c-(a.1.length:Int)),(h++(UInt8.ofNat (aC a.2)::[])))) λl=>Ag (EW a.1+EW l<=Ai)<|Aa .i64 (a.2+1)<|q ((a.1++l),(a.2+1)))<|k (a.1,b.2+1))<|k ((a.1,b.2+1))) ((b.1,i.1)))<|some b.1)<|some b.1) (([],0))
theorem d322(fu x0 x1 x2 x3 x4 x5):YJ (fu+1) (x0,x1,x2,x3,x4,x5)=yL fu x0 x1 x2 x3 x4 x5:=by kernel_rfl
def jT(d:Nat):A5×Int->Option (List Aq)|(f,a)=>Ab (ym d f) λc=>iF ((c.length:Int)=0) (Ac [])<|Aa .i64 (if(1000:Int)<a then(1000:Int)else a)<|Aa .i64 ((c.length:Int)+1)<|Aa .i64 (if(0:Int)>if(1000:Int)<a then(1000:Int)else a then(0:Int)else if(1000:Int)<a then(1000:Int)else a)<|Aa .i64 ((if(0:Int)>if(1000:Int)<a then(1000:Int)else a then(0:Int)else if(1000:Int)<a then(1000:Int)else a)+1)<|Aa .i64 (((c.length:Int)+1)*((if(0:Int)>if(1000:Int)<a then(1000:Int)else a then(0:Int)else if(1000:Int)<a then(1000:Int)else a)+1))<|Ab (jU d (c,(((c.length:Int)+1)*((if(0:Int)>if(1000:Int)<a then(1000:Int)else a then(0:Int)else if(1000:Int)<a then(1000:Int)else a)+1)))) λg=>Ad d (λ(b:List Aq×Int) h=>iF (b.2<=((c.length:Int)+1)*((if(0:Int)>if(1000:Int)<a then(1000:Int)else a then(0:Int)else if(1000:Int)<a then(1000:Int)else a)+1)) (iF ((b.1.length:Int)<if(1000:Int)<a then(1000:Int)else a) (Aa .i64 ((if(1000:Int)<a then(1000:Int)else a)-(b.1.length:Int))<|Ab (YJ d (c,g,0,b.2,((if(1000:Int)<a then(1000:Int)else a)-(b.1.length:Int)),[])) λe=>Ag (EW b.1+EW e<=Ai)<|Aa .i64 (b.2+1)<|h ((b.1++e),(b.2+1)))<|some b.1)<|some b.1) (([],0))
def B307:=bQ [B22,B305,B306] Tryz.func240 [y3,Ak] [Lt] jT (la:=lk [(9,⟨[.Ae Lt, .Ae Ak],(kp [5,6,7,8] [(9, .AH 2),(10, .v 1 Ak)]),[(1, .c 0),(2, .row 9 0)],3⟩)]) (pt:=lg [(8,[.own 9 9 .str]),(12,[.fz 4])])
def YI(b:Nat)(c:A5):Option (Aq×Bool):=Ab (jT b (c,1)) λa=>iF ((a.length:Int)=0) (Ac (([],Aj)))<|Ab (idx a 0) λd=>Ac (d,Bp)
def zl:=bQ [B307] Tryz.func182 [y3] [.str, .bool] YI
def ew(c:Nat):Aq×Aq->Option Int|(a,b)=>iF ((a.length:Int)≠b.length) (iF ((a.length:Int)<b.length) (Ac ((-1:Int)))<|some 1)<|iB (gq a b) (Ac ((-1:Int)))<|iB (!(gq a b||decide (a=b))) (Ac 1)<|some 0
def B309:=bQ [] Tryz.func183 [.str, .str] [Ak] ew
def ep(a:Nat):A5×A5->Option Int|(d,e)=>Ab (Xc a (d,e)) λf=>Ab (YI a f) λb=>Ab (Xc a (e,d)) λg=>Ab (YI a g) λc=>iB (!b.2) (iB (!c.2) (Ac 0)<|iB b.2 (iB (!c.2) (Ac ((-1:Int)))<|Ab (ew a (b.1,c.1)) λh=>iF (h<0) (Ac ((-1:Int)))<|some 1)<|some 1)<|iB b.2 (iB (!c.2) (Ac ((-1:Int)))<|Ab (ew a (b.1,c.1)) λi=>iF (i<0) (Ac ((-1:Int)))<|some 1)<|some 1
def zk:=bQ [B30,zl,B309] Tryz.func123 [y3,y3] [Ak] ep
def YH(a:Nat):FC×FC->Option Int|(b,c)=>Ab (N2 a b) λf=>iB (!f) (Ac 0)<|Ab (N2 a c) λg=>iB (!g) (Ac 0)<|Ab (eA a (b.1,c.1)) λh=>Ab (eA a (b.2.1,c.2.1)) λi=>Ab (eA a (b.2.2.1,c.2.2.1)) λj=>Ab (Vg a (b.2.2.2.1,c.2.2.2.1)) λk=>Ab (ep a (b.2.2.2.2,c.2.2.2.2)) λl=>Ad a (λ(d:Nat) m=>iF ((d:Int)< ↑(5)) (Ab (idx [h,i,j,k,l] (d:Int)) λe=>iF (e≠0) (Ac e)<|m (d+1))<|some 0) (0)
def B311:=bQ [ld,B294,B304,zk] Tryz.func86 [y8,y8] [Ak] YH (la:=lk [(4,⟨[.nat],(kp [40,41] [(42, .AD 0 400)]),[(2, .c 0)],3⟩)])
def G6(c:Nat):Int×Int->Option Int|(a,b)=>iF (a<b) (Ac ((-1:Int)))<|iF (b<a) (Ac 1)<|some 0
def k_:=bQ [] Tryz.func88 [Ak,Ak] [Ak] G6
def jS(c:Nat):Aq×Aq->Option Int|(a,b)=>iB (gq a b) (Ac ((-1:Int)))<|iB (!(gq a b||decide (a=b))) (Ac 1)<|some 0
def B313:=bQ [] Tryz.func184 [.str, .str] [Ak] jS
abbrev nX:Type:=Gq 40 [Bq,Bq] [Ak]×Gq 87 [Cc,Cc] [Ak]×Gq 124 [ES,ES] [Ak]×Gq 125 [FV,FV] [Ak]×Gq 89 [BQ,BQ] [Ak]×Gq 66 [BD,BD] [Ak]
def TE(n:Nat):nX:=Nat.rec (motive:=λ_=>nX) (tQ Tryz.func40,tQ Tryz.func87,tQ Tryz.func124,tQ Tryz.func125,tQ Tryz.func89,tQ Tryz.func66) (λfu ⟨g0,g1,g2,g3,g4,g5⟩=>(sQ [De g5] fu Tryz.func40 [Bq,Bq] [Ak],sQ (De g0::bs [k_] fu) fu Tryz.func87 [Cc,Cc] [Ak] (la:=lk [(6,⟨[.nat],(kp [2,3] [(5, .AD 0 600)]),[(1, .c 0),(0, .c 0)],2⟩),(12,⟨[.nat],(kp [2,3] [(7, .AD 0 1200)]),[(1, .c 0),(0, .c 0)],2⟩)]),sQ (De g0::bs [k_,B313] fu) fu Tryz.func124 [ES,ES] [Ak],sQ (De g0::bs [zk] fu) fu Tryz.func125 [FV,FV] [Ak],sQ (De g2::De g3::bs [k_] fu) fu Tryz.func89 [BQ,BQ] [Ak] (la:=lk [(2,⟨[.nat],(kp [2,3] [(5, .AD 0 200)]),[(1, .c 0),(0, .c 0)],2⟩),(10,⟨[.nat],(kp [2,3] [(7, .AD 0 1000)]),[(1, .c 0),(0, .c 0)],2⟩)]),sQ (De g1::De g4::bs [B311,k_] fu) fu Tryz.func66 [BD,BD] [Ak] (la:=lk [(9,⟨[.nat],(kp [2,3] [(6, .AD 0 900)]),[(1, .c 0),(0, .c 0)],2⟩),(17,⟨[.nat],(kp [2,3] [(8, .AD 0 1700)]),[(1, .c 0),(0, .c 0)],2⟩)]))) n
def B314(fu:Nat):=De (TE fu).1
abbrev Q1(fu:Nat)(x:AE×AE):Option Int:=(TE fu).1.1 x
abbrev jR(fu:Nat)(x:BP×BP):Option Int:=(TE fu).2.1.1 x
abbrev jQ(fu:Nat)(x:(Aq×Int×AE)×(Aq×Int×AE)):Option Int:=(TE fu).2.2.1.1 x
abbrev eo(fu:Nat)(x:(A5×AE)×(A5×AE)):Option Int:=(TE fu).2.2.2.1.1 x
abbrev ej(fu:Nat)(x:BC×BC):Option Int:=(TE fu).2.2.2.2.1.1 x
def B319(fu:Nat):=De (TE fu).2.2.2.2.2
abbrev TH(fu:Nat)(x:(Vl)×(Vl)):Option Int:=(TE fu).2.2.2.2.2.1 x
def yK(a:Nat)(b:AE)(c:AE):Option Int:=Ab (TH a (b.1,c.1)) λd=>iF (d≠0) (Ac d)<|Ab (TH a (b.2,c.2)) Ac
theorem d330(fu x0 x1):Q1 (fu+1) (x0,x1)=yK fu x0 x1:=by kernel_rfl
def yH(b:Nat)(a:BP)(c:BP):Option Int:=iF ((a.1.length:Int)≠c.1.length) (Ab (G6 b ((a.1.length:Int),(c.1.length:Int))) Ac)<|iF ((a.2.length:Int)≠c.2.length) (Ab (G6 b ((c.2.length:Int),(a.2.length:Int))) Ac)<|Ad b (λ(d:Nat) j=>iF ((d:Int)<a.1.length) (Ab (idx a.1 d) λk=>Ab (idx c.1 d) λl=>Ab (Q1 b (k,l)) λf=>iF (f≠0) (Ac f)<|j (d+1))<|Ad b (λ(e:Nat) m=>iF ((e:Int)<a.2.length) (Ab (idx a.2 e) λn=>Ab (idx c.2 e) λo=>Ab (Q1 b (n,o)) λg=>iF (g≠0) (Ac g)<|m (e+1))<|some 0) (0)) (0)
theorem d331(fu x0 x1):jR (fu+1) (x0,x1)=yH fu x0 x1:=by kernel_rfl
def yG(a:Nat)(b:Aq×Int×AE)(c:Aq×Int×AE):Option Int:=Ab (jS a (b.1,c.1)) λd=>iF (d≠0) (Ac d)<|Ab (G6 a (b.2.1,c.2.1)) λe=>iF (e≠0) (Ac e)<|Ab (Q1 a (b.2.2,c.2.2)) Ac
theorem d332(fu x0 x1):jQ (fu+1) (x0,x1)=yG fu x0 x1:=by kernel_rfl
def yF(a:Nat)(b:A5×AE)(c:A5×AE):Option Int:=Ab (ep a (b.1,c.1)) λd=>iF (d≠0) (Ac d)<|Ab (Q1 a (b.2,c.2)) Ac
theorem d333(fu x0 x1):eo (fu+1) (x0,x1)=yF fu x0 x1:=by kernel_rfl
def yE(c:Nat)(a:BC)(b:BC):Option Int:=Ad c (λ(d:Nat) j=>iF ((d:Int)<a.1.length) (iF ((d:Int)<b.1.length) (Ab (idx a.1 d) λk=>Ab (idx b.1 d) λl=>Ab (jQ c (k,l)) λg=>iF (g≠0) (Ac g)<|j (d+1))<|iF ((a.1.length:Int)≠b.1.length) (Ab (G6 c ((a.1.length:Int),(b.1.length:Int))) Ac)<|Ad c (λ(e:Nat) n=>iF ((e:Int)<a.2.length) (iF ((e:Int)<b.2.length) (Ab (idx a.2 e) λo=>Ab (idx b.2 e) λp=>Ab (eo c (o,p)) λh=>iF (h≠0) (Ac h)<|n (e+1))<|Ab (G6 c ((a.2.length:Int),(b.2.length:Int))) Ac)<|Ab (G6 c ((a.2.length:Int),(b.2.length:Int))) Ac) (0))<|iF ((a.1.length:Int)≠b.1.length) (Ab (G6 c ((a.1.length:Int),(b.1.length:Int))) Ac)<|Ad c (λ(f:Nat) t=>iF ((f:Int)<a.2.length) (iF ((f:Int)<b.2.length) (Ab (idx a.2 f) λu=>Ab (idx b.2 f) λv=>Ab (eo c (u,v)) λi=>iF (i≠0) (Ac i)<|t (f+1))<|Ab (G6 c ((a.2.length:Int),(b.2.length:Int))) Ac)<|Ab (G6 c ((a.2.length:Int),(b.2.length:Int))) Ac) (0)) (0)
theorem d334(fu x0 x1):ej (fu+1) (x0,x1)=yE fu x0 x1:=by kernel_rfl
def yD(c:Nat)(a:Vl)(b:Vl):Option Int:=iB (!Vl.any a==Vl.any b) (iB (Vl.any a) (Ac ((-1:Int)))<|some 1)<|Ab (YH c (Vl.sc a,Vl.sc b)) λg=>iF (g≠0) (Ac g)<|Ad c (λ(d:Nat) k=>iF ((d:Int)<(Vl.lists a).length) (iF ((d:Int)<(Vl.lists b).length) (Ab (idx (Vl.lists a) (d:Int)) λl=>Ab (idx (Vl.lists b) (d:Int)) λm=>Ab (jR c (l,m)) λh=>iF (h≠0) (Ac h)<|k (d+1))<|iF (((Vl.lists a).length:Int)≠((Vl.lists b).length:Int)) (Ab (G6 c (((Vl.lists a).length:Int),((Vl.lists b).length:Int))) Ac)<|Ad c (λ(e:Nat) o=>iF ((e:Int)<(Vl.structs a).length) (iF ((e:Int)<(Vl.structs b).length) (Ab (idx (Vl.structs a) (e:Int)) λp=>Ab (idx (Vl.structs b) (e:Int)) λq=>Ab (ej c (p,q)) λi=>iF (i≠0) (Ac i)<|o (e+1))<|Ab (G6 c (((Vl.structs a).length:Int),((Vl.structs b).length:Int))) Ac)<|Ab (G6 c (((Vl.structs a).length:Int),((Vl.structs b).length:Int))) Ac) (0))<|iF (((Vl.lists a).length:Int)≠((Vl.lists b).length:Int)) (Ab (G6 c (((Vl.lists a).length:Int),((Vl.lists b).length:Int))) Ac)<|Ad c (λ(f:Nat) u=>iF ((f:Int)<(Vl.structs a).length) (iF ((f:Int)<(Vl.structs b).length) (Ab (idx (Vl.structs a) (f:Int)) λv=>Ab (idx (Vl.structs b) (f:Int)) λw=>Ab (ej c (v,w)) λj=>iF (j≠0) (Ac j)<|u (f+1))<|Ab (G6 c (((Vl.structs a).length:Int),((Vl.structs b).length:Int))) Ac)<|Ab (G6 c (((Vl.structs a).length:Int),((Vl.structs b).length:Int))) Ac) (0)) (0)
theorem d335(fu x0 x1):TH (fu+1) (x0,x1)=yD fu x0 x1:=by kernel_rfl
def Vf(a:Nat):Vl×Vl->Option Int|(b,c)=>Ab (TN a b) λd=>iB (!d) (Ac 0)<|Ab (TN a c) λe=>iB (!e) (Ac 0)<|Ab (TH a (b,c)) Ac
def B320:=bQ [zw,B319] Tryz.func91 [BD,BD] [Ak] Vf
def YK(e:Nat):BP×Int->Option (AE×Bool)|(a,b)=>iF (b<0) (Ac (((Vl.mk Aj (Aj,Aj,Aj,([],[]),[]) [] [],Vl.mk Aj (Aj,Aj,Aj,([],[]),[]) [] []),Aj)))<|iF (b<(a.1.length:Int)) (Ab (idx a.1 b) λc=>Ac ((c,Bp)))<|iF ((0:Int)<a.2.length) (Ab (idx a.2 0) λd=>Ac ((d,Bp)))<|some ((Vl.mk Aj (Aj,Aj,Aj,([],[]),[]) [] [],Vl.mk Aj (Aj,Aj,Aj,([],[]),[]) [] []),Aj)
def B321:=bQ [] Tryz.func127 [Cc,Ak] [Bq, .bool] YK
def jZ(c:Nat):FC×FC->Option FC|(d,e)=>Ab (YP c d) λb=>Ab (YP c e) λa=>iB b.1 (iB b.2.1 (iB b.2.2.1 (Ab (K0 c (b.2.2.2.1,a.2.2.2.1)) λf=>Ab (Xc c (b.2.2.2.2,a.2.2.2.2)) λg=>Ac (((!a.1),(!a.2.1),(!a.2.2.1),f,g)))<|Ab (K0 c (b.2.2.2.1,a.2.2.2.1)) λh=>Ab (Xc c (b.2.2.2.2,a.2.2.2.2)) λi=>Ac (((!a.1),(!a.2.1),Aj,h,i)))<|iB b.2.2.1 (Ab (K0 c (b.2.2.2.1,a.2.2.2.1)) λj=>Ab (Xc c (b.2.2.2.2,a.2.2.2.2)) λk=>Ac (((!a.1),Aj,(!a.2.2.1),j,k)))<|Ab (K0 c (b.2.2.2.1,a.2.2.2.1)) λl=>Ab (Xc c (b.2.2.2.2,a.2.2.2.2)) λm=>Ac (((!a.1),Aj,Aj,l,m)))<|iB b.2.1 (iB b.2.2.1 (Ab (K0 c (b.2.2.2.1,a.2.2.2.1)) λn=>Ab (Xc c (b.2.2.2.2,a.2.2.2.2)) λo=>Ac ((Aj,(!a.2.1),(!a.2.2.1),n,o)))<|Ab (K0 c (b.2.2.2.1,a.2.2.2.1)) λp=>Ab (Xc c (b.2.2.2.2,a.2.2.2.2)) λq=>Ac ((Aj,(!a.2.1),Aj,p,q)))<|iB b.2.2.1 (Ab (K0 c (b.2.2.2.1,a.2.2.2.1)) λr=>Ab (Xc c (b.2.2.2.2,a.2.2.2.2)) λs=>Ac ((Aj,Aj,(!a.2.2.1),r,s)))<|Ab (K0 c (b.2.2.2.1,a.2.2.2.1)) λt=>Ab (Xc c (b.2.2.2.2,a.2.2.2.2)) λu=>Ac (Aj,Aj,Aj,t,u)
def B322:=bQ [B30,zt,zm] Tryz.func136 [y8,y8] [y8] jZ
def eE(a:Nat):FC×FC->Option Bool|(b,c)=>Ab (jZ a (b,c)) λd=>Ab (YO a d) Ac
def zj:=bQ [u9,B322] Tryz.func98 [y8,y8] [.bool] eE
def eD(c:Nat):A5×Aq->Option Bool|(b,d)=>Ab (F9 c b) λe=>iB (!e) (Ac Aj)<|iF ((b.length:Int)=0) (Ac Aj)<|Ad c (λ(a:Int×Int) f=>iF (a.2<(d.length:Int)) (Ab (Ez d a.2) λg=>Ab (uI c (b,a.1,g)) λh=>Aa .i64 (a.2+1)<|f (h,(a.2+1)))<|iF ((0:Int)<=a.1) (Ab (idx b a.1) λi=>Ac i.1)<|some Aj) ((0,0))
def B324:=bQ [B9,B14] Tryz.func74 [y3, .str] [.bool] eD (la:=lk [(5,⟨[.Ae Ak, .Ae Ak],(kp [1,2] [(5, .v 0 Ak),(6, .v 1 Ak)]),[(0, .c 0)],1⟩)])
def eC(d:Nat):BC×Aq->Option (AE×Int)|(a,e)=>Ad d (λ(b:Nat) f=>iF ((b:Int)<a.1.length) (Ab (idx a.1 b) λg=>iF (g.1=e) (Ab (idx a.1 b) λh=>Ab (idx a.1 b) λi=>Ac ((h.2.2,i.2.1)))<|f (b+1))<|Ad d (λ(c:Nat) j=>iF ((c:Int)<a.2.length) (Ab (idx a.2 c) λk=>Ab (eD d (k.1,e)) λl=>iB l (Ab (idx a.2 c) λm=>Ac ((m.2,3)))<|j (c+1))<|some (((Vl.mk Aj (Aj,Aj,Aj,([],[]),[]) [] [],Vl.mk Aj (Aj,Aj,Aj,([],[]),[]) [] []),3))) (0)) (0)
def B325:=bQ [B324] Tryz.func52 [BQ, .str] [Bq,Ak] eC (la:=lk [(2,⟨[.nat],(kp [1,2,4] [(6, .AD 0 200)]),[(1, .c 0),(0, .c 0)],2⟩),(7,⟨[.nat],(kp [1,2,4] [(7, .AD 0 700)]),[(1, .c 0),(0, .c 0)],2⟩)])
def jY(a:Nat):A5×A5->Option A5|(b,c)=>Ab (F29 a (b,c,38)) Ac
def B326:=bQ [B29] Tryz.func133 [y3,y3] [y3] jY
def s9(b:Nat)(a:A5):Option Bool:=Ac (Di ((a.length:Int)=0))
def B327:=bQ [] Tryz.func132 [y3] [.bool] s9
abbrev nW:Type:=Gq 131 [BQ,BQ, .str] [.bool]×Gq 96 [BQ,BQ] [.bool]×Gq 70 [BD,BD] [.bool]×Gq 128 [Bq,Bq] [.bool]×Gq 93 [Cc,Cc] [.bool]
def TD(n:Nat):nW:=Nat.rec (motive:=λ_=>nW) (tQ Tryz.func131,tQ Tryz.func96,tQ Tryz.func70,tQ Tryz.func128,tQ Tryz.func93) (λfu ⟨g0,g1,g2,g3,g4⟩=>(sQ (De g3::bs [B325] fu) fu Tryz.func131 [BQ,BQ, .str] [.bool],sQ (De g3::De g0::bs [B327,B326] fu) fu Tryz.func96 [BQ,BQ] [.bool] (la:=lk [(2,⟨[.nat],(kp [2,3] [(5, .AD 0 200)]),[(1, .c 0),(0, .c 0)],2⟩),(7,⟨[.nat],(kp [2,3] [(6, .AD 0 700)]),[(1, .c 0),(0, .c 0)],2⟩),(12,⟨[.nat],(kp [2,3] [(7, .AD 0 1200)]),[(1, .c 0),(0, .c 0)],2⟩),(15,⟨[.nat],(kp [2,3,7] [(8, .AD 0 1500)]),[(1, .c 0),(0, .c 0)],2⟩)]),sQ (De g4::De g1::bs [zj] fu) fu Tryz.func70 [BD,BD] [.bool] (la:=lk [(6,⟨[.nat],(kp [2,3] [(5, .AD 0 600)]),[(1, .c 0),(0, .c 0)],2⟩),(10,⟨[.Ae .bool, .nat],(kp [2,3,5] [(6, .v 0 .bool),(7, .AD 1 1001)]),[(1, .c 0),(0, .c 0)],2⟩),(16,⟨[.nat],(kp [2,3] [(8, .AD 0 1600)]),[(1, .c 0),(0, .c 0)],2⟩),(20,⟨[.Ae .bool, .nat],(kp [2,3,8] [(9, .v 0 .bool),(10, .AD 1 2001)]),[(1, .c 0),(0, .c 0)],2⟩)]),sQ [De g2] fu Tryz.func128 [Bq,Bq] [.bool],sQ (De g3::bs [B321] fu) fu Tryz.func93 [Cc,Cc] [.bool] (la:=lk [(4,⟨[.nat],(kp [2,3] [(5, .AD 0 400)]),[(1, .c 0),(0, .c 0)],2⟩)]))) n
abbrev eB(fu:Nat)(x:BC×BC×Aq):Option Bool:=(TD fu).1.1 x
def B329(fu:Nat):=De (TD fu).2.1
abbrev TK(fu:Nat)(x:BC×BC):Option Bool:=(TD fu).2.1.1 x
def B330(fu:Nat):=De (TD fu).2.2.1
abbrev TJ(fu:Nat)(x:(Vl)×(Vl)):Option Bool:=(TD fu).2.2.1.1 x
abbrev NG(fu:Nat)(x:AE×AE):Option Bool:=(TD fu).2.2.2.1.1 x
def B332(fu:Nat):=De (TD fu).2.2.2.2
abbrev TL(fu:Nat)(x:BP×BP):Option Bool:=(TD fu).2.2.2.2.1 x
def yO(a:Nat)(e:BC)(f:BC)(b:Aq):Option Bool:=Ab (eC a (e,b)) λc=>Ab (eC a (f,b)) λd=>iF (c.2<=d.2) (Ab (NG a (c.1,d.1)) Ac)<|some Aj
theorem d311(fu x0 x1 x2):eB (fu+1) (x0,x1,x2)=yO fu x0 x1 x2:=by kernel_rfl
def yN(a:Nat)(b:BC)(c:BC):Option Bool:=Ad a (λ(f:Nat) i=>iF ((f:Int)<b.1.length) (Ab (idx b.1 f) λj=>Ab (eB a (b,c,j.1)) λk=>iB (!k) (Ac Aj)<|i (f+1))<|Ad a (λ(g:Nat) l=>iF ((g:Int)<c.1.length) (Ab (idx c.1 g) λm=>Ab (eB a (b,c,m.1)) λn=>iB (!n) (Ac Aj)<|l (g+1))<|Ad a (λ(e:Nat) o=>iF ((e:Int)<b.2.length) (Ad a (λ(d:Nat) h=>iF ((d:Int)<c.2.length) (Ab (idx b.2 e) λp=>Ab (idx c.2 d) λq=>Ab (jY a (p.1,q.1)) λr=>Ab (s9 a r) λs=>iB (!s) (Ab (idx b.2 e) λt=>Ab (idx c.2 d) λu=>Ab (NG a (t.2,u.2)) λv=>iB (!v) (Ac Aj)<|h (d+1))<|h (d+1))<|o (e+1)) (0))<|some Bp) (0)) (0)) (0)
theorem d312(fu x0 x1):TK (fu+1) (x0,x1)=yN fu x0 x1:=by kernel_rfl
def yM(b:Nat)(c:Vl)(a:Vl):Option Bool:=iB (Vl.any c) (Ac (Vl.any a))<|iB (Vl.any a) (Ac (Vl.any a))<|Ab (eE b (Vl.sc c,Vl.sc a)) λj=>iB (!j) (Ac Aj)<|Ad b (λ(f:Nat) h=>iF ((f:Int)<(Vl.lists c).length) (Ad b (λ(d:Bool×Nat) k=>iF ((d.2:Int)<(Vl.lists a).length) (iB (!d.1) (Ab (idx (Vl.lists c) (f:Int)) λl=>Ab (idx (Vl.lists a) (d.2:Int)) λm=>Ab (TL b (l,m)) λn=>k (n,d.2+1))<|iB (!d.1) (Ac Aj)<|h (f+1))<|iB (!d.1) (Ac Aj)<|h (f+1)) ((Aj,0)))<|Ad b (λ(g:Nat) i=>iF ((g:Int)<(Vl.structs c).length) (Ad b (λ(e:Bool×Nat) o=>iF ((e.2:Int)<(Vl.structs a).length) (iB (!e.1) (Ab (idx (Vl.structs c) (g:Int)) λp=>Ab (idx (Vl.structs a) (e.2:Int)) λq=>Ab (TK b (p,q)) λr=>o (r,e.2+1))<|iB (!e.1) (Ac Aj)<|i (g+1))<|iB (!e.1) (Ac Aj)<|i (g+1)) ((Aj,0)))<|some Bp) (0)) (0)
theorem d313(fu x0 x1):TJ (fu+1) (x0,x1)=yM fu x0 x1:=by kernel_rfl
def yQ(a:Nat)(b:AE)(c:AE):Option Bool:=Ab (TJ a (b.1,c.1)) λd=>iB d (Ab (TJ a (b.2,c.2)) Ac)<|some Aj
theorem d309(fu x0 x1):NG (fu+1) (x0,x1)=yQ fu x0 x1:=by kernel_rfl
def yP(b:Nat)(a:BP)(c:BP):Option Bool:=iF ((a.1.length:Int)<c.1.length) (Ac Aj)<|iF ((c.2.length:Int)=0) (iF ((c.1.length:Int)<a.1.length) (Ac Aj)<|iF ((0:Int)<a.2.length) (Ac Aj)<|Ad b (λ(d:Nat) f=>iF ((d:Int)<a.1.length) (Ab (YK b (c,(d:Int))) λg=>Ab (idx a.1 d) λh=>Ab (NG b (h,g.1)) λi=>iB (!i) (Ac Aj)<|f (d+1))<|iF ((a.2.length:Int)=0) (Ac Bp)<|Ab (idx a.2 0) λj=>Ab (idx c.2 0) λk=>Ab (NG b (j,k)) Ac) (0))<|Ad b (λ(e:Nat) m=>iF ((e:Int)<a.1.length) (Ab (YK b (c,(e:Int))) λn=>Ab (idx a.1 e) λo=>Ab (NG b (o,n.1)) λp=>iB (!p) (Ac Aj)<|m (e+1))<|iF ((a.2.length:Int)=0) (Ac Bp)<|Ab (idx a.2 0) λq=>Ab (idx c.2 0) λr=>Ab (NG b (q,r)) Ac) (0)
theorem d310(fu x0 x1):TL (fu+1) (x0,x1)=yP fu x0 x1:=by kernel_rfl
def Ve(a:Nat)(b:A5):Option Aq:=Ab (YI a b) λc=>Ac c.1
def B333:=bQ [zl] Tryz.func130 [y3] [.str] Ve
def eh(c:Nat):Aq×Aq->Option Bool|(a,b)=>iF ((a.length:Int)<b.length) (Ac Bp)<|iF ((a.length:Int)=b.length) (Ac ((Op.bytesLess a b)))<|some Aj
def B334:=bQ [] Tryz.func129 [.str, .str] [.bool] eh
def TG(a:Nat):AE×AE->Option Bool|(b,c)=>Ab (Vh a b) λd=>iB d (Ab (Vh a c) λe=>iB e (Ab (Q1 a (b,c)) λf=>Ac (Di (f=0)))<|some Aj)<|some Aj
def zi:=bQ [zu,B314] Tryz.func13 [Bq,Bq] [.bool] TG
def jP(b:Nat)(a:BC):Option Vl:=Ac (Vl.mk Aj (Aj,Aj,Aj,([],[]),[]) [] [a])
def B336:=bQ [] Tryz.func95 [BQ] [BD] jP (pt:=lg [(1,[.M5 2 8])])
def yb(a:Nat)(_:Unit):Option Bc:=Ac ([((-100000000000:Int),100000000000)],[((-999999999999999:Int),999999999999999)])
def B337:=bQ [] Tryz.func185 [] [Fb] yb (pt:=lg [(1,[.M5 0 0, .M5 0 1])])
def jO(a:Nat)(_:Unit):Option FC:=Ab (yb a ()) λb=>Ab (F8 a ()) λc=>Ac (Bp,Bp,Bp,b,c)
def B338:=bQ [B8,B337] Tryz.func134 [] [y8] jO
def eg(b:Nat)(a:AE):Option Bool:=iB (Vl.any a.1) (Ac (Vl.any a.2))<|some Aj
def B339:=bQ [] Tryz.func135 [Bq] [.bool] eg
def jN(b:Nat)(a:Vl):Option Bool:=iB (Vl.any a) (Ac Aj)<|iF (((Vl.lists a).length:Int)≠1) (Ac Aj)<|iF (((Vl.structs a).length:Int)≠1) (Ac Aj)<|Ab (jO b ()) λe=>Ab (eE b (e,Vl.sc a)) λf=>iB (!f) (Ac Aj)<|Ab (idx (Vl.lists a) (0:Int)) λc=>Ab (idx (Vl.structs a) (0:Int)) λd=>iF ((0:Int)<c.1.length) (Ac Aj)<|iF ((c.2.length:Int)≠1) (Ac Aj)<|iF ((0:Int)<d.1.length) (Ac Aj)<|iF ((d.2.length:Int)≠1) (Ac Aj)<|Ab (idx c.2 0) λg=>Ab (eg b g) λh=>iB h (Ab (idx d.2 0) λi=>Ab (eg b i.2) Ac)<|some Aj
def B340:=bQ [zj,B338,B339] Tryz.func97 [BD] [.bool] jN
abbrev nU:Type:=Gq 90 [Cc] [.bool]×Gq 94 [BQ] [.bool]×Gq 69 [BD] [.bool]×Gq 47 [Bq] [.bool]
def dU(n:Nat):nU:=Nat.rec (motive:=λ_=>nU) (tQ Tryz.func90,tQ Tryz.func94,tQ Tryz.func69,tQ Tryz.func47) (λfu ⟨g0,g1,g2,g3⟩=>(sQ (De g3::bs [zr] fu) fu Tryz.func90 [Cc] [.bool] (la:=lk [(2,⟨[.nat],[(1, .Am),(3, .AD 0 200)],[(0, .c 0)],1⟩)]),sQ (De g3::bs [zi,zr,B334,B333] fu) fu Tryz.func94 [BQ] [.bool] (la:=lk [(2,⟨[.nat],[(1, .Am),(3, .AD 0 200)],[(0, .c 0)],1⟩),(7,⟨[.nat],[(1, .Am),(4, .AD 0 700)],[(0, .c 0)],1⟩),(12,⟨[.Ae Ak],(kp [1,4] [(5, .v 0 Ak)]),[(0, .c 0)],1⟩)]),sQ (De g0::De g1::bs [B320,B293,B332,B336,B329,B340] fu) fu Tryz.func69 [BD] [.bool] (la:=lk [(2,⟨[.nat],[(1, .Am),(3, .AD 0 200)],[(0, .c 0)],1⟩),(7,⟨[.nat],(kp [1,3] [(4, .AD 0 700)]),[(0, .c 0)],1⟩),(12,⟨[.nat],[(1, .Am),(5, .AD 0 1200)],[(0, .c 0)],1⟩),(17,⟨[.nat],(kp [1,5] [(6, .AD 0 1700)]),[(0, .c 0)],1⟩)]),sQ (De g2::bs [B330] fu) fu Tryz.func47 [Bq] [.bool])) n
abbrev eb(fu:Nat)(x:BP):Option Bool:=(dU fu).1.1 x
abbrev d_(fu:Nat)(x:BC):Option Bool:=(dU fu).2.1.1 x
abbrev TF(fu:Nat)(x:(Vl)):Option Bool:=(dU fu).2.2.1.1 x
def B344(fu:Nat):=De (dU fu).2.2.2
abbrev Q0(fu:Nat)(x:AE):Option Bool:=(dU fu).2.2.2.1 x
def yB(b:Nat)(a:BP):Option Bool:=Ad b (λ(c:Nat) d=>iF ((c:Int)<a.1.length) (Ab (idx a.1 c) λe=>Ab (YM b e.1) λf=>iB f (Ac Aj)<|Ab (idx a.1 c) λg=>Ab (Q0 b g) λh=>iB (!h) (Ac Aj)<|d (c+1))<|iF ((a.2.length:Int)=0) (Ac Bp)<|Ab (idx a.2 0) λi=>Ab (YM b i.1) λj=>iB (!j) (Ab (idx a.2 0) λk=>Ab (Q0 b k) Ac)<|some Aj) (0)
theorem d346(fu x0):eb (fu+1) x0=yB fu x0:=by kernel_rfl
def yA(a:Nat)(c:BC):Option Bool:=Ad a (λ(d:Nat) h=>iF ((d:Int)<c.1.length) (Ab (idx c.1 d) λi=>Ab (YM a i.2.2.1) λj=>iB j (Ac Aj)<|Ab (idx c.1 d) λk=>Ab (Q0 a k.2.2) λl=>iB (!l) (Ac Aj)<|h (d+1))<|Ad a (λ(b:Nat) g=>iF ((b:Int)<c.2.length) (Ab (idx c.2 b) λm=>Ab (Q0 a m.2) λn=>iB (!n) (Ac Aj)<|iF ((0:Int)<b) (Aa .i64 ((b:Int)-1)<|Ab (idx c.2 ((b:Int)-1)) λo=>Ab (Ve a o.1) λp=>Ab (idx c.2 b) λq=>Ab (Ve a q.1) λr=>Ab (eh a (p,r)) λs=>iB (!s) (Ac Aj)<|Ad a (λ(e:Int) t=>iF (e<(b:Int)) (Ab (idx c.2 b) λu=>Ab (idx c.2 e) λv=>Ab (TG a (u.2,v.2)) λw=>iB w (Ac Aj)<|Aa .i64 (e+1)<|t (e+1))<|g (b+1)) ((0:Int)))<|Ad a (λ(f:Int) x=>iF (f<(b:Int)) (Ab (idx c.2 b) λy=>Ab (idx c.2 f) λz=>Ab (TG a (y.2,z.2)) λA=>iB A (Ac Aj)<|Aa .i64 (f+1)<|x (f+1))<|g (b+1)) ((0:Int)))<|some Bp) (0)) (0)
theorem d347(fu x0):d_ (fu+1) x0=yA fu x0:=by kernel_rfl
def yz(b:Nat)(a:Vl):Option Bool:=Ad b (λ(c:Nat) i=>iF ((c:Int)<(Vl.lists a).length) (Ab (idx (Vl.lists a) (c:Int)) λo=>Ab (eb b o) λp=>iB (!p) (Ac Aj)<|iF ((0:Int)<c) (Aa .i64 ((c:Int)-1)<|Ab (idx (Vl.lists a) ((c:Int)-1)) λq=>Ab (jX b q) λr=>Ab (idx (Vl.lists a) (c:Int)) λs=>Ab (jX b s) λt=>Ab (Vf b (r,t)) λu=>iF ((0:Int)<=u) (Ac Aj)<|Ad b (λ(e:Nat) j=>iF ((e:Int)<(Vl.lists a).length) (iF ((c:Int)≠e) (Ab (idx (Vl.lists a) (c:Int)) λv=>Ab (idx (Vl.lists a) (e:Int)) λw=>Ab (TL b (v,w)) λx=>iB x (Ac Aj)<|j (e+1))<|j (e+1))<|i (c+1)) (0))<|Ad b (λ(f:Nat) k=>iF ((f:Int)<(Vl.lists a).length) (iF ((c:Int)≠f) (Ab (idx (Vl.lists a) (c:Int)) λy=>Ab (idx (Vl.lists a) (f:Int)) λz=>Ab (TL b (y,z)) λA=>iB A (Ac Aj)<|k (f+1))<|k (f+1))<|i (c+1)) (0))<|Ad b (λ(d:Nat) l=>iF ((d:Int)<(Vl.structs a).length) (Ab (idx (Vl.structs a) (d:Int)) λB=>Ab (d_ b B) λE=>iB (!E) (Ac Aj)<|iF ((0:Int)<d) (Aa .i64 ((d:Int)-1)<|Ab (idx (Vl.structs a) ((d:Int)-1)) λG=>Ab (jP b G) λH=>Ab (idx (Vl.structs a) (d:Int)) λI=>Ab (jP b I) λJ=>Ab (Vf b (H,J)) λK=>iF ((0:Int)<=K) (Ac Aj)<|Ad b (λ(g:Nat) m=>iF ((g:Int)<(Vl.structs a).length) (iF ((d:Int)≠g) (Ab (idx (Vl.structs a) (d:Int)) λL=>Ab (idx (Vl.structs a) (g:Int)) λM=>Ab (TK b (L,M)) λO=>iB O (Ac Aj)<|m (g+1))<|m (g+1))<|l (d+1)) (0))<|Ad b (λ(h:Nat) n=>iF ((h:Int)<(Vl.structs a).length) (iF ((d:Int)≠h) (Ab (idx (Vl.structs a) (d:Int)) λQ=>Ab (idx (Vl.structs a) (h:Int)) λS=>Ab (TK b (Q,S)) λU=>iB U (Ac Aj)<|n (h+1))<|n (h+1))<|l (d+1)) (0))<|Ab (jN b a) λV=>Ac ((!V))) (0)) (0)
theorem d348(fu x0):TF (fu+1) x0=yz fu x0:=by kernel_rfl
def yC(b:Nat)(a:AE):Option Bool:=Ab (TF b a.1) λc=>iB c (Ab (TF b a.2) λd=>iB d (Ab (TJ b (a.2,a.1)) Ac)<|some Aj)<|some Aj
theorem d345(fu x0):Q0 (fu+1) x0=yC fu x0:=by kernel_rfl
def sW(a:Nat)(b:AE):Option Bool:=Ab (Vh a b) λc=>iB c (Ab (Q0 a b) Ac)<|some Aj
def u6:=bQ [zu,B344] Tryz.func22 [Bq] [.bool] sW
def FRo(b:Nat)(a:AE):Option Vl:=Ab (sW b a) λc=>iB (!c) (Ac (Vl.mk Aj (Aj,Aj,Aj,([],[]),[]) [] []))<|Ab (YN b a.2) λd=>iB d (Ac a.1)<|some a.2
def B346:=bQ [u6,u7] Tryz.func84 [Bq] [BD] FRo
def jL(a:Nat)(b:AE):Option (Vl×Int):=Ab (sW a b) λc=>iB (!c) (Ac ((Vl.mk Aj (Aj,Aj,Aj,([],[]),[]) [] [],11)))<|Ab (YN a b.1) λd=>iB d (Ac ((Vl.mk Aj (Aj,Aj,Aj,([],[]),[]) [] [],12)))<|Ab (FRo a b) λe=>Ac (e,0)
def zh:=bQ [u6,u7,B346] Tryz.func63 [Bq] [BD,Ak] jL
def xW(a:Nat)(b:Vl):Option Int:=Ab (YO a (Vl.sc b)) λc=>iB c (Ac 0)<|some 1
def zg:=bQ [u9] Tryz.func64 [BD] [Ak] xW
def FRu(c:Nat)(d:AE):Option (BC×Int):=Ab (jL c d) λa=>iF (a.2≠0) (Ac ((([],[]),a.2)))<|iB (Vl.any a.1) (Ac ((([],[]),14)))<|iF ((0:Int)<(Vl.structs a.1).length) (Ab (xW c a.1) λb=>Aa .i64 (b+((Vl.lists a.1).length:Int))<|Aa .i64 (b+((Vl.lists a.1).length:Int)+((Vl.structs a.1).length:Int))<|iF ((1:Int)<b+((Vl.lists a.1).length:Int)+((Vl.structs a.1).length:Int)) (Ac ((([],[]),14)))<|iF (((Vl.structs a.1).length:Int)=0) (Ac ((([],[]),11)))<|Ab (idx (Vl.structs a.1) (0:Int)) λe=>Ac ((e,0)))<|iF (((Vl.structs a.1).length:Int)=0) (Ac ((([],[]),11)))<|Ab (idx (Vl.structs a.1) (0:Int)) λf=>Ac (f,0)
def B349:=bQ [zh,zg] Tryz.func38 [Bq] [BQ,Ak] FRu
def FRe(c:Nat):AE×Aq->Option (AE×Int)|(d,e)=>Ab (FRu c d) λa=>iF (a.2≠0) (Ac (((Vl.mk Aj (Aj,Aj,Aj,([],[]),[]) [] [],Vl.mk Aj (Aj,Aj,Aj,([],[]),[]) [] []),a.2)))<|Ad c (λ(b:Nat) f=>iF ((b:Int)<a.1.1.length) (Ab (idx a.1.1 b) λg=>iF (g.1=e) (Ab (idx a.1.1 b) λh=>Ac ((h.2.2,0)))<|f (b+1))<|some (((Vl.mk Aj (Aj,Aj,Aj,([],[]),[]) [] [],Vl.mk Aj (Aj,Aj,Aj,([],[]),[]) [] []),13))) (0)
def B350:=bQ [B349] Tryz.func12 [Bq, .str] [Bq,Ak] FRe (la:=lk [(5,⟨[.nat],(kp [1,4,6] [(8, .AD 0 500)]),[(2, .c 0),(1, .c 0)],3⟩)])
def FRl(c:Nat)(d:AE):Option (BP×Int):=Ab (jL c d) λa=>iF (a.2≠0) (Ac ((([],[]),a.2)))<|iB (Vl.any a.1) (Ac ((([],[]),14)))<|iF ((0:Int)<(Vl.lists a.1).length) (Ab (xW c a.1) λb=>Aa .i64 (b+((Vl.lists a.1).length:Int))<|Aa .i64 (b+((Vl.lists a.1).length:Int)+((Vl.structs a.1).length:Int))<|iF ((1:Int)<b+((Vl.lists a.1).length:Int)+((Vl.structs a.1).length:Int)) (Ac ((([],[]),14)))<|iF (((Vl.lists a.1).length:Int)=0) (Ac ((([],[]),11)))<|Ab (idx (Vl.lists a.1) (0:Int)) λe=>Ac ((e,0)))<|iF (((Vl.lists a.1).length:Int)=0) (Ac ((([],[]),11)))<|Ab (idx (Vl.lists a.1) (0:Int)) λf=>Ac (f,0)
def B356:=bQ [zh,zg] Tryz.func46 [Bq] [Cc,Ak] FRl
def FRi(c:Nat):AE×Int->Option (AE×Int)|(d,b)=>Ab (FRl c d) λa=>iF (a.2≠0) (Ac (((Vl.mk Aj (Aj,Aj,Aj,([],[]),[]) [] [],Vl.mk Aj (Aj,Aj,Aj,([],[]),[]) [] []),a.2)))<|iF (b<0) (Ac (((Vl.mk Aj (Aj,Aj,Aj,([],[]),[]) [] [],Vl.mk Aj (Aj,Aj,Aj,([],[]),[]) [] []),1)))<|iF (b<(a.1.1.length:Int)) (Ab (idx a.1.1 b) λe=>Ac ((e,0)))<|iF ((0:Int)<a.1.2.length) (Ac (((Vl.mk Aj (Aj,Aj,Aj,([],[]),[]) [] [],Vl.mk Aj (Aj,Aj,Aj,([],[]),[]) [] []),14)))<|some ((Vl.mk Aj (Aj,Aj,Aj,([],[]),[]) [] [],Vl.mk Aj (Aj,Aj,Aj,([],[]),[]) [] []),13)
def B357:=bQ [B356] Tryz.func19 [Bq,Ak] [Bq,Ak] FRi
def FS0(c:Nat)(a:List (Aq×Int)):Option Bool:=Ad c (λ(b:Nat) d=>iF ((b:Int)<a.length) (Ab (idx a b) λe=>iF ((60:Int)<e.1.length) (Ac Aj)<|d (b+1))<|some (Di ((a.length:Int)<=20))) (0)
def B367:=bQ [] Tryz.func28 [Xo] [.bool] FS0 (la:=lk [(2,⟨[.nat],[(0, .Am),(3, .AD 0 200)],[],0⟩)])
def FSt(b:Nat)(a:Aq×Int):Option Bool:=iB (!decide (a.1=[])) (Ac (Di (a.2=0)))<|iF ((0:Int)<=a.2) (Ac (Di (a.2<=1000000)))<|some Aj
def B368:=bQ [] Tryz.func54 [(.st y17)] [.bool] FSt
def FAt(b:Nat):AE×List (Aq×Int)->Option (AE×Int)|(f,g)=>Ab (Q4 b f) λi=>iB (!i) (Ac (((Vl.mk Aj (Aj,Aj,Aj,([],[]),[]) [] [],Vl.mk Aj (Aj,Aj,Aj,([],[]),[]) [] []),11)))<|Ad b (λ(a:AE×Int×Nat) h=>iF ((a.2.2:Int)<g.length) (Ab (idx g a.2.2) λe=>Ab (FSt b e) λj=>iB (!j) (Ac (((Vl.mk Aj (Aj,Aj,Aj,([],[]),[]) [] [],Vl.mk Aj (Aj,Aj,Aj,([],[]),[]) [] []),1)))<|iB (!decide (e.1=[])) (Ab (Vk b (a.1,e.1)) λc=>iF (c.2≠0) (iF (c.2≠0) (Ac (((Vl.mk Aj (Aj,Aj,Aj,([],[]),[]) [] [],Vl.mk Aj (Aj,Aj,Aj,([],[]),[]) [] []),c.2)))<|Ab (TO b c.1) λk=>Ac ((k.1,0)))<|h (c.1,c.2,a.2.2+1))<|Ab (ku b (a.1,e.2)) λd=>iF (d.2≠0) (iF (d.2≠0) (Ac (((Vl.mk Aj (Aj,Aj,Aj,([],[]),[]) [] [],Vl.mk Aj (Aj,Aj,Aj,([],[]),[]) [] []),d.2)))<|Ab (TO b d.1) λl=>Ac ((l.1,0)))<|h (d.1,d.2,a.2.2+1))<|iF (a.2.1≠0) (Ac (((Vl.mk Aj (Aj,Aj,Aj,([],[]),[]) [] [],Vl.mk Aj (Aj,Aj,Aj,([],[]),[]) [] []),a.2.1)))<|Ab (TO b a.1) λm=>Ac ((m.1,0))) ((f,0,0))
def B369:=bQ [zE,zD,lj,B368,u_] Tryz.func29 [Bq,Xo] [Bq,Ak] FAt (la:=lk [(5,⟨[.Ae Bq, .Ae Ak, .nat],(kp [2,4] [(6, .v 1 Ak),(13, .Am),(14, .Am),(15, .AD 2 502)]),[(1, .c 0),(0, .Ah 35 [(18, .v 0 Bq)])],2⟩)])
def FIs(b:Nat)(a:Aq×Int):Option Bool:=iB (!decide (a.1=[])) (Ac (Di (a.2=0)))<|iF ((0:Int)<=a.2) (Ac (Di (a.2<=1000000)))<|some Aj
def B370:=bQ [] Tryz.func56 [(.st y17)] [.bool] FIs
def vD(b:Nat):AE×List (Aq×Int)->Option (AE×Int)|(f,c)=>Ab (sW b f) λh=>iB (!h) (Ac (((Vl.mk Aj (Aj,Aj,Aj,([],[]),[]) [] [],Vl.mk Aj (Aj,Aj,Aj,([],[]),[]) [] []),11)))<|Ad b (λ(a:AE×Nat) g=>iF ((a.2:Int)<c.length) (Ab (idx c a.2) λi=>Ab (FIs b i) λj=>iB (!j) (Ac (((Vl.mk Aj (Aj,Aj,Aj,([],[]),[]) [] [],Vl.mk Aj (Aj,Aj,Aj,([],[]),[]) [] []),1)))<|Ab (idx c a.2) λk=>iB (!decide (k.1=[])) (Ab (idx c a.2) λl=>Ab (FRe b (a.1,l.1)) λd=>iF (d.2≠0) (Ac (((Vl.mk Aj (Aj,Aj,Aj,([],[]),[]) [] [],Vl.mk Aj (Aj,Aj,Aj,([],[]),[]) [] []),d.2)))<|g (d.1,a.2+1))<|Ab (idx c a.2) λm=>Ab (FRi b (a.1,m.2)) λe=>iF (e.2≠0) (Ac (((Vl.mk Aj (Aj,Aj,Aj,([],[]),[]) [] [],Vl.mk Aj (Aj,Aj,Aj,([],[]),[]) [] []),e.2)))<|g (e.1,a.2+1))<|some ((a.1,0))) ((f,0))
def B371:=bQ [B350,B357,u6,B370] Tryz.func30 [Bq,Xo] [Bq,Ak] vD (la:=lk [(4,⟨[.Ae Bq, .nat],(kp [1,2,4] [(6, .AD 1 401)]),[(1, .c 0),(0, .Ah 35 [(18, .v 0 Bq)])],2⟩)])
def FLp(a:Nat):AE×List (Aq×Int)->Option Bool|(c,b)=>Ab (FSm a c) λf=>iB (!f) (Ab (Vj a ()) Ac)<|iF ((8:Int)<b.length) (Ab (Vj a ()) Ac)<|Ab (FS0 a b) λi=>iB (!i) (Ab (Vj a ()) Ac)<|Ab (FAt a (c,b)) λd=>Ab (vD a (c,b)) λe=>iF (d.2=e.2) (Ab (TG a (d.1,e.1)) λk=>iB k (Ab (Vj a ()) Ac)<|some Aj)<|some Aj
theorem Ko(fu:Nat):Cr TP 8 (qQ [Bq,Xo] [.bool] (FLp fu)):=oY (sQ (bs [B4,B900,zi,B367,B369,B371] fu) fu Tryz.func8 [Bq,Xo] [.bool]).2 λx=>by kernel_rfl
end
end Go.GV
namespace Go.GL
open Go.GK
def Ok{α:Type}(x:Option α)(P:α->Prop):Prop:= ∃r,x=Ac r/\P r
section
variable {α β X R : Type} {P Q : R -> Prop}
section
variable{x y:Option R}{p:Prop}{S:Type}{fu:Nat}{k:α->Option R}{b:Bool}{n:Nat}{s:S}{l:List α}
theorem MP{r:R}(h:P r):Ok (Ac r) P:=⟨r,rfl,h⟩
theorem Ok.mono(h:Ok x P)(k:∀r,P r->Q r):Ok x Q:=by obtain⟨r,e,h⟩:=h;exact⟨r,e,k r h⟩
theorem Ok.eq{r:R}(h:Ok x (λa=>a=r)):x= .some r:=by obtain⟨_,e,rfl⟩:=h;omega
theorem PK[Decidable p](a:p)(h:Ok x P):Ok (Ag p x) P:=by grind[GK.Ag]
theorem OH{x:Option α}{Q:α->Prop}{k:α->Option R}(h:Ok x Q)(b:∀a,Q a->Ok (k a) P):Ok (Ab x k) P:=by obtain⟨r,rfl,h⟩:=h;exact b r h
theorem BY{x:Option α}{a:α}(h:x= .some a)(b:Ok (k a) P):Ok (GK.Ab x k) P:=by subst h;exact b
theorem P3(ht:b=Bp->Ok x P)(a:b=Aj->Ok y P):Ok (bif b then x else y) P:=by grind
theorem Ob[Decidable p](ht:p->Ok x P)(a:¬p->Ok y P):Ok (bif Di p then x else y) P:=
 P3 (λh=>ht (of_decide_eq_true h)) (λh=>a (of_decide_eq_false h))
theorem VP(h:b=Bp)(a:Ok x P):Ok (bif b then x else y) P:=by grind
theorem Qb(h:b=Aj)(a:Ok y P):Ok (bif b then x else y) P:=by grind
theorem T3[Decidable p](h:p)(a:Ok x P):Ok (bif Di p then x else y) P:=VP (decide_eq_true h) a
theorem Qh[Decidable p](h:¬p)(a:Ok y P):Ok (bif Di p then x else y) P:=Qb (decide_eq_false h) a
theorem P7[Decidable p](hx:Ok x P)(h:p:=by first|omega|(dsimp only;omega)):Ok (bif Di p then x else y) P:=T3 h hx
theorem P8[Decidable p](hy:Ok y P)(h:¬p:=by first|omega|(dsimp only;omega)):Ok (bif Di p then x else y) P:=Qh h hy
theorem Abw{p:Prop} [Decidable p]{x:Option R}(h:Ok x P)(hp:p:=by first|omega|(dsimp only;omega)):Ok (GK.Ag p x) P:=PK hp h
theorem Bk{l:List α}{n:Nat}(h:n<l.length):idx l (n:Int)= .some l[n]:=by simp[idx]
theorem Fs{l:List α}{i:Int}(h0:0<=i)(h1:i<(l.length:Nat)):idx l i= .some (l[i.toNat]'(by omega)):=by grind[idx]
theorem Aah(h:n<l.length)(a:Ok (k l[n]) P):Ok (GK.Ab (idx l (n:Int)) k) P:=BY (Bk h) a
theorem Adg{i:Int}(h0:0<=i)(h1:i<(l.length:Nat))(a:Ok (k (l[i.toNat]'(by omega))) P):Ok (GK.Ab (idx l i) k) P:=BY (Fs h0 h1) a
theorem MX{s:Aq}(h:n<s.length):Ez s (n:Int)= .some ((s[n].toNat:Nat):Int):=by grind[Ez]
theorem ZE{s:Aq}{k:Int->Option R}(h:n<s.length)(a:Ok (k ((s[n].toNat:Nat):Int)) P):Ok (GK.Ab (Ez s (n:Int)) k) P:=BY (MX h) a
theorem XD{b:X->(X->Option R)->Option R}(I:X->Prop)(m:X->Nat):∀ {fu:Nat} {x:X},I x->m x<fu->
  (∀x nx,I x->m x<fu->(∀a,I a->m a<m x->Ok (nx a) P)->Ok (b x nx) P)->Ok (Ad fu b x) P
 |0,_,_,h,_=>by omega
 |fu+1,x,d,e,step=>by refine step x _ d e λa c f=>XD I m c (by omega) λy nx i g h=>step y nx i (by omega) h
theorem SE{b:S×Nat->(S×Nat->Option R)->Option R}(J:Nat->S->Prop)(n:Nat)(h0:J 0 s)(f:n<fu)
  (step:∀k s nx,k<n->J k s->(∀a,J (k+1) a->Ok (nx (a,k+1)) P)->Ok (b (s,k) nx) P)
  (stop:∀s nx,J n s->Ok (b (s,n) nx) P):Ok (Ad fu b (s,0)) P:=by
 refine XD (λx=>x.2<=n/\J x.2 x.1) (λx=>n-x.2) ⟨by simp,h0⟩ (by omega) λx nx e _ g=>?_;grind
theorem Zy{S:Type}(mk:S->Nat->X){b:X->(X->Option R)->Option R}(J:Nat->S->Prop)(n:Nat)
  (step:∀k s nx,k<n->J k s->(∀a,J (k+1) a->Ok (nx (mk a (k+1))) P)->Ok (b (mk s k) nx) P)
  (stop:∀s nx,J n s->Ok (b (mk s n) nx) P):∀(fu k:Nat) (s:S),J k s->k<=n->n-k<fu->Ok (Ad fu b (mk s k)) P
 |0,_,_,_,_,h=>by omega
 |fu+1,k,s,c,f,e=>by
  show Ok (b (mk s k) (Ad fu b)) P;rcases Aam k n with h|h;· exact step k s _ h c λa d=>Zy mk J n step stop fu (k+1) a d h (by omega)
  grind
theorem XZ{T:Type}{b:S×T×Nat->(S×T×Nat->Option R)->Option R}(J:Nat->S->T->Prop)(n:Nat){t:T}(h0:J 0 s t)(g:n<fu)
  (step:∀k s t nx,k<n->J k s t->(∀a c,J (k+1) a c->Ok (nx (a,c,k+1)) P)->Ok (b (s,t,k) nx) P)
  (stop:∀s t nx,J n s t->Ok (b (s,t,n) nx) P):Ok (Ad fu b (s,t,0)) P:=
 Zy (λ(s:S×T) k=>(s.1,s.2,k)) (λk s=>J k s.1 s.2) n (λk s nx e d f=>step k s.1 s.2 nx e d λa c h=>f (a,c) h) (λs nx d=>stop s.1 s.2 nx d) fu 0 (s,t) h0 (by omega) (by omega)
theorem av{T U:Type}{b:S×T×U×Nat->(S×T×U×Nat->Option R)->Option R}(J:Nat->S->T->U->Prop)(n:Nat){t:T}{u:U}(h0:J 0 s t u)(i:n<fu)
  (step:∀k s t u nx,k<n->J k s t u->(∀a c d,J (k+1) a c d->Ok (nx (a,c,d,k+1)) P)->Ok (b (s,t,u,k) nx) P)
  (stop:∀s t u nx,J n s t u->Ok (b (s,t,u,n) nx) P):Ok (Ad fu b (s,t,u,0)) P:=
 Zy (λ(s:S×T×U) k=>(s.1,s.2.1,s.2.2,k)) (λk s=>J k s.1 s.2.1 s.2.2) n (λk s nx f e g=>step k s.1 s.2.1 s.2.2 nx f e λa c d h=>g (a,c,d) h) (λs nx e=>stop s.1 s.2.1 s.2.2 nx e) fu 0 (s,t,u) h0 (by omega) (by omega)
theorem V_{b:Nat->(Nat->Option R)->Option R}(J:Nat->Prop)(n:Nat)(h0:J 0)(d:n<fu)
  (step:∀k nx,k<n->J k->(J (k+1)->Ok (nx (k+1)) P)->Ok (b k nx) P)
  (stop:∀nx,J n->Ok (b n nx) P):Ok (Ad fu b 0) P:=by
 refine XD (λx=>x<=n/\J x) (λx=>n-x) ⟨by simp,h0⟩ (by omega) λk nx c _ e=>?_;grind
end
end
end Go.GL
namespace Go.GL
open Go Go.GV Go.GK
section
variable{R:Type}{x:Option R}
theorem nL{p:Prop} [Decidable p](h:p):GK.Ag p x=x:=by grind[GK.Ag]
theorem Abx{P:R->Prop}{i:Int}(h: -9223372036854775808<=i/\i<=9223372036854775807)(a:Ok x P):Ok (Aa Lr.i64 i x) P:=by show Ok (GK.Ag (GK.DW i) x) P;simp_all[GK.DW,PK]
theorem Aao{R:Type}{P:R->Prop}{i:Int}{x:Option R}(hx:Ok x P)(h: -9223372036854775808<=i/\i<=9223372036854775807:=by first|omega|(dsimp only;omega)):Ok (Aa Lr.i64 i x) P:=Abx h hx
theorem ib{α:Type}{cmp:α->α->Option Int}{le:α->α->Prop}(tot:∀x y,le x y\/le y x)(tr:∀x y z,le x y->le y z->le x z){l:List α}
  (hc:∀x∈l,∀y∈l,Ok (cmp x y) λc=>c<0↔¬le y x) {fu:Nat} (hn:l.length<1099511627776) (hf:l.length+1<fu):
  Ok (Su cmp fu 0 l.length l) λr=>r.Perm l/\r.Pairwise le:=by
 refine XD (λz:List α×Int=>z.1.Perm l/\1<=z.2/\∃A C,z.1=A++C/\A.Pairwise le/\((A.length:Int)=z.2\/(C=[]/\A.length<z.2))) (λz=>l.length+1-z.2.toNat) ?_ (by omega) ?_;· refine⟨.refl _,by omega,?_⟩;cases l with
  |nil=>exact⟨[],[],rfl, .nil, .inr ⟨rfl,by simp⟩⟩
  |cons x l=>exact⟨[x],l,rfl,Acg .., .inl (by simp)⟩
 ·rintro⟨
      m,i⟩ nx ⟨k,X,A,C,e,t,n⟩ W M;have D:m.length=l.length:=k.length_eq;refine Ob (λc=>?_) (λc=>?_)
  ·have w:(A.length:Int)=i:=by
    grind
   obtain⟨q,C,rfl⟩:∃q S,C=q::S:=by
    cases C with
    |nil=>grind
    |cons q C=>simp
   refine XD (λz:List α×Int=>z.1.Perm l/\∃A q B C,z.1=A++q::(B++C)/\(A.length:Int)=z.2/\(A++B).Pairwise le/\(∀b∈B,le q b)/\(A.length:Int)+B.length=i) (λz=>z.2.toNat) ⟨k,A,q,[],C,e,w,by grind,by simp,by trivial⟩ (by omega) ?_;rintro⟨m,j⟩ nx' ⟨k,A,q,B,C,e,K,t,I,J⟩ _ E;dsimp only at k e K;have out:(A++q::B).Pairwise le->Ok (nx (m,i+1)) (λr=>r.Perm l/\r.Pairwise le):=λZ=>
    M (m,i+1) ⟨k,by omega,A++q::B,C,by simp[e],Z, .inl (by simp only[Aaa,Abo];omega)⟩ (by omega);refine Ob (λc=>?_) (λc=>?_)
   ·obtain⟨A,p,rfl⟩:∃G p,A=G++[p]:=by
     rcases Ael A with h|⟨G,p,h⟩;· subst h;simp at K;omega
     ·exact⟨G,p,by simpa using h⟩
    have g:m=A++p::q::(B++C):=by simp[e]
    simp only[Aaa,Abo,Adq]at K J;have H:idx m j=Ac q:=by unfold idx;rw[if_pos (by omega),g,Aab (by omega)];rw[show j.toNat-A.length=1 by omega];rfl
    have O:idx m (j-1)=Ac p:=by unfold idx;rw[if_pos (by omega),g,Aab (by omega)];rw[show(j-1).toNat-A.length=0 by omega];rfl
    refine BY H (Aao (BY O (OH (hc q (k.mem_iff.1 (by simp[e])) p (k.mem_iff.1 (by simp[e]))) λr P=>?_)));have F:=Aba.1 t;have N:=Aba.1 F.1;refine Ob (λd=>?_) (λd=>?_)
    ·have d:=P.1 d;have T:le q p:=(tot p q).resolve_left d;refine Aao (Aao (BY O (BY H (BY H ?_))));have Q:m.set j.toNat p=A++p::p::(B++C):=by
      rw[g,Acy _ _ (by omega),show j.toNat-A.length=1 by omega];rfl
     have R:(m.set j.toNat p).set (j-1).toNat q=A++q::p::(B++C):=by rw[Q,Acy _ _ (by omega),show(j-1).toNat-A.length=0 by omega];rfl
     have U:idx (m.set j.toNat p) (j-1)=Ac p:=by unfold idx;rw[if_pos (by omega),Q,Aab (by omega)];rw[show(j-1).toNat-A.length=0 by omega];rfl
     refine BY U (Abx (by omega) ?_);refine E _ ⟨?_,A,q,p::B,C,?_,?_,?_,?_,?_⟩ (by show(j-1).toNat<j.toNat;omega);· show((m.set j.toNat p).set (j-1).toNat q).Perm l;rw[R];refine List.Perm.trans ?_ k;rw[g];exact List.Perm.append_left _ (List.Perm.swap ..)
     ·show(m.set j.toNat p).set (j-1).toNat q=_;rw[R];simp
     ·show(A.length:Int)=j-1;omega
     ·simpa using t
     ·intro b v;rcases Aav.1 v with rfl|v;· exact T
      ·exact I b v
     ·simp only[Abo];omega
    ·have d:le p q:=GB λh=>d (P.2 h);refine Aao (out ?_);refine Aba.2 ⟨F.1,Abj.2 ⟨I,F.2.1⟩,λa u b v=>?_⟩;rcases Aav.1 v with rfl|v
     ·rcases AS.1 u with u|u;· exact tr _ _ _ (N.2.2 a u p (by simp)) d
      ·simp at u;subst u;exact d
     ·exact F.2.2 a u b v
   ·have c:¬0<j:=c;obtain rfl:A=[]:=OF.1 (by omega);refine Aao (out ?_);simp at t;simpa using⟨I,t⟩
  grind[MP,List.length_eq_zero_iff]
end
end Go.GL
namespace Go.GL
abbrev Sp:=Int×Int
section
variable{s:Sp}{l:List Sp}{n:Int}
def A0(l:List Sp)(n:Int):Prop:= ∃s∈l,s.1<=n/\n<=s.2
theorem Bb{n:Int} :¬A0 [] n:=λ⟨_,h,_⟩=>by grind
theorem AG{s:Sp}{l:List Sp}{n:Int} :A0 (s::l) n↔(s.1<=n/\n<=s.2)\/A0 l n:=by simp[A0]
theorem Eo{l m:List Sp}{n:Int} :A0 (l++m) n↔A0 l n\/A0 m n:=by simp_all[A0,AS,or_and_right,exists_or]
theorem Oz{l m:List Sp}(h:l.Perm m){n:Int} :A0 l n↔A0 m n:=by grind[A0]
structure Nf(l:List Sp):Prop where
 ne:∀s∈l,s.1<=s.2
 ord:l.Pairwise λs t=>s.2+1<t.1
theorem Nf.nil:Nf []:=⟨λ_ h=>(by grind), .nil⟩
theorem Nf.tail(h:Nf (s::l)):Nf l:=⟨λt a=>h.ne t (Aag _ a),(Abj.1 h.ord).2⟩
theorem Nf.head(h:Nf (s::l)):s.1<=s.2:=h.ne s (Aau ..)
theorem Nf.gt(h:Nf (s::l))(k:A0 l n):s.2+1<n:=by obtain⟨t,a,b,c⟩:=k;have:=(Abj.1 h.ord).1 t a;omega
theorem Nf.unique:∀ {l m:List Sp},Nf l->Nf m->(∀n,A0 l n↔A0 m n)->l=m
 | [],[],_,_,_=>rfl
 | [],t::m,_,d,h=>absurd ((h t.1).2 (AG.2 (.inl ⟨Abn _,d.head⟩))) Bb
 |s::l,[],a,_,h=>absurd ((h s.1).1 (AG.2 (.inl ⟨Abn _,a.head⟩))) Bb
 |s::l,t::m,a,d,h=>by
  have i:=(h s.1).1 (AG.2 (.inl ⟨Abn _,a.head⟩));have j:=(h t.1).2 (AG.2 (.inl ⟨Abn _,d.head⟩));have r:=a.head;have u:=d.head;have o:s.1=t.1:=by
   rcases AG.1 i with e|e<;>rcases AG.1 j with f|f;· omega
   ·have:=a.gt f;omega
   ·have:=d.gt e;omega
   ·have:=a.gt f;have:=d.gt e;omega
  have p:s.2=t.2:=by
   rcases Int.lt_trichotomy s.2 t.2 with c|c|c
   ·rcases AG.1 ((h (s.2+1)).2 (AG.2 (.inl ⟨by omega,by omega⟩)))with b|b;· omega
    ·have:=a.gt b;omega
   ·omega
   ·rcases AG.1 ((h (t.2+1)).1 (AG.2 (.inl ⟨by omega,by omega⟩)))with b|b;· omega
    ·have:=d.gt b;omega
  have q:s=t:=Acp o p;subst q;rw[Nf.unique a.tail d.tail λn=>?_];constructor
  ·intro k;have g:=a.gt k;rcases AG.1 ((h n).1 (AG.2 (.inr k)))with b|b;all_goals omega
  ·intro k;have g:=d.gt k;rcases AG.1 ((h n).2 (AG.2 (.inr k)))with b|b;all_goals omega
def Ht:List Sp->List Sp->List Sp
 |a,[]=>a
 |a,s::l=>match a.getLast? with
  |none=>Ht [s] l
  |some t=>if s.1<=t.2+1 then Ht (a.dropLast++[(t.1,max t.2 s.2)]) l else Ht (a++[s]) l
theorem E1:∀(l b:List Sp),Nf b->(∀s∈l,s.1<=s.2)->l.Pairwise (λs t=>s.1<=t.1)->(∀t∈b.getLast?,∀s∈l,t.1<=s.1)->Nf (Ht b l)/\∀n,A0 (Ht b l) n↔A0 b n\/A0 l n
 | [],b,h,_,_,_=>⟨h,λn=>⟨.inl,λk=>k.elim id λk=>absurd k Bb⟩⟩
 |s::l,b,h,v,D,C=>by
  have y:=v s (Aau ..);have j:∀s∈l,s.1<=s.2:=λt i=>v t (Aag _ i);have f:=Abj.1 D;unfold Ht;split;· next e=>
   have:b=[]:=by simp_all
   subst this;obtain⟨q,r⟩:=E1 l [s] ⟨λt i=>by grind,Acg ..⟩ j f.2 (λt i u a=>by grind);grind[AG,Bb]
  ·next t e=>
   obtain⟨o,rfl⟩:∃o,b=o++[t]:=List.getLast?_eq_some_iff.1 e;have w:Nf o:=⟨λu a=>h.ne u (Abt _ a),(Aba.1 h.ord).1⟩;have p:∀u∈o,u.2+1<t.1:=λu a=>(Aba.1 h.ord).2.2 u a t (by simp);have E:t.1<=s.1:=C t (by simp) s (Aau ..);have A:∀(x:Sp) (n:Int),A0 (o++[x]) n↔A0 o n\/(x.1<=n/\n<=x.2):=λx n=>by simp_all[Eo,AG,Bb]
   split;
      · next c=>
    have B:(o++[t]).dropLast=o:=by simp
    rw[B];obtain⟨q,r⟩:=E1 l (o++[(t.1,max t.2 s.2)]) ⟨λu a=>by
     rcases AS.1 a with a|a;· exact w.ne u a
     ·simp at a;subst a;omega,Aba.2 ⟨w.ord,Acg ..,λu a x g=>by simp at g;subst g;exact p u a⟩⟩ j f.2 (λx g u a=>by simp at g;subst g;have:=f.1 u a;omega);refine⟨q,λn=>?_⟩;rw[r,A,A,AG];constructor
    ·rintro((k|⟨k,z⟩)|k);· exact .inl (.inl k)
     ·by_cases d:n<=t.2;· exact .inl (.inr ⟨k,d⟩)
      ·exact .inr (.inl ⟨by omega,by omega⟩)
     ·exact .inr (.inr k)
    ·rintro((k|k)|k|k);· exact .inl (.inl k)
     ·exact .inl (.inr ⟨k.1,show n<=max t.2 s.2 by omega⟩)
     ·exact .inl (.inr ⟨show t.1<=n by omega,show n<=max t.2 s.2 by omega⟩)
     ·exact .inr k
   ·next c=>
    obtain⟨q,r⟩:=E1 l (o++[t]++[s]) ⟨λu a=>by
     rcases AS.1 a with a|a;· exact h.ne u a
     ·simp at a;subst a;exact y,Aba.2 ⟨h.ord,Acg ..,λu a x g=>by
      simp at g;subst g;rcases AS.1 a with a|a;· have:=p u a;omega
      ·simp at a;subst a;omega⟩⟩ j f.2 (λx g u a=>by simp at g;subst g;exact f.1 u a);refine⟨q,λn=>?_⟩;rw[r,Eo,AG,AG (l:=l)];simp[@Bb n,or_assoc]
def Fg:Sp->List Sp->List Sp
 |s,[]=>[s]
 |s,x::l=>if x.2+1<s.1 then x::Fg s l else if s.2+1<x.1 then s::x::l else Fg (min s.1 x.1,max s.2 x.2) l
theorem KU:∀(l:List Sp) (s:Sp),Nf l->s.1<=s.2->Nf (Fg s l)/\(∀n,A0 (Fg s l) n↔(s.1<=n/\n<=s.2)\/A0 l n)
 | [],s,_,i=>⟨⟨λt f=>by grind[Fg],Acg ..⟩,λn=>AG⟩
 |x::l,s,h,i=>by
  have o:=h.head;unfold Fg;split;· next c=>
   obtain⟨g,j⟩:=KU l s h.tail i;refine⟨⟨λt f=>?_,Abj.2 ⟨λt f=>?_,g.ord⟩⟩,λn=>?_⟩
   ·rcases Aav.1 f with rfl|f;· omega
    ·exact g.ne t f
   ·have m:=g.ne t f;rcases(j t.1).1 ⟨t,f,Abn _,m⟩with e|e;· omega
    ·have:=h.gt e;omega
   grind[AG]
  ·split;· next c d=>
    refine⟨⟨λt f=>?_,Abj.2 ⟨λt f=>?_,h.ord⟩⟩,λn=>AG⟩
    ·rcases Aav.1 f with rfl|f;· omega
     ·exact h.ne t f
    ·rcases Aav.1 f with rfl|f;· omega
     ·have:=(Abj.1 h.ord).1 t f;omega
   ·next c d=>
    obtain⟨g,j⟩:=KU l (min s.1 x.1,max s.2 x.2) h.tail (show min s.1 x.1<=max s.2 x.2 by omega);grind[min,max,AG]
def DR:Int->Int->List Sp->List Sp
 |b,a,[]=>if b<=a then [(b,a)]else []
 |b,a,s::l=>if b<s.1 then(b,s.1-1)::DR (s.2+1) a l else DR (s.2+1) a l
theorem Gi:∀(l:List Sp) (lo hi:Int),Nf l->(∀s∈l,lo<=s.1/\s.2<=hi)->Nf (DR lo hi l)/\(∀n,A0 (DR lo hi l) n↔(lo<=n/\n<=hi)/\¬A0 l n)
 | [],lo,hi,_,_=>by
  unfold DR;split;· next c=>exact⟨⟨λt f=>by grind,Acg ..⟩,λn=>by grind[AG,Bb]⟩
  grind[absurd,Bb]
 |s::l,lo,hi,h,j=>by
  have o:=h.head;have m:=j s (Aau ..);obtain⟨g,i⟩:=Gi l (s.2+1) hi h.tail λt f=>⟨by have:=(Abj.1 h.ord).1 t f;omega,(j t (Aag _ f)).2⟩;unfold DR;split;· next c=>
   refine⟨⟨λt f=>?_,Abj.2 ⟨λt f=>?_,g.ord⟩⟩,λn=>?_⟩
   ·rcases Aav.1 f with rfl|f;· omega
    ·exact g.ne t f
   ·have:=((i t.1).1 ⟨t,f,Abn _,g.ne t f⟩).1;omega
   ·rw[AG,i,AG];constructor
    ·rintro(⟨a,b⟩|⟨a,b⟩)
     ·refine⟨⟨a,by omega⟩,λk=>?_⟩;rcases k with k|k;· omega
      ·have:=h.gt k;omega
     ·exact⟨⟨by omega,a.2⟩,λk=>k.elim (λk=>by omega) b⟩
    grind
  grind[AG]
def EI(a b:List Sp):List Sp:=a.flatMap λx=>b.filterMap λy=>if max x.1 y.1<=min x.2 y.2 then Ac (max x.1 y.1,min x.2 y.2)else C7
theorem S5{a b:List Sp} :A0 (EI a b) n↔A0 a n/\A0 b n:=by
 simp only[A0,EI,Aad,Aeq];constructor
 ·grind
 ·rintro⟨⟨x,c,h,i⟩,⟨y,d,j,k⟩⟩;exact⟨(max x.1 y.1,min x.2 y.2),⟨x,c,y,d,if_pos (by omega)⟩,show max x.1 y.1<=n by omega,show n<=min x.2 y.2 by omega⟩
end
end Go.GL
namespace Go.GL
open Go Go.GV Go.GK Go.Proofs
section
variable{fu:Nat}{x:List Sp×List Sp}{l:List Sp}{r:List Sp×List Sp}{b y:Int}{a:List Sp}{I F:Int->Prop}{gu:Nat}{c:Int}{x0 s:Sp}{n:Nat}{g:Int->Int}{lo hi:Int}{m:List Sp}{v d:Int}
theorem Fy:4294967296<=Ai:=by decide
theorem aW(fu:Nat):((a_ 13).all λn=>(DW fu (n:Int)).isSome)=Bp:=by kernel_rfl
theorem GN(h:n<=12):Ok (s5 fu n) λ_=>True:=by
 rw[s5];have k:=IT.1 (aW fu) n (Abg.2 (by omega));cases h:DW fu n with
 |none=>grind
 |some r=>exact⟨r,rfl,trivial⟩
theorem de{a:Int} :F67 fu (a,b)=Ac (if a<b then-1 else if b<a then 1 else 0):=by rw[F67];have e (x:Int):F66 fu x=Ac Aj:=(by show(Ac (Di (x≠x)):Option Bool)=Ac Aj;simp);simp only[e];show(bif Di (a<b)then _ else bif Di (b<a)then _ else _)=_;grind
theorem K6(h:l.length<=12)(a:20<fu):Ok (x6 fu l) λr=>r.Perm l/\r.Pairwise λs t=>s.1<=t.1:=by
 rw[x6];have e:(Int.ofNat (l.length %Int.natAbs (18446744073709551616:Int)))=(l.length:Nat):=by grind
 rw[e];refine OH (GN h) λr _=>?_;rw[F70];obtain⟨f,rfl⟩:∃f,fu=f+1:=⟨fu-1,by omega⟩;refine OH (Q:=λr:List Sp=>r.Perm l/\r.Pairwise λs t=>s.1<=t.1) ?_ λr h=>MP h;refine Aao (T3 (by omega) ?_);refine OH (Q:=λr:List Sp=>r.Perm l/\r.Pairwise λs t=>s.1<=t.1) ?_ λr h=>MP h;have e:F69 (f+1) (0,(l.length:Int),l)=D69 (f+1) 0 l.length l:=d69 (f+1) 0 l.length l;refine ib (l:=l) (le:=λs t:Sp=>s.1<=t.1) (λx y=>Int.le_total ..) (λx y z h k=>Int.le_trans h k) (λx _ y _=>?_) (by omega) (by omega);rw[F68];rw[de];refine⟨_,rfl,?_⟩;omega
def ED(g:Int->Int):List Sp->List Sp->List Sp
 |out,[]=>out
 |out,s::l=>match out.getLast? with
  |none=>ED g [s] l
  |some t=>if s.1<=g t.2 then ED g (out.dropLast++[(t.1,max t.2 s.2)]) l else ED g (out++[s]) l
theorem LU:∀(l out:List Sp),ED (· +1) out l=Ht out l
 | [],_=>rfl
 |s::l,out=>by
  unfold ED Ht;cases out.getLast? with
  |none=>exact LU l _
  |some t=>dsimp only;rw[LU l,LU l]
noncomputable def wT(e:Int->Option Int)(fu:Nat)(f:List Sp):Option (List Sp):=
 Ad fu (λ(a:List (Int×Int)×Nat) b=>
  bif Di ((↑a.2:Int)<(↑(EW f):Int))then
   Ab (idx f (↑a.2:Int)) λc=>
   bif Di ((0:Int)<(↑(EW a.1):Int))then
    Aa (Lr.i64) ((↑(EW a.1):Int)-(1:Int))<|
    Ab (idx a.1 ((↑(EW a.1):Int)-(1:Int))) λg=>
    Ab (e g.2) λh=>
    bif Di (c.1<=h)then
     Aa (Lr.i64) ((↑(EW a.1):Int)-(1:Int))<|
     Aa (Lr.i64) ((↑(EW a.1):Int)-(1:Int))<|
     Ab (idx a.1 ((↑(EW a.1):Int)-(1:Int))) λd=>
     Aa (Lr.i64) (if c.2>d.2 then c.2 else d.2)<|
     Ab (idx a.1 ((↑(EW a.1):Int)-(1:Int))) λi=>
     b (((a.1.set (aC ((↑(EW a.1):Int)-(1:Int))) (i.1,(if d.2<c.2 then c.2 else d.2))),a.2+1))
    else
     Ag (EW a.1+1<=Ai)<|
     b (((a.1++[c]),a.2+1))
   else
    Ag (EW a.1+1<=Ai)<|
    b (((a.1++[c]),a.2+1))
  else
   Ac (a.1)) (([],0))
def Cb(b:Int)(s:Sp):Prop:= -b<=s.1/\s.1<=b/\ -b<=s.2/\s.2<=b
theorem So{p:Int->Option Int}(D:b<=2000000000000000)(B:∀x, -b<=x->x<=b->p x=Ac (g x))(C:∀s∈l,Cb b s)(E:l.length<4294967296)(A:l.length<fu):
  Ok (wT p fu l) λr=>r=ED g [] l:=by
 refine SE (λk out=>ED g out (l.drop k)=ED g [] l/\out.length<=k/\∀s∈out,Cb b s) l.length ⟨rf,by simp,by simp⟩ A ?_ ?_
 ·intro k out nx v ⟨h,q,u⟩ n;have w:l.drop k=l[k]::l.drop (k+1):=Aak v;have j:=C l[k] (AN v);refine T3 (by omega) (Aah v ?_);have app:out.getLast?=C7\/(∃t,out.getLast?=Ac t/\¬l[k].1<=g t.2)->Ok (Ag (out.length+1<=Ai) (nx (out++[l[k]],k+1))) (λr=>r=ED g [] l):=λc=>by
   refine PK (by grind) (n _ ⟨?_,by grind,?_⟩)
   ·rw[<-h,w];conv=>rhs;unfold ED
    rcases c with c|⟨t,c,d⟩
    ·have:out=[]:=by simpa using c
     subst this;rfl
    grind
   grind
  refine Ob (λc=>?_) (λc=>?_)
  ·obtain⟨
       o,t,rfl⟩:∃o t,out=o++[t]:=by
    rcases Ael out with e|⟨o,t,e⟩;· subst e;simp at c
    ·exact⟨o,t,by simpa using e⟩
   have m:=u t (by simp);have e:idx (o++[t]) (((o++[t]).length:Int)-1)=Ac t:=by unfold idx;simp only[Aaa,Abo,Adq];simp
   have i:(o++[t]).length=o.length+1:=by simp
   refine Abx (by simp only[i]at q⊢;omega) (BY e (BY (B _ m.2.2.1 m.2.2.2) (Ob (λd=>?_) (λd=>?_))))
   ·refine Abx (by simp only[i]at q⊢;omega) (Abx (by simp only[i]at q⊢;omega) (BY e (Abx ?_ (BY e ?_))));· have:=j.2.2;have:=m.2.2;dsimp only;split<;>omega
    ·have y:(if t.2<l[k].2 then l[k].2 else t.2)=max t.2 l[k].2:=by split<;>omega
     have z:(o++[t]).set (((o++[t]).length:Int)-1).toNat (t.1,if t.2<l[k].2 then l[k].2 else t.2)=o++[(t.1,max t.2 l[k].2)]:=by rw[y,i,show(((o.length+1:Nat):Int)-1).toNat=o.length by omega,Acy _ _ (by omega)];simp
     have:Ok (nx (o++[(t.1,max t.2 l[k].2)],k+1)) (λr=>r=ED g [] l):=by
      refine n _ ⟨?_,by simpa [i]using Nat.le_succ_of_le q,?_⟩
      ·rw[<-h,w];conv=>rhs;unfold ED
       simp only[List.getLast?_append,All,Option.some_or];have d:l[k].1<=g t.2:=d;rw[if_pos d];simp
      ·intro s f;rcases AS.1 f with f|f;· exact u s (by simp[f])
       ·simp at f;subst f;refine⟨m.1,m.2.1,?_,?_⟩;· show-b<=max t.2 l[k].2;have:=m.2.2;omega
        ·show max t.2 l[k].2<=b;have:=m.2.2;have:=j.2.2;omega
     rw[<-z]at this;exact this
   ·exact app (.inr ⟨t,by simp,d⟩)
  grind
 simp_all[nx,ED,Qh,MP]
theorem Rt(i:b<=2000000000000000)(hi:∀s∈l,Cb b s)(f:∀s∈l,s.1<=s.2)(h:l.length<=12)(j:20<fu):
  Ok (F73 fu l) λr=>Nf r/\∀n,A0 r n↔A0 l n:=by
 have c:=Fy;have e:List.take (min l.length (Uh l.length ((0:Int),(0:Int))).length) l++List.drop (min l.length (Uh l.length ((0:Int),(0:Int))).length) (Uh l.length ((0:Int),(0:Int)))=l:=by simp
 refine Abw (PK (by omega) ?_);rw[e];refine OH (K6 h j) λr ⟨d,k⟩=>?_;have t:=d.length_eq;refine(So (g:=(· +1)) (b:=b) i (λx p q=>?_) (λs f=>hi s (d.mem_iff.1 f)) (by omega) (by omega)).mono λu e=>?_;· exact(Abx (P:=λr=>r=x+1) (by omega) (MP rf)).eq
 ·subst e;rw[LU];obtain⟨m,o⟩:=E1 r [] .nil (λs h=>f s (d.mem_iff.1 h)) k (by simp);grind[Oz,Bb]
noncomputable def addT(fu:Nat)(f:List (Int×Int))(e:Int×Int)(d:List (Int×Int)->Option (List (Int×Int))):Option (List (Int×Int)):=
 Ad fu (
      λ(a:List (Int×Int)×Int×Int×Bool×Nat) c=>
  bif Di ((↑a.2.2.2.2:Int)<(↑(EW f):Int))then
   Ab (idx f (↑a.2.2.2.2:Int)) λb=>
   Aa (Lr.i64) (b.2+(1:Int))<|
   bif Di (b.2+(1:Int)<a.2.1)then
    Ag (EW a.1+1<=Ai)<|
    c (((a.1++[b]),a.2.1,a.2.2.1,a.2.2.2.1,a.2.2.2.2+1))
   else
    Aa (Lr.i64) (a.2.2.1+(1:Int))<|
    bif Di (a.2.2.1+(1:Int)<b.1)then
     bif !a.2.2.2.1 then
      Ag (EW a.1+1<=Ai)<|
      Ag (EW (a.1++[(a.2.1,a.2.2.1)])+1<=Ai)<|
      c ((((a.1++[(a.2.1,a.2.2.1)])++[b]),a.2.1,a.2.2.1,Bp,a.2.2.2.2+1))
     else
      Ag (EW a.1+1<=Ai)<|
      c (((a.1++[b]),a.2.1,a.2.2.1,a.2.2.2.1,a.2.2.2.2+1))
    else
     Aa (Lr.i64) (if b.1<a.2.1 then b.1 else a.2.1)<|
     Aa (Lr.i64) (if b.2>a.2.2.1 then b.2 else a.2.2.1)<|
     c ((a.1,(if b.1<a.2.1 then b.1 else a.2.1),(if a.2.2.1<b.2 then b.2 else a.2.2.1),a.2.2.2.1,a.2.2.2.2+1))
  else
   bif !a.2.2.2.1 then
    Ag (EW a.1+1<=Ai)<|
    d ((a.1++[(a.2.1,a.2.2.1)]))
   else
    d (a.1)) (([],e.1,e.2,Aj,0))
theorem Nx:∀(l:List Sp) (s:Sp),(Fg s l).length<=l.length+1
 | [],_=>by simp[Fg]
 |x::l,s=>by
  unfold Fg;split;· have:=Nx l s;grind
  ·split;· simp
   ·have:=Nx l (min s.1 x.1,max s.2 x.2);grind
theorem QT{b:Int} :∀(l:List Sp) (s:Sp),Cb b s->(∀x∈l,Cb b x)->∀x∈Fg s l,Cb b x
 | [],s,h,_=>by grind[Fg]
 |y::l,s,h,d=>by
  have e:=d y (by simp);have c:∀x∈l,Cb b x:=λx a=>d x (by grind);unfold Fg;split
  ·intro x a;rcases Aav.1 a with rfl|a;· omega
   ·exact QT l s h c x a
  ·split
   ·grind
   ·exact QT l _ (by unfold Cb at*;dsimp only;omega) c
theorem jF{nx:List Sp->Option (List Sp)}{P:List Sp->Prop}(L:b<=2000000000000000)(H:∀x∈l,Cb b x)(C:Cb b s)(D:s.1<=s.2)(B:Nf l)(N:l.length<1000000000)(M:l.length<fu)
  (u:Ok (nx (Fg s l)) P):Ok (addT fu l s nx) P:=by
 refine Zy (λ(s:List Sp×Int×Int×Bool) k=>(s.1,s.2.1,s.2.2.1,s.2.2.2,k))
  (λk z=>z.2.1<=z.2.2.1/\Cb b (z.2.1,z.2.2.1)/\z.1.length<=k+1/\(z.2.2.2=Aj->z.1.length<=k/\z.1++Fg (z.2.1,z.2.2.1) (l.drop k)=Fg s l)/\(z.2.2.2=Bp->z.1++l.drop k=Fg s l/\∀x∈l.drop k,z.2.2.1+1<x.1)) l.length ?_ ?_ fu 0 ([],s.1,s.2,Aj) ⟨D,C,by simp,λ_=>⟨by simp,rfl⟩,λh=>(by grind)⟩ (by omega) (by omega)
 ·rintro k ⟨
       out,f,a,r⟩ E w ⟨p,i,A,j,n⟩ g;dsimp only at p i A j n⊢;have o:l.drop k=l[k]::l.drop (k+1):=Aak w;have q:=H l[k] (AN w);have J:=B.ne l[k] (AN w);have y:=Fy;refine T3 (by omega) (Aah w (Abx (by grind[Cb]) ?_));have v:l[k]∈l.drop k:=by grind
  refine Ob (λc=>?_) (λc=>?_)
  ·have I:r=Aj:=by
    cases r with
    |false=>rfl
    |true=>have:=(n rfl).2 _ v;omega
   subst I;have K:=(j rfl).1;refine Abw (g (out++[l[k]],f,a,Aj) ⟨p,i,by simp;omega,λ_=>⟨by simp;omega,?_⟩,λe=>(by cases e)⟩);grind[Fg]
  ·refine Abx (by unfold Cb at i;omega) ?_;refine Ob (λd=>?_) (λd=>?_);· cases r with
    |false=>
     have K:=(j rfl).1
     ·refine Abw (PK (by simp;omega) (g ((out++[(f,a)])++[l[k]],f,a,Bp) ⟨p,i,by simp;omega,λe=>(by cases e),λ_=>⟨?_,λx q=>?_⟩⟩))
      ·rw[<-(j rfl).2,o];conv=>rhs;unfold Fg
       rw[if_neg c,if_pos d];simp
      ·have t:Nf (l.drop k):=⟨λs C=>B.ne s (List.mem_of_mem_drop C),B.ord.sublist (List.drop_sublist ..)⟩;rw[o]at t;have:=(Abj.1 t.ord).1 x q;show a+1<x.1;omega
    |true=>
     refine Qb rfl (Abw (g (out++[l[k]],f,a,Bp) ⟨p,i,by simp;omega,λe=>(by cases e),λ_=>⟨?_,λx q=>(n rfl).2 x (by rw[o];exact Aag _ q)⟩⟩));show(out++[l[k]])++l.drop (k+1)=_;rw[<-(n rfl).1,o];simp
   ·have d:¬a+1<l[k].1:=d;have F:(if l[k].1<f then l[k].1 else f)=min f l[k].1:=by split<;>omega
    have G:(if a<l[k].2 then l[k].2 else a)=max a l[k].2:=by split<;>omega
    unfold Cb at i q;dsimp only at i;refine Abx (by split<;>omega) (Abx (by split<;>omega) ?_);rw[F,G];refine g (out,min f l[k].1,max a l[k].2,r) ⟨by show min f l[k].1<=max a l[k].2;omega,by unfold Cb;dsimp only;omega,by show out.length<=k+1+1;omega,λe=>⟨by have:=(j e).1;show out.length<=k+1;omega,?_⟩,λe=>?_⟩
    ·show out++Fg (min f l[k].1,max a l[k].2) (l.drop (k+1))=_;rw[<-(j e).2,o];conv=>rhs;unfold Fg
     rw[if_neg c,if_neg d]
    ·have:=(n e).2 l[k] v;omega
 ·rintro⟨out,f,a,r⟩ E ⟨p,i,A,j,n⟩;dsimp only at p i A j n⊢;have y:=Fy;refine Qh (by show¬(l.length:Int)<l.length;omega) ?_;cases r with
  |false=>
   refine VP rf (PK (by omega) ?_);have:=(j rf).2;simp[Fg]at this;rw[this];exact u
  |true=>
   refine Qb rf ?_;have:=(n rf).1;simp at this;rw[this];exact u
theorem Oq(v:b<=2000000000000000)(hi:∀s∈l,s.1<=s.2->Cb b s)(x:l.length<1000000000)(w:l.length<fu):
  Ok (ko fu l) λr=>Nf r/\(∀n,A0 r n↔A0 l n)/\r.length<=l.length/\∀s∈r,Cb b s:=by
 have mt (k:Nat) (a:k<l.length) (n:Int):A0 (l.take (k+1)) n↔A0 (l.take k) n\/(l[k].1<=n/\n<=l[k].2):=by grind[cu,Eo,AG,Bb]
 refine SE (λk r=>Nf r/\(∀n,A0 r n↔A0 (l.take k) n)/\r.length<=k/\∀s∈r,Cb b s) l.length ⟨.nil,λn=>by simp,by simp,by simp⟩ w ?_ ?_
 ·intro k r nx a ⟨d,i,j,f⟩ g;refine T3 (by omega) (Aah a ?_);refine Ob (λc=>?_) (λc=>?_)
  ·have c:l[k].2<l[k].1:=c;refine g r ⟨d,λn=>?_,by omega,f⟩;rw[mt k a,i];constructor;· exact .inl
   ·rintro(h|h);· exact h
    ·omega
  ·have c:¬l[k].2<l[k].1:=c;have m:=hi l[k] (AN a) (by omega);obtain⟨p,q⟩:=KU r l[k] d (by omega);have t:r.length<1000000000:=Afr j (by omega);have u:r.length<fu:=Afr j (by omega);refine jF (nx:=λo=>nx (o,k+1)) v f m (by omega) d t u ?_;refine g (Fg l[k] r) ⟨p,λn=>?_,by have:=Nx r l[k];omega,QT r l[k] m f⟩;rw[q,mt k a,i];exact Or.comm
 simp_all[nx,Qh,MP]
def C1(b:Int)(s:Sp):Sp:=(max (-b) s.1,min b s.2)
theorem Td{b:Int}{s:Sp}(h:(C1 b s).1<=(C1 b s).2):Cb b (C1 b s):=by grind[Cb,C1]
theorem Oy{n:Int} :A0 (l.map (C1 b)) n↔A0 l n/\ -b<=n/\n<=b:=by simp only[A0,By,C1];grind
def Es(s:Sp):Prop:=GK.DW s.1/\GK.DW s.2
theorem Wi(v:∀s∈x.1,Es s)(y:x.1.length<1000000000)(u:x.1.length<fu):
  Ok (kj fu x) λr=>Nf r/\(∀n,A0 r n↔A0 x.1 n/\ -100000000000<=n/\n<=100000000000)/\r.length<=x.1.length/\∀s∈r,Cb 100000000000 s:=by
 have i:=Fy;refine SE (λk r=>r=(x.1.take k).map (C1 100000000000)) x.1.length (by simp) u ?_ ?_
 ·intro k r nx c h d;have f:=v _ (AN c);unfold Es GK.DW at f;have w:r.length=k:=by grind
  refine T3 (by omega) (Aah c ?_);refine Abx (by dsimp only;split<;>omega) (Abx (by dsimp only;split<;>omega) (PK (by dsimp only;omega) ?_));refine d _ ?_;rw[IN c,Aap,h];have j:(if x.1[k].1< -100000000000 then-100000000000 else x.1[k].1)=max (-100000000000) x.1[k].1:=by split<;>omega
  have l:(if 100000000000<x.1[k].2 then 100000000000 else x.1[k].2)=min 100000000000 x.1[k].2:=by split<;>omega
  dsimp only;rw[j,l];rfl
 ·intro r nx h;refine Qh (by omega) ?_;subst h;refine OH (Oq (b:=100000000000) (by omega) (λs f h=>?_) (by simp;omega) (by simp;omega)) λr ⟨m,o,p,q⟩=>MP ⟨m,λn=>?_,by simpa using p,q⟩;· obtain⟨t,_,rfl⟩:=By.1 f;exact Td h
  ·rw[o,Aar,Oy]
def rk(x:Int):Int:=(x/10000)*9999+x %10000-1
def ur(y:Int):Int:=(y/9999)*10000+y %9999+1
theorem Ir{x:Int}(h:x %10000≠0):ur (rk x)=x:=by grind[ur,rk]
theorem ZZ{y:Int} :rk (ur y)=y:=by grind[ur,rk]
theorem Vz{y:Int} :ur y %10000≠0:=by grind[ur]
theorem Iu{x:Int}(a:x %10000≠0)(b:y %10000≠0):rk x<rk y↔x<y:=by grind[rk]
theorem ov(x:Int):x=10000*jl x 10000+jz x 10000/\(0<=x->0<=jz x 10000/\jz x 10000<10000)/\(x<=0->jz x 10000<=0/\ -10000<jz x 10000):=by grind
theorem VQ{x:Int}(h: -1000000000000001<=x/\x<=1000000000000001):LC fu x=Ac (rk x):=by
 have d:kg fu x=Ac (x/10000):=by
  obtain⟨f,t2,t3⟩:=ov x;have:Ok (kg fu x) (λr=>r=x/10000):=by
   refine Abw (Aao (Abw (Aao (Ob (λc=>Aao (MP (by omega))) (λc=>MP ?_)))));refine Eq.trans (b:=jl x 10000) ?_ (by omega);cases x with
   |ofNat a=>rfl
   |negSucc a=>
    show(Nat.rec (0:Int) (λn _=>Int.negSucc n) ((a+1)/10000):Int)= -(((a+1)/10000:Nat):Int);cases(a+1)/10000<;>rfl
  exact this.eq
 refine(BY d (Aao (Aao (Aao (Aao (Aao (MP (P:=λr=>r=rk x) ?_))))))).eq;grind[rk]
def NT(s:Sp):Int:=let a:=max (-1000000000000000) s.1;if a %10000=0 then a+1 else a
def NK(s:Sp):Int:=let a:=min 1000000000000000 s.2;if a %10000=0 then a-1 else a
theorem Uz(s:Sp):NT s=if max (-1000000000000000) s.1 %10000=0 then max (-1000000000000000) s.1+1 else max (-1000000000000000) s.1:=rfl
theorem UH(s:Sp):NK s=if min 1000000000000000 s.2 %10000=0 then min 1000000000000000 s.2-1 else min 1000000000000000 s.2:=rfl
def SI(s:Sp):List Sp:=if NT s<=NK s then [(NT s,NK s)]else []
def G7(s:Sp):Sp:=(rk s.1,rk s.2)
def K4(s:Sp):Sp:=(ur s.1,ur s.2)
def xj(s:Sp):Prop:=(NT s %10000≠0/\ -1000000000000000<=NT s)/\(NK s %10000≠0/\NK s<=1000000000000000)
theorem JO(s:Sp):xj s:=by grind[xj,NT,NK]
theorem P0:A0 ((l.flatMap SI).map G7) y↔A0 l (ur y)/\ -1000000000000000<=ur y/\ur y<=1000000000000000:=by
 have g:= @Vz y;have key:∀s:Sp,(rk (NT s)<=y↔NT s<=ur y)/\(y<=rk (NK s)↔ur y<=NK s):=λs=>by obtain⟨⟨c,_⟩,d,_⟩:=JO s;have a:=Iu g c;have b:=Iu d g;grind[ZZ]
 simp only[A0,By,Aad];constructor
 ·rintro⟨_,⟨t,⟨s,f,e⟩,rfl⟩,c,d⟩;unfold SI at e;split at e;· simp at e;subst e;have c:=(key s).1.1 c;have d:=(key s).2.1 d;rw[Uz]at c;rw[UH]at d;exact⟨⟨s,f,by omega,by omega⟩,by omega,by omega⟩
  grind
 ·rintro⟨⟨s,f,c,d⟩,j,k⟩;have h:NT s<=ur y:=by rw[Uz];omega
  have i:ur y<=NK s:=by rw[UH];omega
  exact⟨_,⟨(NT s,NK s),⟨s,f,by unfold SI;rw[if_pos (by omega)];simp⟩,rf⟩,(key s).1.2 h,(key s).2.2 i⟩
theorem Jc{x:Int}(h:GK.DW x):Vi fu x=Ac (Di (x %10000=0)):=by refine Ok.eq ?_;rw[Vi];grind[Abw,Aao,MP]
theorem JN(l:List Sp):(l.flatMap SI).length<=l.length:=by
 induction l with
 |nil=>simp
 |cons s l b=>
  grind[SI]
theorem SF(O:∀s∈x.2,Es s)(V:x.2.length<1000000000)(L:x.2.length<fu):
  Ok (kf fu x) λr=>Nf r/\(∀y,A0 r y↔A0 x.2 (ur y)/\ -1000000000000000<=ur y/\ur y<=1000000000000000)/\r.length<=x.2.length/\∀s∈r,Cb 1000000000000000 s:=by
 have A:=Fy;refine SE (λk r=>r=((x.2.take k).flatMap SI).map G7) x.2.length (by simp) L ?_ ?_
 ·intro k r nx q h l;have v:=O _ (AN q);unfold Es GK.DW at v;have N:r.length<=k:=by grind[Als,JN,List.length_take]
  refine T3 (by omega) (Aah q ?_);have o:=JO x.2[k];have B:(if x.2[k].1< -1000000000000000 then-1000000000000000 else x.2[k].1)=max (-1000000000000000) x.2[k].1:=by split<;>omega
  have C:(if 1000000000000000<x.2[k].2 then 1000000000000000 else x.2[k].2)=min 1000000000000000 x.2[k].2:=by split<;>omega
  have st:((x.2.take (k+1)).flatMap SI).map G7=r++(SI x.2[k]).map G7:=by rw[IN q,Acm,Aap,h];simp
  have S:NT x.2[k]=if max (-1000000000000000) x.2[k].1 %10000=0 then max (-1000000000000000) x.2[k].1+1 else max (-1000000000000000) x.2[k].1:=rfl;have T:NK x.2[k]=if min 1000000000000000 x.2[k].2 %10000=0 then min 1000000000000000 x.2[k].2-1 else min 1000000000000000 x.2[k].2:=rfl;have w:SI x.2[k]=if NT x.2[k]<=NK x.2[k]then [(NT x.2[k],NK x.2[k])]else []:=rfl;rw[w]at st;have no:¬NT x.2[k]<=NK x.2[k]->Ok (nx (r,k+1)) (λr=>Nf r/\(∀y,A0 r y↔A0 x.2 (ur y)/\ -1000000000000000<=ur y/\ur y<=1000000000000000)/\r.length<=x.2.length/\∀s∈r,Cb 1000000000000000 s):=λc=>l r (by rw[st,if_neg c];simp);have yes:∀a b,a=NT x.2[k]->b=NK x.2[k]->a<=b->Ok (Ab (LC fu a) λQ=>Ab (LC fu b) λR=>Ag (r.length+1<=Ai) (nx (r++[(Q,R)],k+1))) (λr=>Nf r/\(∀y,A0 r y↔A0 x.2 (ur y)/\ -1000000000000000<=ur y/\ur y<=1000000000000000)/\r.length<=x.2.length/\∀s∈r,Cb 1000000000000000 s):=λa b J p K=>by unfold xj at o;refine BY (VQ (by omega)) (BY (VQ (by omega)) (Abw (l _ ?_)));rw[st,if_pos (by omega),J,p];rfl
  generalize NT x.2[k]=P at*;simp only[gt_iff_lt,B,C];refine Aao (Aao (Ob (λc=>no (by omega)) (λc=>BY (Jc (by unfold GK.DW;omega)) (Ob (λz=>Aao (BY (Jc (by unfold GK.DW;omega)) (Ob (λm=>Aao (Ob (λf=>yes _ _ (by omega) (by omega) f) (λf=>no (by omega)))) (λm=>Ob (λf=>yes _ _ (by omega) (by omega) f) (λf=>no (by omega)))))) (λz=>BY (Jc (by unfold GK.DW;omega)) (Ob (λm=>Aao (Ob (λf=>yes _ _ (by omega) (by omega) f) (λf=>no (by omega)))) (λm=>Ob (λf=>yes _ _ (by omega) (by omega) f) (λf=>no (by omega)))))))))
 ·intro r nx h;refine Qh (by show¬(x.2.length:Int)<x.2.length;omega) ?_;subst h;have N:=JN x.2;rw[Aar];refine OH (Oq (b:=1000000000000000) (by omega) (λs v h=>?_) (by simp only[Aaq];omega) (by simp only[Aaq];omega)) λr ⟨F,G,H,I⟩=>MP ⟨F,λn=>?_,by simp only[Aaq]at H;omega,I⟩
  ·obtain⟨t,j,rfl⟩:=By.1 v;obtain⟨u,_,j⟩:=Aad.1 j;have o:=JO u;unfold SI at j;split at j;· simp at j;subst j;unfold xj at o;unfold Cb G7 rk;dsimp only;omega
   ·simp at j
  ·rw[G,P0]
theorem Oa(h: -1000000000000001<=y/\y<=1000000000000001):kd fu y=Ac (ur y):=by
 have t:y=9999*jl y 9999+jz y 9999/\(0<=y->0<=jz y 9999/\jz y 9999<9999)/\(y<=0->jz y 9999<=0/\ -9999<jz y 9999):=by
  have h:=Int.mul_tdiv_add_tmod y 9999;have e:jz y 9999= -jz (-y) 9999:=by rw[Int.neg_tmod];omega
  grind
 obtain⟨g,t2,t3⟩:=t;refine Ok.eq ?_;unfold ur;refine Abw (Aao (Abw (Aao (Ob (λc=>?_) (λc=>?_)))));· exact Aao (Aao (Aao (Aao (Aao (Aao (MP (by omega)))))))
 grind[Aao,MP]
theorem nr(i:∀s∈l,Cb 1000000000000000 s)(m:l.length<1000000000)(g:l.length<fu):kc fu (a,l)=Ac (a,l.map K4):=by
 refine Ok.eq ?_;have f:=Fy;refine SE (λk r=>r=(l.take k).map K4) l.length (by simp) g ?_ ?_
 ·intro k r nx b h c;have j:=i _ (AN b);unfold Cb at j;have d:r.length=k:=by grind
  refine T3 (by omega) (Aah b (BY (Oa (y:=l[k].1) (by omega)) (BY (Oa (y:=l[k].2) (by omega)) (Abw (c _ ?_)))));rw[IN b,Aap,h];rfl
 simp_all[nx,Qh,MP]
def A8(r:List Sp×List Sp)(n:Int):Prop:=A0 r.1 n/\ -100000000000<=n/\n<=100000000000
def A6(r:List Sp×List Sp)(y:Int):Prop:=A0 r.2 (ur y)/\ -1000000000000000<=ur y/\ur y<=1000000000000000
theorem MO(h1:∀s∈x.1,Es s)(h2:∀s∈x.2,Es s)(p:x.1.length<1000000000)(q:x.2.length<1000000000)(l:x.1.length<fu)(o:x.2.length<fu):
  Ok (Q3 fu x) λr=> ∃m,r.2=m.map K4/\Nf r.1/\(∀s∈r.1,Cb 100000000000 s)/\Nf m/\(∀s∈m,Cb 1000000000000000 s)/\(∀n,A0 r.1 n↔A8 x n)/\(∀y,A0 m y↔A6 x y)/\r.1.length<=x.1.length/\m.length<=x.2.length:=by
 refine OH (Wi h1 p l) λa ⟨d,f,g,h⟩=>OH (SF h2 q o) λm ⟨i,j,k,c⟩=>?_;refine BY (nr c (by omega) (by omega)) (MP ⟨m,rf,d,h,i,c,f,j,g,k⟩)
def Ou(s:Sp):Prop:=s.1 %10000≠0/\s.2 %10000≠0
def Lo(x:Int):Int:=if(x+1) %10000=0 then x+2 else x+1
theorem dN{x:Int}(a:x %10000≠0):Lo x %10000≠0:=by grind[Lo]
theorem Z1{x:Int}(h:x %10000≠0):rk (Lo x)=rk x+1:=by grind[Lo,rk]
theorem oP{x:Int}(a:x %10000≠0)(b:y %10000≠0):rk (max x y)=max (rk x) (rk y):=by have:=Iu a b;grind
theorem JD:∀(l out:List Sp),(∀s∈l,Ou s)->(∀s∈out,Ou s)->(ED Lo out l).map G7=Ht (out.map G7) (l.map G7)/\∀s∈ED Lo out l,Ou s
 | [],out,_,d=>⟨rfl,d⟩
 |s::l,out,g,d=>by
  have e:=g s (by simp);have b:∀s∈l,Ou s:=λt h=>g t (by grind);rcases Ael out with rfl|⟨o,t,rfl⟩;· exact JD l [s] b (by grind)
  ·rw[List.concat_eq_append]at d⊢;have f:=d t (by simp);have i:=Iu (dN f.2) e.1;rw[Z1 f.2]at i;unfold ED Ht;simp only[Aas,Aap,Aee,List.getLast?_append,All,Option.some_or,List.dropLast_concat]
   by_cases c:s.1<=Lo t.2;· rw[if_pos c,if_pos (show(G7 s).1<=(G7 t).2+1 by unfold G7;omega)];have:=JD l (o++[(t.1,max t.2 s.2)]) b (λu a=>by
     rcases AS.1 a with a|a;· exact d u (by simp[a])
     ·simp at a;subst a;exact⟨f.1,by have:=f.2;have:=e.2;omega⟩);simp only[Aap,Aas,Aee]at this;rw[show G7 (t.1,max t.2 s.2)=((G7 t).1,max (G7 t).2 (G7 s).2)from by unfold G7;rw[oP f.2 e.2]]at this;exact this
   ·rw[if_neg c,if_neg (show¬(G7 s).1<=(G7 t).2+1 by unfold G7;omega)];have:=JD l (o++[t]++[s]) b (λu a=>by
     rcases AS.1 a with a|a;· exact d u a
     ·simp at a;subst a;exact e);simpa only[Aap,Aas,Aee]using this
theorem Xn(h:∀s∈l,Ou s):(l.map G7).map K4=l:=by rw[Aaj];refine(Abr λs a=>?_).trans (Afi l);have:=h s a;show(ur (rk s.1),ur (rk s.2))=s;rw[Ir this.1,Ir this.2]
theorem SG(hi:∀s∈l,Cb 1000000000000000 s)(j:∀s∈l,s.1<=s.2)(q:∀s∈l,Ou s)(h:l.length<=12)(p:20<fu):
  Ok (F75 fu l) λr=> ∃m,r=m.map K4/\Nf m/\∀y,A0 m y↔A0 (l.map G7) y:=by
 have c:=Fy;have e:List.take (min l.length (Uh l.length ((0:Int),(0:Int))).length) l++List.drop (min l.length (Uh l.length ((0:Int),(0:Int))).length) (Uh l.length ((0:Int),(0:Int)))=l:=by simp
 refine Abw (PK (by omega) ?_);rw[e];refine OH (K6 h p) λr ⟨i,u⟩=>?_;have D:=i.length_eq;refine(So (g:=Lo) (b:=1000000000000000) (by omega) (λx B C=>?_) (λs j=>hi s (i.mem_iff.1 j)) (by omega) (by omega)).mono λE e=>?_;· obtain⟨F,t2,t3⟩:=ov (x+1);refine Ok.eq ?_;unfold Lo;exact Aao (Abw (Aao (Ob (λc=>Aao (MP (by omega))) (λc=>Aao (MP (by omega))))))
 ·subst e;have d:∀s∈r,Ou s:=λs h=>q s (i.mem_iff.1 h);obtain⟨v,w⟩:=JD r [] d (by simp);obtain⟨z,A⟩:=E1 (r.map G7) [] .nil (λs h=>by
   obtain⟨t,k,rfl⟩:=By.1 h;have a:=d t k;have b:=j t (i.mem_iff.1 k);have:=Iu a.2 a.1;show rk t.1<=rk t.2;omega) (by
   rw[Adn];refine u.imp_of_mem λ{a b} n o h=>?_;have:=Iu (d b o).1 (d a n).1;show rk a.1<=rk b.1;omega) (by simp);refine⟨Ht [] (r.map G7),?_,z,λy=>?_⟩;· have:=Xn w;rw[v]at this;exact this.symm
  grind[G7,Oz,Bb]
def Zf(s:Sp):List Sp:=if(C1 100000000000 s).1<=(C1 100000000000 s).2 then [C1 100000000000 s]else []
theorem V6{n:Int} :A0 (l.flatMap Zf) n↔A0 l n/\ -100000000000<=n/\n<=100000000000:=by
 rw[<-Oy];simp only[A0,Aad,By];constructor
 ·grind[Zf]
 ·rintro⟨_,⟨s,d,rfl⟩,b,c⟩;exact⟨_,⟨s,d,by grind[Zf]⟩,b,c⟩
theorem Qe(l:List Sp):(l.flatMap Zf).length<=l.length:=by
 induction l with
 |nil=>simp
 |cons s l b=>
  grind[Zf]
theorem bH:∀s∈l.flatMap Zf,s.1<=s.2/\Cb 100000000000 s:=λs b=>by grind[Zf,Td]
theorem UK:∀s∈l.flatMap SI,s.1<=s.2/\Ou s/\Cb 1000000000000000 s:=λs d=>by
 obtain⟨u,_,a⟩:=Aad.1 d;have b:=JO u;unfold xj at b;unfold SI at a;split at a;· next c=>simp at a;subst a;exact⟨c,⟨b.1.1,b.2.1⟩,by unfold Cb;omega⟩
 grind
theorem R6(h1:∀s∈x.1,Es s)(h2:∀s∈x.2,Es s)(V:x.1.length<=12)(W:x.2.length<=12)(C:20<fu):
  Ok (Xb fu x) λr=> ∃m,r.2=m.map K4/\Nf r.1/\Nf m/\(∀n,A0 r.1 n↔A8 x n)/\(∀y,A0 m y↔A6 x y):=by
 have G:=Fy;refine SE (λk r=>r=(x.1.take k).flatMap Zf) x.1.length (by simp) (by omega) ?_ ?_
 ·intro k r nx o h j;have v:=h1 _ (AN o);unfold Es GK.DW at v;have N:r.length<=k:=by rw[h];have:=Qe (x.1.take k);simp only[Abh]at this;omega
  refine T3 (by show(k:Int)<x.1.length;omega) (Aah o ?_);have q:(if x.1[k].1< -100000000000 then-100000000000 else x.1[k].1)=(C1 100000000000 x.1[k]).1:=by unfold C1;dsimp only;split<;>omega
  have t:(if 100000000000<x.1[k].2 then 100000000000 else x.1[k].2)=(C1 100000000000 x.1[k]).2:=by unfold C1;dsimp only;split<;>omega
  have st:(x.1.take (k+1)).flatMap Zf=r++Zf x.1[k]:=by rw[IN o,Acm,h];simp
  have l:Zf x.1[k]=if(C1 100000000000 x.1[k]).1<=(C1 100000000000 x.1[k]).2 then [C1 100000000000 x.1[k]]else []:=rfl;refine Abx (by dsimp only;split<;>omega) (Abx (by dsimp only;split<;>omega) ?_);dsimp only;rw[q,t];refine Ob (λc=>Abw (j _ ?_)) (λc=>j _ ?_);all_goals simp_all
 ·intro A nx w;refine Qh (by show¬(x.1.length:Int)<x.1.length;omega) ?_;rw[Aar]at w;refine SE (λk r=>r=(x.2.take k).flatMap SI) x.2.length (by simp) (by omega) ?_ ?_
  ·intro k r nx o h j;have v:=h2 _ (AN o);unfold Es GK.DW at v;have N:r.length<=k:=by rw[h];have:=JN (x.2.take k);simp only[Abh]at this;omega
   refine T3 (by show(k:Int)<x.2.length;omega) (Aah o ?_);have Z:=JO x.2[k];have q:(if x.2[k].1< -1000000000000000 then-1000000000000000 else x.2[k].1)=max (-1000000000000000) x.2[k].1:=by split<;>omega
   have t:(if 1000000000000000<x.2[k].2 then 1000000000000000 else x.2[k].2)=min 1000000000000000 x.2[k].2:=by split<;>omega
   have st:(x.2.take (k+1)).flatMap SI=r++SI x.2[k]:=by rw[IN o,Acm,h];simp
   have X:=Uz x.2[k];have Y:=UH x.2[k];have l:SI x.2[k]=if NT x.2[k]<=NK x.2[k]then [(NT x.2[k],NK x.2[k])]else []:=rfl;rw[l]at st;have no:¬NT x.2[k]<=NK x.2[k]->Ok (nx (r,k+1)) (λr=> ∃m,r.2=m.map K4/\Nf r.1/\Nf m/\(∀n,A0 r.1 n↔A8 x n)/\(∀y,A0 m y↔A6 x y)):=λc=>j r (by rw[st,if_neg c];simp);have yes:∀a b,a=NT x.2[k]->b=NK x.2[k]->a<=b->Ok (Ag (r.length+1<=Ai) (nx (r++[(a,b)],k+1))) (λr=> ∃m,r.2=m.map K4/\Nf r.1/\Nf m/\(∀n,A0 r.1 n↔A8 x n)/\(∀y,A0 m y↔A6 x y)):=λa b J u K=>by refine Abw (j _ ?_);rw[st,if_pos (by omega),J,u]
   generalize NT x.2[k]=R at*;generalize NK x.2[k]=M at*;simp only[gt_iff_lt,q,t];generalize I:max (-1000000000000000) x.2[k].1=Q at*;generalize H:min 1000000000000000 x.2[k].2=L at*;have t1:=ov Q;have t2:=ov L;refine Aao (Aao (Abw (Aao (Ob (λF=>Aao (Abw (Aao (Ob (λp=>Aao (Ob (λi=>yes _ _ (by omega) (by omega) i) (λi=>no (by omega)))) (λp=>Ob (λi=>yes _ _ (by omega) (by omega) i) (λi=>no (by omega))))))) (λF=>Abw (Aao (Ob (λp=>Aao (Ob (λi=>yes _ _ (by omega) (by omega) i) (λi=>no (by omega)))) (λp=>Ob (λi=>yes _ _ (by omega) (by omega) i) (λi=>no (by omega))))))))))
  ·intro B nx z;refine Qh (by show¬(x.2.length:Int)<x.2.length;omega) ?_;rw[Aar]at z;subst w z;have O:=Qe x.1;have P:=JN x.2;refine OH (Rt (b:=100000000000) (by omega) (λs h=>(bH s h).2) (λs h=>(bH s h).1) (Aan O V) C) λa ⟨D,E⟩=>?_;refine OH (SG (λs h=>(UK s h).2.2) (λs h=>(UK s h).1) (λs h=>(UK s h).2.1) (Aan P W) C) λr ⟨m,S,T,U⟩=>?_;exact MP ⟨m,S,D,T,λn=>by rw[E,V6];rfl,λy=>by rw[U,P0];rfl⟩
theorem gQ(h1:∀s∈x.1,Es s)(h2:∀s∈x.2,Es s)(z:x.1.length<=12)(A:x.2.length<=12)(o:20<fu)(B:20<gu):
  Ok (Q3 gu x) λr=>Xb fu x=Ac r/\∃m,r.2=m.map K4/\Nf r.1/\(∀s∈r.1,Cb 100000000000 s)/\Nf m/\(∀s∈m,Cb 1000000000000000 s)/\(∀n,A0 r.1 n↔A8 x n)/\(∀y,A0 m y↔A6 x y)/\r.1.length<=x.1.length/\m.length<=x.2.length:=by
 obtain⟨r,e,m,h⟩:=MO (fu:=gu) h1 h2 (by omega) (by omega) (by omega) (by omega);refine⟨r,e,?_,m,h⟩;obtain⟨d,f,w,p,q,t,u,v⟩:=R6 (fu:=fu) h1 h2 z A o;grind[trans,Nf.unique,Prod.ext]
def Eh(r:List Sp×List Sp)(I F:Int->Prop):Prop:= ∃m,r.2=m.map K4/\Nf r.1/\(∀s∈r.1,Cb 100000000000 s)/\Nf m/\(∀s∈m,Cb 1000000000000000 s)/\(∀n,A0 r.1 n↔I n)/\(∀y,A0 m y↔F y)
theorem Eh.unique{s:List Sp×List Sp} :Eh r I F->Eh s I F->r=s:=by rintro⟨m,c,d,_,e,_,f,g⟩ ⟨k,h,i,_,j,_,l,o⟩;grind[trans,Nf.unique,Prod.ext]
theorem Nf.aV{r:List Sp}(h:Nf r)(D:∀n,A0 r n↔A0 l n):r.length<=l.length:=by
 have E:∀s∈r,∃t∈l,t.1<=s.1/\s.1<=t.2:=λs g=>by obtain⟨t,b,k,m⟩:=(D s.1).1 ⟨s,g,Abn _,h.ne s g⟩;grind
 have key:∀(q:List Sp) (l:List Sp),q.Pairwise (λs t=>s.2+1<t.1)->(∀s∈q,s.1<=s.2)->(∀s∈q,∃t∈l,t.1<=s.1/\s.1<=t.2)->(∀s∈q,∀t∈l,t.1<=s.1->s.1<=t.2->t.2<=s.2)->q.length<=l.length:=by
  intro q;induction q with
  |nil=>simp
  |cons s q I=>
   intro l G e c d;obtain⟨t,b,k,m⟩:=c s (Aau ..);have f:=Abj.1 G;have:=I (l.erase t) f.2 (λu a=>e u (Aag _ a)) (λu a=>by
    obtain⟨v,A,o,p⟩:=c u (Aag _ a);have B:v≠t:=by grind
    exact⟨v,(Agv B).2 A,o,p⟩) (λu a v A o p=>d u (Aag _ a) v (List.mem_of_mem_erase A) o p);grind
 refine key r l h.ord h.ne E λs g t b k m=>?_;refine Agm.1 λF=>?_;have e:=h.ne s g;obtain⟨u,a,o,p⟩:=(D (s.2+1)).2 ⟨t,b,by omega,by omega⟩;have z:u≠s:=by rintro rfl;omega
 obtain⟨i,C,rfl⟩:=Aat g;obtain⟨j,y,rfl⟩:=Aat a;have x:i≠j:=by rintro rfl;exact z rfl
 rcases Nat.lt_or_gt_of_ne x with w|w;· have:=Aaw.1 h.ord i j C y w;omega
 ·have:=Aaw.1 h.ord j i y C w;omega
theorem Mo{b:List Sp}(g:a.length<fu):Ok (s4 fu (a,b)) λr=>r=Di (a=b):=by
 refine Ob (λc=>MP ?_) (λc=>?_);· grind
 ·refine V_ (λk=>a.take k=b.take k) a.length (by simp) g ?_ ?_
  ·intro k nx f h e;refine P7 (Aah f (Aah (show k<b.length by omega) (P3 (λd=>MP ?_) (λd=>e ?_))));all_goals grind[Prod.ext,cu]
  ·intro nx h;refine P8 (MP ?_);grind
theorem eqP{b:List Sp}(c:a.length<fu):s4 fu (a,b)=Ac (Di (a=b)):=(Mo c).eq
theorem eqR{b:List Sp}(c:a.length<fu):j_ fu (a,b)=Ac (Di (a=b)):=(Mo c).eq
theorem v8{a b:List Sp×List Sp}(h1:a.1.length<fu)(h2:a.2.length<fu):F78 fu (a,b)=Ac (Di (a=b)):=by refine(Ok.eq ?_);refine BY (eqP h1) (Ob (λc=>BY (eqP h2) (MP ?_)) (λc=>MP ?_));all_goals grind
theorem v7{a b:List Sp×List Sp}(h1:a.1.length<fu)(h2:a.2.length<fu):tg fu (a,b)=Ac (Di (a=b)):=by refine(Ok.eq ?_);refine BY (eqR h1) (Ob (λc=>BY (eqR h2) (MP ?_)) (λc=>MP ?_));all_goals grind
structure LB(x:List Sp×List Sp):Prop where
 f1:∀s∈x.1,Es s
 f2:∀s∈x.2,Es s
 n1:x.1.length<=12
 n2:x.2.length<=12
theorem Ep(h:LB x)(q:20<fu):
  ∃r,Xb fu x=Ac r/\Eh r (A8 x) (A6 x)/\r.1.length<=x.1.length/\r.2.length<=x.2.length:=by
 obtain⟨r,e,m,p,k,o,i,j⟩:=R6 (fu:=fu) h.f1 h.f2 h.n1 h.n2 q;refine⟨r,e,⟨m,p,k,λs f=>?_,o,λs f=>?_,i,j⟩,?_,?_⟩;· have g:=k.ne s f;have a:=((i s.1).1 ⟨s,f,Abn _,g⟩).2;have b:=((i s.2).1 ⟨s,f,g,Abn _⟩).2;grind[Cb]
 ·have g:=o.ne s f;have a:=((j s.1).1 ⟨s,f,Abn _,g⟩).2;have b:=((j s.2).1 ⟨s,f,g,Abn _⟩).2;grind[ur,Cb]
 ·exact Aan (k.aV (l:=x.1.flatMap Zf) λn=>(i n).trans V6.symm) (Qe _)
 ·rw[p,Aaq];refine Aan (o.aV (l:=(x.2.flatMap SI).map G7) λn=>(j n).trans P0.symm) ?_;grind[Als,JN]
theorem P1(h:LB x)(o:20<fu)(p:20<gu):
  ∃r,Q3 gu x=Ac r/\Xb fu x=Ac r/\Eh r (A8 x) (A6 x)/\r.1.length<=x.1.length/\r.2.length<=x.2.length:=by
 obtain⟨r,e,c,m,b,d,f,g,i,j,k,l,n⟩:=gQ (fu:=fu) (gu:=gu) h.f1 h.f2 h.n1 h.n2 o p;exact⟨r,e,c,⟨m,b,d,f,g,i,j,k⟩,l,by grind⟩
theorem Gj:∀(l:List Sp) (lo hi:Int),(DR lo hi l).length<=l.length+1
 | [],lo,hi=>by grind[DR]
 |s::l,lo,hi=>by have:=Gj l (s.2+1) hi;grind[DR]
theorem SC(p:b<=2000000000000000)(n:∀s∈l,Cb b s)(r:l.length<1000000000)(q:l.length<fu):j7 fu (l,lo,hi)=Ac (DR lo hi l):=by
 refine(Ok.eq ?_);have i:=Fy;generalize j:DR lo hi l=G;refine Zy (λ(s:List Sp×Int) k=>(s.1,s.2,k)) (λk s=>s.1.length<=k/\s.1++DR s.2 hi (l.drop k)=G) l.length ?_ ?_ fu 0 ([],lo) ⟨by simp,j⟩ (by omega) (by omega)
 ·rintro k ⟨out,d⟩ nx h ⟨g,a⟩ e;dsimp only at g a⊢;have m:l.drop k=l[k]::l.drop (k+1):=Aak h;have o:=n l[k] (AN h);unfold Cb at o;have eq:=a;rw[m]at eq;unfold DR at eq;refine P7 (Aah h (Ob (λc=>?_) (λc=>?_)));· refine Aao (Abw (Aao (e (out++[(d,l[k].1-1)],l[k].2+1) ⟨by grind,?_⟩)));grind
  ·rw[if_neg c]at eq;exact Aao (e (out,l[k].2+1) ⟨by show out.length<=k+1;omega,eq⟩)
 ·rintro⟨out,d⟩ nx ⟨g,a⟩;dsimp only at g a⊢;rw[Adk]at a;unfold DR at a;refine P8 (Ob (λc=>Abw (MP ?_)) (λc=>MP ?_));· rw[if_pos c]at a;exact a
  ·rw[if_neg c]at a;simpa using a
def Ut(I:Int->Prop)(n:Int):Prop:=(-100000000000<=n/\n<=100000000000)/\¬I n
def XP(F:Int->Prop)(y:Int):Prop:=(-999900000000000<=y/\y<=999899999999999)/\¬F y
theorem Qk:∀(l:List Sp),lo>= -b->hi<=b->Nf (DR lo hi l)->(∀n,A0 (DR lo hi l) n->lo<=n/\n<=hi)->∀s∈DR lo hi l,Cb b s:=λl f g e d s c=>by have h:=e.ne s c;have a:=d s.1 ⟨s,c,Abn _,h⟩;have b:=d s.2 ⟨s,c,h,Abn _⟩;grind[Cb]
structure jI(x:List Sp×List Sp)(fu:Nat):Prop where
 f1:∀s∈x.1,Es s
 f2:∀s∈x.2,Es s
 n1:x.1.length<100000000/\x.1.length+2<fu
 n2:x.2.length<100000000/\x.2.length+2<fu
theorem LB.lg(h:LB x)(a:20<fu):jI x fu:=by have:=h.n1;have:=h.n2;exact⟨h.f1,h.f2,by omega,by omega⟩
theorem Jt(h:jI x fu):
  ∃r,TM fu x=Ac r/\Eh r (Ut (A8 x)) (XP (A6 x))/\r.1.length<=x.1.length+1/\r.2.length<=x.2.length+1:=by
 have F:=h.n1;have G:=h.n2;have:Ok (TM fu x) (λr=>Eh r (Ut (A8 x)) (XP (A6 x))/\r.1.length<=x.1.length+1/\r.2.length<=x.2.length+1):=by
  refine OH (Wi h.f1 (by omega) (by omega)) λa ⟨v,w,B,i⟩=>BY (SC (b:=100000000000) (by omega) i (by omega) (by omega)) (OH (SF h.f2 (by omega) (by omega)) λm ⟨j,f,C,z⟩=>BY (SC (b:=1000000000000000) (by omega) z (by omega) (by omega)) ?_);have A:∀s∈a, -100000000000<=s.1/\s.2<=100000000000:=λs d=>by grind[Cb]
  have kb:∀s∈m, -999900000000000<=s.1/\s.2<=999899999999999:=λs d=>by have h:=j.ne s d;have p:=((f s.1).1 ⟨s,d,Abn _,h⟩).2;have q:=((f s.2).1 ⟨s,d,h,Abn _⟩).2;grind[ur]
  obtain⟨k,l⟩:=Gi a (-100000000000) 100000000000 v A;obtain⟨o,t⟩:=Gi m (-999900000000000) 999899999999999 j kb;have D:=Gj a (-100000000000) 100000000000;have E:=Gj m (-999900000000000) 999899999999999;have u:=Qk (b:=1000000000000000) m (by omega) (by omega) o (λn g=>((t n).1 g).1);refine BY (nr u (by omega) (by omega)) (MP ⟨⟨_,rfl,k,Qk a (by omega) (by omega) k (λn g=>((l n).1 g).1),o,u,λn=>?_,λy=>?_⟩,by dsimp only;omega,by rw[Aaq];omega⟩);· rw[l,w];rfl
  ·rw[t,f];rfl
 trivial
def Gk(g p:Int->Int):Int->Int->List Sp->List Sp
 |b,a,[]=>if b<=a then [(b,a)]else []
 |b,a,s::l=>if b<=p s.1 then(b,p s.1)::Gk g p (g s.2) a l else Gk g p (g s.2) a l
theorem bU:∀(l:List Sp) (lo hi:Int),Gk (· +1) (· -1) lo hi l=DR lo hi l
 | [],_,_=>rfl
 |s::l,lo,hi=>by unfold Gk DR;rw[bU l];grind
def Q6(x:Int):Int:=if(x-1) %10000=0 then x-2 else x-1
theorem dz{x:Int}(a:x %10000≠0):Q6 x %10000≠0:=by grind[Q6]
theorem Z0{x:Int}(h:x %10000≠0):rk (Q6 x)=rk x-1:=by grind[Q6,rk]
theorem Wn:∀(l:List Sp) (lo hi:Int),lo %10000≠0->hi %10000≠0->(∀s∈l,Ou s)->(Gk Lo Q6 lo hi l).map G7=DR (rk lo) (rk hi) (l.map G7)/\∀s∈Gk Lo Q6 lo hi l,Ou s
 | [],lo,hi,b,d,_=>by
  have:=Iu d b;unfold Gk DR;by_cases c:lo<=hi;· simp only[Aee];rw[if_pos c,if_pos (by omega)];exact⟨rfl,λs a=>by simp at a;subst a;trivial⟩
  grind
 |s::l,lo,hi,b,d,g=>by
  have a:=g s (by simp);obtain⟨f,i⟩:=Wn l (Lo s.2) hi (dN a.2) d λt h=>g t (by grind);have:=Iu (dz a.1) b;rw[Z0 a.1]at this;rw[Z1 a.2]at f;unfold Gk;simp only[Aas];unfold DR;by_cases c:lo<=Q6 s.1
  ·rw[if_pos c,if_pos (show rk lo<(G7 s).1 by show rk lo<rk s.1;omega)];refine⟨?_,λt e=>?_⟩;· rw[Aas,f];show(rk lo,rk (Q6 s.1))::_=_;rw[Z0 a.1];rfl
   ·rcases Aav.1 e with rfl|e;· exact⟨b,dz a.1⟩
    simp_all
  grind[rk,G7]
theorem Qj{nb na:Int->Option Int}{g p:Int->Int}{x0:Sp}{l:List Sp}(h1:∀s∈l,nb s.1=Ac (p s.1))(h2:∀s∈l,na s.2=Ac (g s.2)):∀(d fu k:Nat) (b:Int),k+d=l.length->d<fu->
  Ok (Ad fu (λ(e:Int×Nat) f=>
  bif Di ((↑e.2:Int)<(↑(EW l):Int))then
   Ab (idx l (↑e.2:Int)) λi=>
   Ab (nb i.1) λm=>
   bif Di (e.1<=m)then
    IG ((e.1,m)) (
     Ac (([],Bp))) (
     Ab (na i.2) λt=>
     f ((t,e.2+1)))
   else
    Ab (na i.2) λu=>
    f ((u,e.2+1))
  else
   bif Di (e.1<=x0.2)then
    IG ((e.1,x0.2)) (
     Ac (([],Bp))) (
     Ac (([],Bp)))
   else
    Ac (([],Bp))) ((b,k))) λr=>r=(Gk g p b x0.2 (l.drop k),Bp)
 |_,0,_,_,_,o=>by omega
 |0,fu+1,k,b,q,_=>by
  obtain rfl:k=l.length:=by omega
  rw[Adk];unfold Gk;refine Qh (by omega) (Ob (λc=>MP ?_) (λc=>MP ?_));all_goals grind
 |d+1,fu+1,k,b,q,o=>by
  have a:k<l.length:=by omega
  rw[Aak a];unfold Gk;have n:=h1 _ (AN a);have j:=h2 _ (AN a);have h:=Qj (x0:=x0) h1 h2 d fu (k+1) (g l[k].2) (by omega) (by omega);refine T3 (by omega) (Aah a (BY n (Ob (λc=>?_) (λc=>?_))));· rw[if_pos c];have h:=h.eq;refine⟨_,?_,rfl⟩;rw[j];show IG _ _ (Ad fu _ (g l[k].2,k+1))=_;rw[h];rfl
  simp_all[if_neg,BY]
theorem KH{x0:Sp}{b:List Sp} :∀(l o:List Sp),o.length+l.length<4294967296->IC (λ(e:Int×Int) (c:List (Int×Int)) a=>Ag (EW c+1<=Ai)<|a ((c++[e]))) (λf=>Rg Bp<|some ((f,x0,b))) l o=Ac (o++l,x0,b)
 | [],o,_=>by simp[IC,Rg]
 |y::l,o,h=>by have d:=Fy;rw[IC,nL (show o.length+1<=Ai by omega)];rw[KH l (o++[y]) (by grind)];simp
theorem M4(g p:Int->Int):∀(l:List Sp) (lo hi:Int),(Gk g p lo hi l).length<=l.length+1
 | [],lo,hi=>by grind[Gk]
 |s::l,lo,hi=>by have:=M4 g p l (g s.2) hi;grind[Gk]
theorem bT(b:∀s∈l,Cb 100000000000 s)(f:l.length<1000000000)(e:l.length<fu):uA fu (x0,l)=Ac (DR x0.1 x0.2 l,x0,l):=by
 refine(Ok.eq ?_);have c:uC fu (x0,l)=Ac (DR x0.1 x0.2 l,Bp):=by
  refine(Ok.eq ?_);have:=Qj (nb:=λx=>uD fu x) (na:=λx=>xZ fu x) (g:=(· +1)) (p:=(· -1)) (x0:=x0) (l:=l) (λs a=>by
   refine(Ok.eq ?_);have:=b s a;unfold Cb at this;exact Aao (MP rf)) (λs a=>by
   refine(Ok.eq ?_);have:=b s a;unfold Cb at this;exact Aao (MP rf)) l.length fu 0 x0.1 (by omega) e;rw[bU]at this;trivial
 have h:=Gj l x0.1 x0.2;have d:uB fu (x0,l)=Ac (DR x0.1 x0.2 l,x0,l):=by refine(Ok.eq ?_);exact BY c ⟨_,(KH _ [] (by grind)),rf⟩
 exact BY d (MP rf)
theorem bS(b:∀s∈l,Cb 1000000000000000 s)(i:l.length<1000000000)(f:l.length<fu):uv fu (x0,l)=Ac (Gk Lo Q6 x0.1 x0.2 l,x0,l):=by
 refine(Ok.eq ?_);have d:ux fu (x0,l)=Ac (Gk Lo Q6 x0.1 x0.2 l,Bp):=by
  refine(Ok.eq ?_);exact Qj (nb:=λx=>uy fu x) (na:=λx=>xY fu x) (g:=Lo) (p:=Q6) (x0:=x0) (l:=l) (λs a=>by
   refine(Ok.eq ?_);unfold Q6;have:=b s a;unfold Cb at this;obtain⟨h,t2,t3⟩:=ov (s.1-1);exact Aao (Abw (Aao (Ob (λc=>Aao (MP (by omega))) (λc=>Aao (MP (by omega))))))) (λs a=>by
   refine(Ok.eq ?_);unfold Lo;have:=b s a;unfold Cb at this;obtain⟨h,t2,t3⟩:=ov (s.2+1);exact Aao (Abw (Aao (Ob (λc=>Aao (MP (by omega))) (λc=>Aao (MP (by omega))))))) l.length fu 0 x0.1 (by omega) f
 have j:=M4 Lo Q6 l x0.1 x0.2;have e:uw fu (x0,l)=Ac (Gk Lo Q6 x0.1 x0.2 l,x0,l):=by refine(Ok.eq ?_);exact BY d ⟨_,(KH _ [] (by simp;omega)),rf⟩
 exact BY e (MP rf)
theorem Eh.congr{b a:Int->Prop}(h:Eh r I F)(hi:∀n,I n↔b n)(k:∀y,F y↔a y):Eh r b a:=by obtain⟨m,c,d,e,f,g,i,j⟩:=h;exact⟨m,c,d,e,f,g,λn=>(i n).trans (hi n),λy=>(j y).trans (k y)⟩
theorem MM(h:∀s∈l,Ou s) :A0 l (ur y)↔A0 (l.map G7) y:=by
 have d:= @Vz y;have key:∀s∈l,(s.1<=ur y/\ur y<=s.2)↔((G7 s).1<=y/\y<=(G7 s).2):=λs c=>by have a:=Iu d (h s c).1;have b:=Iu (h s c).2 d;rw[ZZ]at a b;show _↔(rk s.1<=y/\y<=rk s.2);omega
 grind[A0]
theorem FX:(m.map K4).map G7=m:=by rw[Aaj];refine(Abr λs _=>?_).trans (Afi m);show(rk (ur s.1),rk (ur s.2))=s;grind[ZZ]
theorem Kd{m:List Sp} :∀s∈m.map K4,Ou s:=λs a=>by obtain⟨t,_,rfl⟩:=By.1 a;exact⟨Vz,Vz⟩
theorem VZ(h:LB x)(Z:x.1.length<=11)(n2:x.2.length<=11)(B:20<fu):
  ∃r,kU fu x=Ac r/\Eh r (Ut (A8 x)) (XP (A6 x))/\r.1.length<=x.1.length+1/\r.2.length<=x.2.length+1:=by
 obtain⟨a,e,⟨m,g,D,w,z,V,E,i⟩,W,am⟩:=Ep h B;have Q:∀s∈a.1, -100000000000<=s.1/\s.2<=100000000000:=λs d=>by grind[Cb]
 have ends:∀s∈m,(-1000000000000000<=ur s.1/\ur s.1<=1000000000000000)/\(-1000000000000000<=ur s.2/\ur s.2<=1000000000000000):=λs d=>by have h:=z.ne s d;exact⟨((i s.1).1 ⟨s,d,Abn _,h⟩).2,((i s.2).1 ⟨s,d,h,Abn _⟩).2⟩
 have kb:∀s∈m, -999900000000000<=s.1/\s.2<=999899999999999:=λs d=>by grind[ur]
 have nm:∀s∈a.2,Ou s:=by grind[Kd]
 have P:∀s∈a.2,Cb 1000000000000000 s:=λs d=>by rw[g]at d;grind[Cb,K4]
 obtain⟨K,A⟩:=Gi a.1 (-100000000000) 100000000000 D Q;obtain⟨O,l⟩:=Gi m (-999900000000000) 999899999999999 z kb;have X:=Gj a.1 (-100000000000) 100000000000;have Y:=M4 Lo Q6 a.2 (-999999999999999) 999999999999999;obtain⟨v,C⟩:=Wn a.2 (-999999999999999) 999999999999999 (by omega) (by omega) nm;rw[g,FX,<-g,show rk (-999999999999999)= -999900000000000 from by decide,show rk 999999999999999=999899999999999 from by decide]at v;have L:=Qk (b:=100000000000) a.1 (by omega) (by omega) K (λn M=>((A n).1 M).1);have R:∀y,A0 (Gk Lo Q6 (-999999999999999) 999999999999999 a.2) (ur y)↔XP (A6 x) y:=λy=>by rw[MM C,v,l,i];rfl
 have J:∀s∈Gk Lo Q6 (-999999999999999) 999999999999999 a.2,Cb 1000000000000000 s:=λs d=>by
  have f:G7 s∈DR (-999900000000000) 999899999999999 m:=by rw[<-v];exact By.2 ⟨s,d,rfl⟩
  have h:=O.ne _ f;have p:=((l _).1 ⟨_,f,Abn _,h⟩).1;have q:=((l _).1 ⟨_,f,h,Abn _⟩).1;have n:=C s d;unfold G7 rk at p q;unfold Cb;omega
 have S:LB (DR (-100000000000) 100000000000 a.1,Gk Lo Q6 (-999999999999999) 999999999999999 a.2):=⟨λs d=>by
  have:=L s d;unfold Cb at this;unfold Es GK.DW;omega,λs d=>by
  have:=J s d;unfold Cb at this;unfold Es GK.DW;omega,by dsimp only;omega,by dsimp only;omega⟩;obtain⟨r,I,f,T,U⟩:=Ep S B;refine⟨r,?_,f.congr (λn=>?_) (λy=>?_),?_,?_⟩
 ·refine(Ok.eq ?_);have F:Vo fu () =Ac ([((-100000000000:Int),(100000000000:Int))],[((-999999999999999:Int),(999999999999999:Int))]):=by
   refine(Ok.eq ?_);rw[Vo];exact BY (rf) (MP rf)
  have G:uE fu (a.1,(-100000000000,100000000000))=Ac ((-100000000000,100000000000),a.1):=(rfl);have H:uz fu (a.2,(-999999999999999,999999999999999))=Ac ((-999999999999999,999999999999999),a.2):=(rfl);have o:a.1.length<1000000000:=by omega
  have u:a.2.length<1000000000:=by omega
  have j:a.1.length<fu:=by omega
  have k:a.2.length<fu:=by omega
  refine BY e (BY F (BY (show idx _ _=Ac (-100000000000,100000000000)from rfl) (BY G (BY (bT w o j) (BY (show idx _ _=Ac (-999999999999999,999999999999999)from rfl) (BY H (BY (bS P u k) (BY I (MP rf)))))))))
 ·show(A0 (DR (-100000000000) 100000000000 a.1) n/\ -100000000000<=n/\n<=100000000000)↔_;rw[A,E];unfold Ut;exact⟨Aip,λh=>⟨h,h.1⟩⟩
 ·show(A0 _ (ur y)/\ -1000000000000000<=ur y/\ur y<=1000000000000000)↔_;rw[R];exact⟨Aip,λh=>⟨h,by have:=h.1;unfold ur;omega⟩⟩
 ·dsimp only at T;have:=Gj a.1 (-100000000000) 100000000000;omega
 grind
theorem gF(h:LB x)(j:x.1.length<=11)(k:x.2.length<=11)(g:20<fu)(i:20<gu):
  ∃r,TM gu x=Ac r/\kU fu x=Ac r/\Eh r (Ut (A8 x)) (XP (A6 x))/\r.1.length<=x.1.length+1/\r.2.length<=x.2.length+1:=by
 obtain⟨r,e,b,d⟩:=Jt (fu:=gu) (h.lg i);obtain⟨s,c,f,_⟩:=VZ (fu:=fu) h j k g;exact⟨r,e,by rw[c,f.unique b],b,d⟩
theorem Eh.lg(h:Eh r I F)(g:r.1.length<100000000/\r.1.length+2<fu)(i:r.2.length<100000000/\r.2.length+2<fu):jI r fu:=by
 obtain⟨m,c,j,d,k,e,_,_⟩:=h;refine⟨λs b=>?_,λs b=>?_,g,i⟩;· have:=d s b;unfold Cb at this;unfold Es GK.DW;omega
 ·rw[c]at b;obtain⟨t,f,rfl⟩:=By.1 b;have:=e t f;unfold Cb at this;unfold Es GK.DW K4 ur;omega
theorem Eh.A8(h:Eh r I F)(n:Int):A8 r n↔I n/\ -100000000000<=n/\n<=100000000000:=by obtain⟨m,b,c,d,e,f,a,_⟩:=h;grind[GL.A8]
theorem Eh.A6(h:Eh r I F)(y:Int):A6 r y↔F y/\ -1000000000000000<=ur y/\ur y<=1000000000000000:=by
 obtain⟨m,a,c,d,f,g,i,b⟩:=h;have e:m=r.2.map G7:=by rw[a,FX]
 have nm:∀s∈r.2,Ou s:=by grind[Kd]
 unfold GL.A6;rw[MM nm,<-e,b]
theorem JK(h:A6 x y): -999900000000000<=y/\y<=999899999999999:=by have:=h.2;grind[ur]
theorem af{y:List Sp×List Sp}(b:jI x fu)(c:jI y fu)(z:x.1.length+y.1.length<fu/\x.2.length+y.2.length<fu):
  ∃r,j6 fu (x,y)=Ac r/\Eh r (λn=>A8 x n\/A8 y n) (λn=>A6 x n\/A6 y n)/\r.1.length<=x.1.length+y.1.length/\r.2.length<=x.2.length+y.2.length:=by
 have t:=b.n1;have u:=b.n2;have v:=c.n1;have w:=c.n2;have g:=Fy;obtain⟨r,e,m,f,h,i,j,k,l,o,p,q⟩:=MO (fu:=fu) (x:=(x.1++y.1,x.2++y.2)) (λs d=>(AS.1 d).elim (b.f1 s) (c.f1 s)) (λs d=>(AS.1 d).elim (b.f2 s) (c.f2 s)) (by grind) (by grind) (by grind) (by simp_all);refine⟨r,?_,⟨m,f,h,i,j,k,λn=>?_,λn=>?_⟩,by simpa using p,by rw[f];simpa using q⟩;· refine(Ok.eq ?_);exact Abw (PK (by simp;omega) (Abw (PK (by simp;omega) (BY e (MP rfl)))))
 all_goals simp_all[A8,A6,Eo,or_and_right]
theorem jB{y:List Sp×List Sp}(m:jI x fu)(s:jI y fu)(t:x.1.length+y.1.length+5<fu/\x.2.length+y.2.length+5<fu)(v:x.1.length+y.1.length+5<100000000/\x.2.length+y.2.length+5<100000000):
  ∃r,s_ fu (x,y)=Ac r/\Eh r (λn=>A8 x n/\A8 y n) (λn=>A6 x n/\A6 y n)/\r.1.length<=x.1.length+y.1.length+3/\r.2.length<=x.2.length+y.2.length+3:=by
 obtain⟨p,i,f,A,B⟩:=Jt m;obtain⟨q,eq,g,C,D⟩:=Jt s;obtain⟨o,h,e,w,z⟩:=af (fu:=fu) (f.lg (by omega) (by omega)) (g.lg (by omega) (by omega)) (by omega);obtain⟨r,j,l,E,F⟩:=Jt (fu:=fu) (e.lg (by omega) (by omega));refine⟨r,?_,l.congr (λn=>?_) (λn=>?_),by omega,by omega⟩;· refine(Ok.eq ?_);exact BY i (BY eq (BY h (BY j (MP rfl))))
 ·unfold Ut;rw[e.A8,f.A8,g.A8];unfold Ut;constructor
  ·grind
  ·rintro⟨a,b⟩;exact⟨a.2,λ⟨k,_⟩=>k.elim (λk=>k.1.2 a) (λk=>k.1.2 b)⟩
 ·unfold XP;rw[e.A6,f.A6,g.A6];constructor
  ·rintro⟨a,b⟩;have u: -1000000000000000<=ur n/\ur n<=1000000000000000:=by grind[ur]
   constructor;· exact GB λc=>b ⟨.inl ⟨⟨a,c⟩,u⟩,u⟩
   ·exact GB λc=>b ⟨.inr ⟨⟨a,c⟩,u⟩,u⟩
  ·rintro⟨a,b⟩;exact⟨JK a,λ⟨k,_⟩=>k.elim (λk=>k.1.2 a) (λk=>k.1.2 b)⟩
theorem XS{y:List Sp×List Sp}(e:jI x fu)(f:jI y fu)(g:x.1.length+y.1.length+8<fu/\x.2.length+y.2.length+8<fu)(i:x.1.length+y.1.length+8<100000000/\x.2.length+y.2.length+8<100000000):
  ∃r,K0 fu (x,y)=Ac r/\Eh r (λn=>A8 x n/\¬A8 y n) (λn=>A6 x n/\¬A6 y n)/\r.1.length<=x.1.length+y.1.length+4/\r.2.length<=x.2.length+y.2.length+4:=by
 obtain⟨q,eq,b,j,k⟩:=Jt f;obtain⟨r,c,d,l,m⟩:=jB (fu:=fu) e (b.lg (by omega) (by omega)) (by omega) (by omega);refine⟨r,?_,d.congr (λn=>?_) (λn=>?_),by omega,by omega⟩;· refine(Ok.eq ?_);exact BY eq (BY c (MP rfl))
 ·rw[b.A8];exact⟨λh=>⟨h.1,h.2.1.2⟩,λh=>⟨h.1,⟨h.1.2,h.2⟩,h.1.2⟩⟩
 ·rw[b.A6];exact⟨λh=>⟨h.1,h.2.1.2⟩,λh=>⟨h.1,⟨JK h.1,h.2⟩,h.1.2⟩⟩
def C_(x y:Sp):Option Sp:=if max x.1 y.1<=min x.2 y.2 then Ac (max x.1 y.1,min x.2 y.2)else C7
theorem Gl{x:Sp}{b:List Sp} :EI (x::a) b=b.filterMap (C_ x)++EI a b:=rfl
theorem Ix(s:Sp):∀b:List Sp,Nf b->(b.filterMap (C_ s)).length+(b.filter λy=>Di (s.2<y.2)).length<=b.length+1
 | [],_=>by simp
 |y::b,h=>by
  by_cases c:s.2<y.2
  ·have e:b.filterMap (C_ s)=[]:=List.filterMap_eq_nil_iff.2 λz d=>by
    have:=(Abj.1 h.ord).1 z d;unfold C_;rw[if_neg (by omega)]
   have l:=List.length_filter_le (λy:Sp=>Di (s.2<y.2)) b;rw[Adr,e,Aln (by simpa using c)];cases C_ s y<;>simp<;>omega
  ·have f:=Ix s b h.tail;rw[Adr,Alo (by simpa using c)];cases C_ s y<;>simp<;>omega
theorem Lc{t:Int}{x:Sp}(h:t<x.1):∀b:List Sp,(b.filter λy=>Di (t<y.2)).filterMap (C_ x)=b.filterMap (C_ x)
 | []=>rfl
 |y::b=>by
  have d:=Lc h b;by_cases c:t<y.2;· rw[Aln (by simpa using c),Adr,Adr,d]
  ·rw[Alo (by simpa using c),d,Adr];have:C_ x y=C7:=by unfold C_;rw[if_neg (by omega)]
   rw[this]
theorem Lj{t:Int} :∀ {a:List Sp},(∀x∈a,t<x.1)->∀b:List Sp,EI a (b.filter λy=>Di (t<y.2))=EI a b
 | [],_,_=>rfl
 |x::a,h,b=>by rw[Gl,Gl,Lj (λy c=>h y (by simp[c])),Lc (h x (by simp))]
theorem Nb:∀(a b:List Sp),Nf a->Nf b->(EI a b).length<=a.length+b.length
 | [],b,_,_=>by simp[EI]
 |s::a,b,f,d=>by have i:=Ix s b d;have g:Nf (b.filter λy=>Di (s.2<y.2)):=⟨λx e=>d.ne x (Aaz.1 e).1,d.ord.sublist Aco⟩;have h:=Nb a _ f.tail g;rw[Lj (λx e=>by have:=(Abj.1 f.ord).1 x e;omega)]at h;rw[Gl,Aaa,Abo];omega
theorem HD(x:Sp)(b:List Sp):(b.filterMap (C_ x)).length<=b.length:=List.length_filterMap_le ..
theorem iZ{b:List Sp}(hc:c<=2000000000000000)(y:∀s∈a,Cb c s)(z:∀s∈b,Cb c s)(n:a.length<=1000/\b.length<=1000)(u:a.length<fu/\b.length<fu):
  Ok (YU fu (a,b)) λr=>r=EI a b:=by
 rw[YU];have v:=Fy;refine SE (λk r=>r=EI (a.take k) b/\r.length<=k*1000) a.length ⟨by simp[EI],by simp⟩ u.1 ?_ ?_
 ·intro k r nx o ⟨h,C⟩ p;have A:=y _ (AN o);unfold Cb at A;have st:EI (a.take (k+1)) b=r++b.filterMap (C_ a[k]):=by
   rw[IN o,h];unfold EI;rw[Acm];simp;rfl
  refine T3 (by show(k:Int)<a.length;omega) (Aah o ?_);refine SE (λj q=>q=r++(b.take j).filterMap (C_ a[k])) b.length (by simp) u.2 ?_ ?_
  ·intro j q t m g f;have B:=z _ (AN m);unfold Cb at B;have D:q.length<=k*1000+1000:=by
    rw[g,Aaa];have:=HD a[k] (b.take j);rw[Abh]at this;omega
   have w:(if a[k].1<b[j].1 then b[j].1 else a[k].1)=max a[k].1 b[j].1:=by split<;>omega
   have x:(if b[j].2<a[k].2 then b[j].2 else a[k].2)=min a[k].2 b[j].2:=by split<;>omega
   have i:(b.take (j+1)).filterMap (C_ a[k])=(b.take j).filterMap (C_ a[k])++(C_ a[k] b[j]).toList:=by rw[IN m,List.filterMap_append,Adr];cases C_ a[k] b[j]<;>rfl
   refine T3 (by show(j:Int)<b.length;omega) (Aah m (Abx (by dsimp only;split<;>omega) (Abx (by dsimp only;split<;>omega) ?_)));dsimp only;rw[w,x];refine Ob (λd=>Abw (f _ ?_)) (λd=>f _ ?_);· rw[i,g];unfold C_;rw[if_pos d];simp
   ·rw[i,g];unfold C_;rw[if_neg d];simp
  ·intro q t g;refine Qh (by show¬(b.length:Int)<b.length;omega) (p q ⟨?_,?_⟩);· rw[g,st,Aar]
   ·rw[g,Aaa];have:=HD a[k] (b.take b.length);rw[Abh]at this;omega
 ·intro r nx ⟨h,_⟩;refine Qh (by show¬(a.length:Int)<a.length;omega) (MP ?_);rw[h,Aar]
theorem cV{b:List Sp}(hc:c<=2000000000000000)(d:∀s∈a,Cb c s)(e:∀s∈b,Cb c s)(n:a.length<=1000/\b.length<=1000)(f:a.length<fu/\b.length<fu):YU fu (a,b)=Ac (EI a b):=(iZ hc d e n f).eq
theorem cU{b:List Sp}(e:∀s∈a,Cb c s)(f:∀s∈b,Cb c s):∀s∈EI a b,s.1<=s.2/\Cb c s:=λs g=>by obtain⟨x,i,h⟩:=Aad.1 g;grind[Cb]
theorem iY{b:List Sp} :EI (a.map K4) (b.map K4)=(EI a b).map K4:=by
 have mono:∀x y:Int,ur x<=ur y↔x<=y:=λx y=>by grind[ur]
 have one:∀x y:Sp,C_ (K4 x) (K4 y)=(C_ x y).map K4:=λx y=>by grind[C_,K4,max,min]
 induction a with
 |nil=>rfl
 |cons x a d=>
  rw[Aas,Gl,Gl,d,Aap];congr 1;rw[List.filterMap_map,List.map_filterMap];congr 1;grind
theorem W3{y:List Sp×List Sp}(o:LB x)(u:LB y)(n:x.1.length+y.1.length<=12/\x.2.length+y.2.length<=12)(j:20<fu):
  ∃r,uu fu (x,y)=Ac r/\Eh r (λn=>A8 x n/\A8 y n) (λn=>A6 x n/\A6 y n)/\r.1.length<=x.1.length+y.1.length/\r.2.length<=x.2.length+y.2.length:=by
 obtain⟨a,T,H,al,N⟩:=Ep o j;obtain⟨b,U,I,bl,Q⟩:=Ep u j;obtain⟨m,f,L,A,B,a5,M,C⟩:=H;obtain⟨k,g,O,D,E,b5,P,F⟩:=I;have J:∀(m:List Sp) (z:List Sp×List Sp),Nf m->(∀y,A0 m y↔A6 z y)->∀s∈m.map K4,Cb 1000000000000000 s:=λm z W G s e=>by obtain⟨t,l,rfl⟩:=By.1 e;have h:=W.ne t l;have p:=((G t.1).1 ⟨t,l,Abn _,h⟩).2;have q:=((G t.2).1 ⟨t,l,h,Abn _⟩).2;grind[Cb,K4]
 have v:=J m x B C;have w:=J k y E F;rw[<-f]at v;rw[<-g]at w;have R:=cV (fu:=fu) (c:=100000000000) (by omega) A D (by omega) (by omega);have S:=cV (fu:=fu) (c:=1000000000000000) (by omega) v w (by omega) (by omega);have l1:=Nb a.1 b.1 L O;have l2:=Nb m k B E;have i:EI a.2 b.2=(EI m k).map K4:=by rw[f,g,iY]
 have lm:m.length=a.2.length:=by rw[f,Aaq]
 have lk:k.length=b.2.length:=by rw[g,Aaq]
 have i1:=cU A D;have i2:=cU v w;have sm:LB (EI a.1 b.1,EI a.2 b.2):=⟨λs e=>by
  have:=(i1 s e).2;unfold Cb at this;unfold Es GK.DW;omega,λs e=>by
  have:=(i2 s e).2;unfold Cb at this;unfold Es GK.DW;omega,by dsimp only;omega,by rw[i,Aaq];omega⟩;obtain⟨r,V,X,z1,K⟩:=Ep sm j;dsimp only at z1 K;rw[i,Aaq]at K;refine⟨r,?_,X.congr (λn=>?_) (λz=>?_),by omega,by omega⟩;· refine(Ok.eq ?_);exact BY T (BY U (BY R (BY S (BY V (MP rfl)))))
 ·show(A0 (EI a.1 b.1) n/\ -100000000000<=n/\n<=100000000000)↔_;rw[S5,M,P];exact⟨Aip,λh=>⟨h,h.1.2⟩⟩
 ·show(A0 (EI a.2 b.2) (ur z)/\ -1000000000000000<=ur z/\ur z<=1000000000000000)↔_;have:A0 (EI a.2 b.2) (ur z)↔A6 x z/\A6 y z:=by
   rw[i,MM Kd,FX,S5,C,F]
  rw[this];exact⟨Aip,λh=>⟨h,h.1.2⟩⟩
theorem Eh.sm(h:Eh r I F)(b:r.1.length<=12)(c:r.2.length<=12):LB r:=by have:=h.lg (fu:=100) (by omega) (by omega);exact⟨this.f1,this.f2,b,c⟩
theorem Ge{y:List Sp×List Sp}(g:LB x)(i:LB y)(n:x.1.length+y.1.length<=11/\x.2.length+y.2.length<=11)(c:20<fu)(p:25<gu):
  ∃r,K0 gu (x,y)=Ac r/\YT fu (x,y)=Ac r/\Eh r (λn=>A8 x n/\¬A8 y n) (λn=>A6 x n/\¬A6 y n)/\r.1.length<=x.1.length+y.1.length+1/\r.2.length<=x.2.length+y.2.length+1:=by
 obtain⟨r,e,f,o⟩:=XS (fu:=gu) (g.lg (by omega)) (i.lg (by omega)) (by omega) (by omega);obtain⟨q,eq,b,d,t,u⟩:=gF (fu:=fu) (gu:=fu) i (by omega) (by omega) c c;obtain⟨s,j,l,v,w⟩:=W3 (fu:=fu) g (d.sm (by omega) (by omega)) (by omega) c;have m:Eh s (λn=>A8 x n/\¬A8 y n) (λn=>A6 x n/\¬A6 y n):=by
  refine l.congr (λn=>?_) (λn=>?_);· rw[d.A8];exact⟨λh=>⟨h.1,h.2.1.2⟩,λh=>⟨h.1,⟨h.1.2,h.2⟩,h.1.2⟩⟩
  ·rw[d.A6];exact⟨λh=>⟨h.1,h.2.1.2⟩,λh=>⟨h.1,⟨JK h.1,h.2⟩,h.1.2⟩⟩
 have k:=m.unique f;subst k;refine⟨s,e,?_,f,by omega,by omega⟩;refine(Ok.eq ?_);exact BY b (BY j (MP rfl))
theorem iC(h:n<4294967296):F95 fu n=Ac []:=by refine(Ok.eq ?_);rw[F95];have a:=Fy;refine P8 (Aao (Aao (Ob (λc=>PK (by omega) ?_) (λ_=>MP rfl))));obtain⟨k,b⟩:∃k,aC ((n:Int)-((0:Int)-(0:Int)))=k+1:=⟨n-1,by omega⟩;rw[b];exact Abw (PK ⟨by omega,by omega⟩ (MP rfl))
theorem O7{fu:Nat}{L:List (List Sp)}(h:L.flatten.length<1000000000)(g:L.length<fu):vE fu L=Ac L.flatten:=by
 refine(Ok.eq ?_);have j:=Fy;have i (k:Nat) (b:k<L.length):(L.take (k+1)).flatten=(L.take k).flatten++L[k]:=by grind[cu,List.flatten_append]
 have le (k:Nat):(L.take k).flatten.length<=L.flatten.length:=by have:=congrArg EW (congrArg List.flatten (Ace k L));grind
 refine SE (λk (s:Int)=>s=((L.take k).flatten.length:Nat)) L.length (by simp) g ?_ ?_;· intro k s nx b e c;have t:=i k b;have l:=le (k+1);rw[t,Aaa]at l;refine T3 (by omega) (Aah b ?_);refine Aao (P8 (c _ ?_));grind
 ·intro s nx e;refine Qh (by omega) ?_;rw[Aar]at e;rw[e];refine BY (iC (by omega)) ?_;refine SE (λk out=>out=(L.take k).flatten) L.length (by simp) g ?_ ?_
  ·intro k out nx b d c;have t:=i k b;have l:=le (k+1);rw[t,Aaa]at l;have m:out.length+L[k].length<=Ai:=by rw[d];omega
   refine T3 (by omega) (Aah b (PK m (c _ ?_)));rw[t,d]
  ·intro out nx d;refine Qh (by omega) (MP ?_);rw[d,Aar]
def ab(x:Int):Int:=max (0-x) x
def Co(x y:Int):Prop:=ab x<ab y\/(ab x=ab y/\y<x)
instance(x y:Int):Decidable (Co x y):=inferInstanceAs (Decidable (_\/_))
theorem V3{x:Int}(g: -2000000000000000<=x/\x<=2000000000000000)(i: -2000000000000000<=y/\y<=2000000000000000):Ok (Vt fu (x,y)) λr=>r=Di (Co x y):=by
 rw[Vt];have a:(if(0:Int)-x>x then(0:Int)-x else x)=ab x:=by grind[ab]
 have b:(if(0:Int)-y>y then(0:Int)-y else y)=ab y:=by grind[ab]
 rw[a,b]
 refine Aao (Aao (Aao (Aao (Ob (λc=>MP ?_) (λc=>Ob (λd=>MP ?_) (λd=>MP ?_))))));all_goals grind[Co,ab,absurd]
theorem V4{x:Int}(a: -2000000000000000<=x/\x<=2000000000000000)(b: -2000000000000000<=y/\y<=2000000000000000):Vt fu (x,y)=Ac (Di (Co x y)):=(V3 a b).eq
theorem wG{x:Int}(a: -2000000000000000<=x/\x<=2000000000000000)(b: -2000000000000000<=y/\y<=2000000000000000):s7 fu (x,y)=Ac (Di (Co x y)):=(V3 (fu:=fu) a b).eq
theorem MI{x:Int}(h:¬Co x y)(k:¬Co y x):x=y:=by grind[Co,ab]
theorem RZ{x:Int} :¬Co x x:=by simp[Co,ab]
theorem Ju{x y z:Int}(h:¬Co x y)(k:¬Co y z):¬Co x z:=by grind[Co,ab]
def CC(o:Bool×Int)(c:Int):Bool×Int:=if !o.1||decide (Co c o.2)then(Bp,c)else o
theorem WZ{b:Bool}(hc: -2000000000000000<=c/\c<=2000000000000000)(a: -2000000000000000<=v/\v<=2000000000000000):eW fu (c,b,v)=Ac (CC (b,v) c):=by
 refine(Ok.eq ?_);rw[eW];unfold CC;cases b with
 |false=>exact VP rfl (MP rfl)
 |true=>
  refine Qb rf (BY (V4 hc a) (Ob (λd=>MP ?_) (λd=>MP ?_)));all_goals grind
theorem Ph:∀(l:List Int) (o:Bool×Int),(l.foldl CC o).1=(o.1|| !l.isEmpty)/\((l.foldl CC o).1=Bp->((l.foldl CC o).2∈l\/(o.1=Bp/\(l.foldl CC o).2=o.2))/\(∀c∈l,¬Co c (l.foldl CC o).2)/\(o.1=Bp->¬Co o.2 (l.foldl CC o).2))
 | [],o=>⟨by simp,λh=>⟨.inr ⟨h,rfl⟩,by simp,λ_=>RZ⟩⟩
 |c::l,o=>by
  obtain⟨n,p⟩:=Ph l (CC o c);have j:(CC o c).1=Bp:=by grind[CC]
  simp only[Afl];refine⟨by grind,λh=>?_⟩;obtain⟨a,q,b⟩:=p h;have b:=b j;have hc:¬Co c (CC o c).2:=by grind[CC,RZ]
  have i:o.1=Bp->¬Co o.2 (CC o c).2:=λi=>by grind[CC,Co,ab]
  refine⟨?_,λd g=>?_,λe=>Ju (i e) b⟩
  ·rcases a with a|⟨_,a⟩;· exact .inl (by simp[a])
   ·by_cases e:(!o.1||decide (Co c o.2))=Bp
    ·have f:CC o c=(Bp,c):=by unfold CC;rw[if_pos e]
     exact .inl (by rw[a,f];simp)
    ·have f:CC o c=o:=by unfold CC;rw[if_neg e]
     have m:o.1=Bp:=by simp at e;exact e.1
     exact .inr ⟨m,by rw[a,f]⟩
  ·rcases Aav.1 g with rfl|g;· exact Ju hc b
   ·exact q d g
def RV(s:Sp)(d:Int):Int:=if 0<s.1 then s.1 else if s.2<0 then s.2 else d
theorem aA:eX fu (s,d)=Ac (RV s d):=by grind[eX,RV]
def Tj(r:List Sp×List Sp):List Int:=r.1.map (λs=>RV s 0*10000)++r.2.map (λs=>RV s 1)
theorem az(h:Cb b s)(a: -b<=d/\d<=b): -b<=RV s d/\RV s d<=b:=by grind[Cb,RV]
theorem QN{o:Bool×Int}(h: -2000000000000000<=o.2/\o.2<=2000000000000000)(hc: -2000000000000000<=c/\c<=2000000000000000): -2000000000000000<=(CC o c).2/\(CC o c).2<=2000000000000000:=by grind[CC]
theorem OD(e:Xb fu x=Ac r)(h1:∀s∈r.1,Cb 100000000000 s)(h2:∀s∈r.2,Cb 1000000000000000 s)(n:r.1.length<fu/\r.2.length<fu):
  Vs fu x=Ac (((Tj r).foldl CC (Aj,0)).2,((Tj r).foldl CC (Aj,0)).1):=by
 refine(Ok.eq ?_);refine BY e ?_;refine Zy (λ(o:Bool×Int) k=>(o.2,o.1,k)) (λk o=>o=((r.1.take k).map λs=>RV s 0*10000).foldl CC (Aj,0)/\ -2000000000000000<=o.2/\o.2<=2000000000000000) r.1.length ?_ ?_ fu 0 (Aj,0) ⟨by simp,by simp⟩ (by omega) (by omega);· intro k o nx f ⟨i,c⟩ g;have l:=h1 _ (AN f);have m:=az (d:=0) l (by omega);dsimp only;refine P7 (Aah f (BY aA (Aao (BY (WZ (by omega) c) ?_))));refine g (CC o (RV r.1[k] 0*10000)) ⟨?_,QN c (by omega)⟩;rw[IN f,Aap,Ade,<-i];rfl
 ·intro o nx ⟨i,c⟩;dsimp only;refine Qh (by omega) ?_;refine Zy (λ(o:Bool×Int) k=>(o.2,o.1,k)) (λk p=>p=((r.2.take k).map λs=>RV s 1).foldl CC o/\ -2000000000000000<=p.2/\p.2<=2000000000000000) r.2.length ?_ ?_ fu 0 o ⟨by simp,c⟩ (by omega) (by omega);· intro k p nx f ⟨j,c⟩ g;have l:=h2 _ (AN f);have m:=az (d:=1) l (by omega);dsimp only;refine P7 (Aah f (BY aA (BY (WZ (by omega) c) ?_)));refine g (CC p (RV r.2[k] 1)) ⟨?_,QN c (by omega)⟩;rw[IN f,Aap,Ade,<-j];rfl
  ·simp_all[Tj,P8,MP,Aar,Ade]
def CZ(r:List Sp×List Sp)(u:Int):Prop:=(u %10000=0/\A0 r.1 (u/10000))\/(u %10000≠0/\A0 r.2 u)
theorem Pc{r:List Sp×List Sp}(b:∀s∈r.1,s.1<=s.2)(d:∀s∈r.2,s.1<=s.2/\Ou s){c:Int}(h:c∈Tj r):CZ r c:=by
 rcases AS.1 h with h|h
 ·obtain⟨s,a,rfl⟩:=By.1 h;refine .inl ⟨by omega,s,a,?_⟩;grind[RV]
 ·obtain⟨s,a,rfl⟩:=By.1 h;have:=d s a;unfold Ou at this;refine .inr ⟨?_,s,a,?_⟩<;>(unfold RV);all_goals omega
theorem Lm{r:List Sp×List Sp}{u:Int}(h:CZ r u):∃c∈Tj r,¬Co u c:=by
 rcases h with⟨h,s,d,a,b⟩|⟨h,s,d,a,b⟩
 ·refine⟨RV s 0*10000,Abt _ (By.2 ⟨s,d,rf⟩),?_⟩;grind[RV,Co,ab]
 ·refine⟨RV s 1,Abz _ (By.2 ⟨s,d,rf⟩),?_⟩;grind[RV,Co,ab]
structure FD(r:List Sp×List Sp)(v:Int)(f:Bool):Prop where
 yes:f=Bp->CZ r v/\∀u,CZ r u->¬Co u v
 no:f=Aj->v=0/\∀u,¬CZ r u
theorem FD.unique{w:Int}{f g:Bool}(h:FD r v f)(k:FD r w g):v=w/\f=g:=by
 cases f<;>cases g;· exact⟨(h.no rfl).1.trans (k.no rfl).1.symm,rfl⟩
 ·exact absurd (k.yes rf).1 ((h.no rf).2 w)
 ·exact absurd (h.yes rf).1 ((k.no rf).2 v)
 ·have a:=h.yes rfl;have b:=k.yes rfl;exact⟨MI (b.2 v a.1) (a.2 w b.1),rfl⟩
theorem IX{r:List Sp×List Sp}{l:List Int}(h1:∀c∈l,CZ r c)(h2:∀u,CZ r u->∃c∈l,¬Co u c):FD r (l.foldl CC (Aj,0)).2 (l.foldl CC (Aj,0)).1:=by obtain⟨a,b⟩:=Ph l (Aj,0);refine⟨λh=>?_,λh=>?_⟩;all_goals grind[Ju]
theorem Eh.nm(h:Eh r I F):(∀s∈r.1,s.1<=s.2)/\(∀s∈r.2,s.1<=s.2/\Ou s):=by
 obtain⟨m,b,c,_,d,_⟩:=h;refine⟨c.ne,λs a=>⟨?_,?_⟩⟩;· rw[b]at a;obtain⟨t,e,rfl⟩:=By.1 a;have:=d.ne t e;show ur t.1<=ur t.2;grind[ur]
 grind[Kd]
def cI(s:Sp):List Int:=[s.1*10000,s.2*10000]
def cF(s:Sp):List Int:=if s.1<0/\0<s.2 then [s.1,s.2,1]else [s.1,s.2]
theorem cap2:4294967296<=Ai:=by decide
theorem OE(e:Q3 fu x=Ac r)(h1:∀s∈r.1,Cb 100000000000 s)(h2:∀s∈r.2,Cb 1000000000000000 s)(N:∀s∈r.1,s.1<=s.2)(H:∀s∈r.2,s.1<=s.2/\Ou s)(T:r.1.length+r.2.length<100000000)(S:3*(r.1.length+r.2.length)<fu):
  Ok (jW fu x) λo=>FD r o.1 o.2:=by
 have R:=cap2;refine BY e ?_;refine SE (λk l=>l=(r.1.take k).flatMap cI/\l.length=2*k/\∀s∈r.1.take k,¬(s.1<=0/\0<=s.2)) r.1.length ⟨by simp,by simp,by simp⟩ (by omega) ?_ ?_
 ·intro k l nx n ⟨z,L,D⟩ w;have i:=h1 _ (AN n);unfold Cb at i;have st:(r.1.take (k+1)).flatMap cI=l++[r.1[k].1*10000,r.1[k].2*10000]:=by
   rw[IN n,Acm,z];rfl
  have go:¬(r.1[k].1<=0/\0<=r.1[k].2)->Ok (nx (l++[r.1[k].1*10000,r.1[k].2*10000],k+1)) (λo=>FD r o.1 o.2):=λc=>by grind[cu]
  refine T3 (by omega) (Aah n ?_);refine(Ob (λc=>Ob (λd=>MP ?_) (λd=>Aao (Aao (Abw (go (λk=>d k.2)))))) (λc=>Aao (Aao (Abw (go (λk=>c k.1))))));refine⟨λ_=>⟨.inl ⟨by omega,r.1[k],AN n,?_⟩,λu _=>?_⟩,λh=>(by grind)⟩;· exact⟨c,d⟩
  ·unfold Co ab;omega
 ·intro l nx ⟨z,L,D⟩;refine Qh (by omega) ?_;rw[Aar]at z D;refine SE (λk q=>q=l++(r.2.take k).flatMap cF/\q.length<=l.length+3*k) r.2.length ⟨by simp,by simp⟩ (by omega) ?_ ?_
  ·intro k q F n ⟨A,M⟩ p;have st:l++(r.2.take (k+1)).flatMap cF=q++cF r.2[k]:=by
    rw[IN n,Acm,A];simp
   have y:cF r.2[k]=if r.2[k].1<0/\0<r.2[k].2 then [r.2[k].1,r.2[k].2,1]else [r.2[k].1,r.2[k].2]:=rfl;refine T3 (by omega) (Aah n (Abw (Ob (λc=>Ob (λd=>PK (by simp;omega) (p _ ⟨?_,?_⟩)) (λd=>p _ ⟨?_,?_⟩)) (λc=>p _ ⟨?_,?_⟩))));· rw[st,y,if_pos ⟨c,d⟩];simp
   ·simp;omega
   ·rw[st,y,if_neg (λk=>d k.2)]
   ·simp;omega
   ·rw[st,y,if_neg (λk=>c k.1)]
   ·simp;omega
  ·intro q F ⟨A,M⟩;refine Qh (by show¬(r.2.length:Int)<r.2.length;omega) ?_;rw[Aar]at A;have Q:∀c∈q, -2000000000000000<=c/\c<=2000000000000000:=λc hc=>by
    rw[A,z]at hc;rcases AS.1 hc with hc|hc;· obtain⟨s,i,hc⟩:=Aad.1 hc;have:=h1 s i;unfold Cb at this;simp[cI]at hc;omega
    ·obtain⟨s,i,hc⟩:=Aad.1 hc;have:=h2 s i;unfold Cb at this;unfold cF at hc;split at hc<;>simp at hc<;>omega
   have O:∀c∈q,CZ r c:=λc hc=>by
    rw[A,z]at hc;rcases AS.1 hc with hc|hc
    ·obtain⟨s,i,hc⟩:=Aad.1 hc;have:=N s i;simp[cI]at hc;rcases hc with rfl|rfl;· exact .inl ⟨by omega,s,i,by omega,by omega⟩
     ·exact .inl ⟨by omega,s,i,by omega,by omega⟩
    ·obtain⟨s,i,hc⟩:=Aad.1 hc;have:=H s i;unfold Ou at this;unfold cF at hc;split at hc
     ·simp at hc;rcases hc with rfl|rfl|rfl;· exact .inr ⟨by omega,s,i,by omega,by omega⟩
      ·exact .inr ⟨by omega,s,i,by omega,by omega⟩
      ·exact .inr ⟨by omega,s,i,by omega,by omega⟩
     ·simp at hc;rcases hc with rfl|rfl;· exact .inr ⟨by omega,s,i,by omega,by omega⟩
      ·exact .inr ⟨by omega,s,i,by omega,by omega⟩
   have P:∀u,CZ r u->∃c∈q,¬Co u c:=λu K=>by
    rw[A,z];rcases K with⟨h,s,i,a,b⟩|⟨h,s,i,a,b⟩
    ·have:=D s i;rcases Aeg 0 s.1 with c|c;· exact⟨s.1*10000,Abt _ (Aad.2 ⟨s,i,by simp[cI]⟩),by unfold Co ab;omega⟩
     ·exact⟨s.2*10000,Abt _ (Aad.2 ⟨s,i,by simp[cI]⟩),by unfold Co ab;omega⟩
    ·have:=H s i;unfold Ou at this;by_cases c:s.1<0/\0<s.2;· exact⟨1,Abz _ (Aad.2 ⟨s,i,by unfold cF;rw[if_pos c];simp⟩),by unfold Co ab;omega⟩
     ·rcases Aeg 0 s.1 with d|d;· exact⟨s.1,Abz _ (Aad.2 ⟨s,i,by unfold cF;rw[if_neg c];simp⟩),by unfold Co ab;omega⟩
      ·exact⟨s.2,Abz _ (Aad.2 ⟨s,i,by unfold cF;rw[if_neg c];simp⟩),by unfold Co ab;omega⟩
   refine Zy (λ(o:Bool×Int) k=>(o.2,o.1,k)) (λk o=>o=(q.take k).foldl CC (Aj,0)/\ -2000000000000000<=o.2/\o.2<=2000000000000000) q.length ?_ ?_ fu 0 (Aj,0) ⟨by simp,by simp⟩ (by omega) (by omega)
   ·intro k o nx n ⟨C,G⟩ w;have hc:=Q _ (AN n);have st:(q.take (k+1)).foldl CC (Aj,0)=CC o q[k]:=by
     rw[IN n,Ade,<-C];rfl
    have I:=QN G hc;have B:=w (CC o q[k]) ⟨st.symm,I⟩;dsimp only;refine P7 (Aah n ?_);obtain⟨f,v⟩:=o;cases f with
    |false=>exact VP rfl B
    |true=>
     refine Qb rf (BY (wG hc G) (Ob (λd=>?_) (λd=>?_)))
     ·have d:Co q[k] v:=d;have E:CC (Bp,v) q[k]=(Bp,q[k]):=by unfold CC;simp[d]
      rw[E]at B;exact B
     ·have d:¬Co q[k] v:=d;have E:CC (Bp,v) q[k]=(Bp,v):=by unfold CC;simp[d]
      rw[E]at B;exact B
   ·intro o nx ⟨C,_⟩;dsimp only;refine P8 (MP ?_);rw[Aar]at C;rw[C];exact IX O P
theorem T1{z:List Sp×List Sp}(h1:Nf m)(h2:∀y,A0 m y↔A6 z y):∀s∈m.map K4,Cb 1000000000000000 s:=λs b=>by obtain⟨t,a,rfl⟩:=By.1 b;have h:=h1.ne t a;have p:=((h2 t.1).1 ⟨t,a,Abn _,h⟩).2;have q:=((h2 t.2).1 ⟨t,a,h,Abn _⟩).2;grind[Cb,K4]
theorem Ia(g:LB x)(o:20<fu)(B:80<gu):
  ∃r v f,Eh r (A8 x) (A6 x)/\jW gu x=Ac (v,f)/\Vs fu x=Ac (v,f)/\FD r v f:=by
 obtain⟨r,e,l,b,C,D⟩:=P1 (fu:=fu) (gu:=gu) g o (by omega);have H:=g.n1;have I:=g.n2;obtain⟨i,j⟩:=b.nm;have d:=b;obtain⟨m,t,E,k,w,F,G,y⟩:=d;have a:=T1 w y;rw[<-t]at a;obtain⟨⟨v,f⟩,n,h⟩:=OE e k a i j (by omega) (by omega);have p:=OD l k a ⟨by omega,by omega⟩;have q:=IX (λc hc=>Pc i j hc) (λu s=>Lm s);obtain⟨z,A⟩:=h.unique q;grind
theorem E3(h:Eh r I F)(u:Int):CZ r u↔(u %10000=0/\I (u/10000))\/(u %10000≠0/\F (rk u)):=by
 obtain⟨m,a,d,e,f,g,c,b⟩:=h;unfold CZ;rw[c];constructor
 ·rintro(h|⟨h,k⟩);· grind
  ·refine .inr ⟨h,?_⟩;rw[<-b,<-FX (m:=m),<-a,<-MM (by grind[Kd]),Ir h];omega
 ·rintro(h|⟨h,k⟩);· exact .inl h
  ·refine .inr ⟨h,?_⟩;rw[<-b,<-FX (m:=m),<-a,<-MM (by rw[a];exact Kd),Ir h]at k;exact k
theorem bN{u:Int}(n: -1000000000000000<=u/\u<=1000000000000000)(m:x.1.length<fu/\x.2.length<fu):Ok (s6 fu (x,u)) λb=>b=Bp↔CZ x u:=by
 have o:jV fu u=Ac Bp:=by grind[jV]
 obtain⟨p,t2,t3⟩:=ov u;refine BY o (Qb rfl (BY (Jc (by omega)) (Ob (λc=>?_) (λc=>?_))))
 ·have eq:jl u 10000=u/10000:=by omega
  refine Abw (Abx (by omega) ?_);rw[eq];refine V_ (λk=> ∀s∈x.1.take k,¬(s.1<=u/10000/\u/10000<=s.2)) x.1.length (by simp) m.1 ?_ ?_
  ·intro k nx i h j;have go:¬(x.1[k].1<=u/10000/\u/10000<=x.1[k].2)->Ok (nx (k+1)) (λb=>b=Bp↔CZ x u):=λd=>j λs f=>by
    grind[cu]
   refine P7 (Aah i (Ob (λa=>Ob (λb=>MP ?_) (λb=>go λk=>b k.2)) (λa=>go λk=>a k.1)));exact⟨λ_=> .inl ⟨c,_,AN i,a,b⟩,λ_=>rfl⟩
  ·intro nx h;refine P8 (MP ⟨λh=>(by grind),λk=>?_⟩);rcases k with⟨_,s,f,k⟩|⟨k,_⟩;all_goals grind
 ·refine V_ (λk=> ∀s∈x.2.take k,¬(s.1<=u/\u<=s.2)) x.2.length (by simp) m.2 ?_ ?_
  ·intro k nx i h j;have go:¬(x.2[k].1<=u/\u<=x.2[k].2)->Ok (nx (k+1)) (λb=>b=Bp↔CZ x u):=λd=>j λs f=>by
    rw[IN i]at f;grind
   refine P7 (Aah i (Ob (λa=>Ob (λb=>MP ?_) (λb=>go λk=>b k.2)) (λa=>go λk=>a k.1)));exact⟨λ_=> .inr ⟨c,_,AN i,a,b⟩,λ_=>rfl⟩
  ·intro nx h;rw[Aar]at h;refine P8 (MP ⟨λh=>(by cases h),λk=>?_⟩);rcases k with⟨k,_⟩|⟨_,s,f,k⟩;· exact absurd k c
   ·exact absurd k (h s f)
theorem S4{y:List Sp×List Sp}(O:LB x)(hy:LB y)(h5:x.1.length+y.1.length<=11/\x.2.length+y.2.length<=11)(N:20<fu)(hg:200<gu):
  ∃c,Vg gu (x,y)=Ac c/\LF fu (x,y)=Ac c:=by
 obtain⟨p,S,n,W,p1,p2⟩:=Ge (fu:=fu) (gu:=gu) O hy h5 N (by omega);obtain⟨q,eq,s,X,q1,q2⟩:=Ge (fu:=fu) (gu:=gu) hy O (by omega) N (by omega);have sp:=W.sm (by omega) (by omega);have sq:=X.sm (by omega) (by omega);obtain⟨J,v,f,F,_,ev,lv⟩:=Ia (fu:=fu) (gu:=gu) sp N (by omega);obtain⟨K,w,g,G,_,E,P⟩:=Ia (fu:=fu) (gu:=gu) sq N (by omega);obtain⟨o,R,V,o1,o2⟩:=af (fu:=gu) (sp.lg (by omega)) (sq.lg (by omega)) (by omega);have so:=V.lg (fu:=gu) (by omega) (by omega);obtain⟨ro,er,m,Y,m2,m3,m4,m5,m6,m7,m8,m9⟩:=MO (fu:=gu) so.f1 so.f2 (by omega) (by omega) (by omega) (by omega);have hr:Eh ro (A8 o) (A6 o):=⟨m,Y,m2,m3,m4,m5,m6,m7⟩;have D:=T1 m4 m7;rw[<-Y]at D;have lm:ro.2.length=m.length:=by grind
 obtain⟨k1,k2⟩:=hr.nm;obtain⟨⟨z,h⟩,T,I⟩:=OE er m3 D k1 k2 (by omega) (by omega);have t:∀u,CZ ro u↔CZ J u\/CZ K u:=λu=>by rw[E3 hr,E3 F,E3 G,V.A8,V.A6];grind[A8,A6]
 have B:∀u,CZ J u->CZ x u/\ -1000000000000000<=u/\u<=1000000000000000:=λu k=>by
  rcases(E3 F u).1 k with⟨a,b⟩|⟨a,b⟩;· have b:=(W.A8 _).1 b;exact⟨.inl ⟨a,b.1.1.1⟩,by omega⟩
  ·have b:=(W.A6 _).1 b;have c:=b.1.1.1;rw[Ir a]at c b;exact⟨.inr ⟨a,c⟩,b.2⟩
 have C:∀u,CZ K u->¬CZ x u/\ -1000000000000000<=u/\u<=1000000000000000:=λu k=>by
  rcases(E3 G u).1 k with⟨a,b⟩|⟨a,b⟩
  ·have b:=(X.A8 _).1 b;refine⟨λk=>?_,by omega⟩;rcases k with⟨_,k⟩|⟨k,_⟩;· exact b.1.2 ⟨k,b.2⟩
   omega
  ·have b:=(X.A6 _).1 b;have D:=b.2;rw[Ir a]at D;refine⟨λk=>?_,D⟩;rcases k with⟨k,_⟩|⟨_,k⟩;· exact a k
   ·exact b.1.2 ⟨by rw[Ir a];exact k,b.2⟩
 have xn:=O.n1;have ref:(h=Aj->Vg gu (x,y)=Ac 0)/\(h=Bp->CZ J z->Vg gu (x,y)=Ac (-1))/\(h=Bp->CZ K z->Vg gu (x,y)=Ac 1):=by
  refine⟨λe=>?_,λe k=>?_,λe k=>?_⟩<;>refine(Ok.eq ?_)<;>rw[Vg]<;>subst e;· exact BY S (BY eq (BY R (BY T (VP rfl (MP rfl)))))
  ·have k:=B z k;exact BY S (BY eq (BY R (BY T (Qb rfl (OH (bN k.2 (by omega)) λb U=>VP (U.2 k.1) (MP rfl))))))
  ·have k:=C z k;exact BY S (BY eq (BY R (BY T (Qb rfl (OH (bN k.2 (by omega)) λb U=>Qb (by cases b;rfl;exact absurd (U.1 rfl) k.1) (MP rfl))))))
 have bw:∀u,CZ J u\/CZ K u-> -2000000000000000<=u/\u<=2000000000000000:=λu k=>k.elim (λk=>by have:=(B u k).2;omega) (λk=>by have:=(C u k).2;omega);have l:∀c,Ok (LF fu (x,y)) (λr=>r=c)->LF fu (x,y)=Ac c:=λc k=>k.eq;have H:∀u,CZ J u\/CZ K u->h=Bp:=λu k=>by
  cases h with
  |true=>rfl
  |false=>exact absurd ((t u).2 k) ((I.no rfl).2 u)
 cases f with
 |false=>
  have nv:=(lv.no rfl).2;cases g with
  |false=>
   have Z:=(P.no rfl).2;refine⟨0,ref.1 ?_,l _ ?_⟩;· cases h with
    |false=>rfl
    |true=>exact((t z).1 (I.yes rfl).1).elim (λk=>absurd k (nv z)) (λk=>absurd k (Z z))
   ·exact BY n (BY ev (BY s (BY E (VP rf (VP rf (MP rf))))))
  |true=>
   have A:=H w (.inr (P.yes rfl).1);refine⟨1,ref.2.2 A (((t z).1 (I.yes A).1).resolve_left (nv z)),l _ ?_⟩;exact BY n (BY ev (BY s (BY E (VP rfl (Qb rfl (Qb rfl (Qb rfl (MP rfl))))))))
 |true=>
  have L:=lv.yes rfl;have A:=H v (.inl L.1);have M:=I.yes A;cases g with
  |false=>
   have Z:=(P.no rfl).2;refine⟨-1,ref.2.1 A (((t z).1 M.1).resolve_right (Z z)),l _ ?_⟩;exact BY n (BY ev (BY s (BY E (Qb rfl (VP rfl (MP rfl))))))
  |true=>
   have Q:=P.yes rfl;have en:=V4 (fu:=fu) (bw v (.inl L.1)) (bw w (.inr Q.1));by_cases c:Co v w;· refine⟨-1,ref.2.1 A (((t z).1 M.1).resolve_right λk=>Ju (M.2 v ((t v).2 (.inl L.1))) (Q.2 z k) c),l _ ?_⟩;exact BY n (BY ev (BY s (BY E (Qb rfl (Qb rfl (VP rfl (BY en (VP (decide_eq_true c) (MP rfl)))))))))
   ·refine⟨1,ref.2.2 A (((t z).1 M.1).resolve_left λk=>?_),l _ ?_⟩;· have e:=MI c (Ju (M.2 w ((t w).2 (.inr Q.1))) (L.2 z k));exact(C w Q.1).1 (e▸(B v L.1).1)
    ·exact BY n (BY ev (BY s (BY E (Qb rf (Qb rf (VP rf (BY en (Qb (decide_eq_false c) (MP rf)))))))))
theorem oV{y:List Sp×List Sp}(c:LB x)(d:LB y)(n:x.1.length+y.1.length<=12/\x.2.length+y.2.length<=12)(h:20<fu):
  ∃r,F97 fu (x,y)=Ac r/\Eh r (λn=>A8 x n\/A8 y n) (λn=>A6 x n\/A6 y n)/\r.1.length<=x.1.length+y.1.length/\r.2.length<=x.2.length+y.2.length:=by
 have k:LB (x.1++y.1,x.2++y.2):=⟨λs b=>(AS.1 b).elim (c.f1 s) (d.f1 s),λs b=>(AS.1 b).elim (c.f2 s) (d.f2 s),by grind,by grind⟩;obtain⟨s,g,b,i,j⟩:=Ep k h;refine⟨s,?_,b.congr (λn=>?_) (λn=>?_),by grind,by grind⟩
 ·refine(Ok.eq ?_);have e:vE fu [x.1,y.1]=Ac (x.1++y.1):=by
   grind[O7]
  have f:vE fu [x.2,y.2]=Ac (x.2++y.2):=by grind[O7]
  exact BY e (BY f (BY g (MP rf)))
 all_goals simp_all[A8,A6,Eo,or_and_right]
theorem XR{y:List Sp×List Sp}(i:LB x)(j:LB y)(n:x.1.length+y.1.length<=11/\x.2.length+y.2.length<=11)(d:20<fu):
  ∃r,YT fu (x,y)=Ac r/\Eh r (λn=>A8 x n/\¬A8 y n) (λn=>A6 x n/\¬A6 y n)/\r.1.length<=x.1.length+y.1.length+1/\r.2.length<=x.2.length+y.2.length+1:=by
 obtain⟨q,b,c,k,l⟩:=VZ (fu:=fu) j (by omega) (by omega) d;obtain⟨s,e,f,m,o⟩:=W3 (fu:=fu) i (c.sm (by omega) (by omega)) (by omega) d;have g:Eh s (λn=>A8 x n/\¬A8 y n) (λn=>A6 x n/\¬A6 y n):=by
  refine f.congr (λn=>?_) (λn=>?_);· rw[c.A8];exact⟨λh=>⟨h.1,h.2.1.2⟩,λh=>⟨h.1,⟨h.1.2,h.2⟩,h.1.2⟩⟩
  ·rw[c.A6];exact⟨λh=>⟨h.1,h.2.1.2⟩,λh=>⟨h.1,⟨JK h.1,h.2⟩,h.1.2⟩⟩
 refine⟨s,?_,g,by omega,by omega⟩;refine(Ok.eq ?_);exact BY b (BY e (MP rf))
theorem XX(d:LB x)(h:20<fu):
  ∃r v f,Eh r (A8 x) (A6 x)/\Vs fu x=Ac (v,f)/\FD r v f:=by
 obtain⟨r,g,a,t,w⟩:=Ep d h;have B:=d.n1;have C:=d.n2;obtain⟨l,n⟩:=a.nm;have b:=a;obtain⟨m,o,y,p,q,z,A,s⟩:=b;have e:=T1 q s;rw[<-o]at e;have i:=OD g p e ⟨by omega,by omega⟩;grind[IX,Pc,Lm]
theorem Agi(h:Eh r I F):(∀u,¬CZ r u)↔r=([],[]):=by
 obtain⟨d,e⟩:=h.nm;constructor
 ·intro no;refine Acp ?_ ?_;· cases a:r.1 with
   |nil=>rfl
   |cons t q=>
    have b:=d t (by grind);exact absurd (Or.inl ⟨by omega,t,by grind,by omega,by omega⟩) (no (t.1*10000))
  ·cases a:r.2 with
   |nil=>rfl
   |cons t q=>
    have b:=e t (by simp_all);exact absurd (Or.inr ⟨b.2.1,t,by rw[a];simp,Abn _,b.1⟩) (no t.1)
 ·rintro rfl u (⟨_,t,c,_⟩|⟨_,t,c,_⟩)<;>cases c
end
end Go.GL
namespace Go.GL
abbrev Lg:=List UInt8->Bool
abbrev Cm:=Int×Int×Int
abbrev TX:=Bool×List Cm
abbrev Tb:=List TX
section
variable{kn:List Lg}{l:Tb}{D:Lg}{m:Nat}{a S:List Lg}{es:List Cm}{n:Nat}{b:List Lg}{fu:Nat}{α:Type}{i:Nat}{K L:Lg}
def IA(L:Lg)(b:Nat):Lg:=λw=>L (UInt8.ofNat b::w)
open Classical in
noncomputable def live(L:Lg):Bool:=Di (∃w,L w=Bp)
open Classical in
noncomputable def Ip(kn:List Lg)(L:Lg):Nat:=kn.findIdx λK=>Di (K=L)
theorem Hr{L:Lg} :live L=Bp↔∃w,L w=Bp:=by simp[live]
theorem CW{L:Lg} :live L=Aj↔∀w,L w=Aj:=by simp[live]
def push(es:List Cm)(lo hi n:Int):List Cm:=match es.getLast? with
 |some e=>if e.2.2=n/\e.2.1+1=lo then es.dropLast++[(e.1,hi,n)]else es++[(lo,hi,n)]
 |none=>es++[(lo,hi,n)]
noncomputable def IZ(kn:List Lg)(D:Lg):List Lg:=if Ip kn D=kn.length then kn++[D]else kn
noncomputable def Dc(st:List Lg×List Cm)(D:Lg)(lo hi:Nat):List Lg×List Cm:=
 if live D then(IZ st.1 D,push st.2 (lo:Int) (hi:Int) (Ip st.1 D:Nat))else st
noncomputable def Ue(K:Lg)(st:List Lg×List Cm)(b:Nat):List Lg×List Cm:=Dc st (IA K b) b b
noncomputable def AL(K:Lg)(kn:List Lg)(m:Nat):List Lg×List Cm:=(a_ m).foldl (Ue K) (kn,[])
noncomputable def DK:Nat->List Lg->Tb->Tb
 |0,_,a=>a
 |c+1,b,a=>match b[a.length]? with
  |some K=>DK c (AL K b 256).1 (a++[(K [],(AL K b 256).2)])
  |none=>a
noncomputable def Eu(fu:Nat)(L:Lg):Tb:=if live L then DK fu [L] []else []
theorem bz(kn:List Lg)(D:Lg):Ip kn D<=kn.length:=List.findIdx_le_length
open Classical in
theorem UF{kn:List Lg}{D:Lg}(h:Ip kn D<kn.length):kn[Ip kn D]=D:=by grind[Ip]
theorem JE(h:D∈kn):Ip kn D<kn.length:=by refine List.findIdx_lt_length_of_exists ⟨D,h,by simp⟩
theorem GG{kn:List Lg}{D:Lg}(h:D∉kn):Ip kn D=kn.length:=by
 have:=bz kn D;rcases Nat.lt_or_eq_of_le this with a|a;· exact absurd (UF a▸AN a) h
 omega
theorem JF(kn:List Lg)(D:Lg):Ip (IZ kn D) D=Ip kn D:=by grind[IZ,Ip]
theorem LP(kn:List Lg)(D:Lg):D∈IZ kn D:=by grind[IZ,Ip]
theorem GF(h:D∈kn):IZ kn D=kn:=by unfold IZ;rw[if_neg];have:=JE h;omega
theorem Gb(l:List Cm)(x:Cm)(lo hi n:Int):push (l++[x]) lo hi n=if x.2.2=n/\x.2.1+1=lo then l++[(x.1,hi,n)]else l++[x]++[(lo,hi,n)]:=by simp[push]
theorem Jq(lo hi n:Int):push [] lo hi n=[(lo,hi,n)]:=rfl
theorem Fo(l:List α):l=[]\/∃a x,l=a++[x]:=by rcases Ael l with h|⟨a,x,h⟩;all_goals grind
theorem XH(es:List Cm)(lo a hi n:Int):push (push es lo a n) (a+1) hi n=push es lo hi n:=by
 rcases Fo es with rfl|⟨l,x,rfl⟩;· rw[Jq,Jq,show [(lo,a,n)]=[]++[(lo,a,n)]from rfl,Gb];simp
 grind[Gb]
theorem My(K:Lg)(D:Lg)(st:List Lg×List Cm)(lo:Nat):∀(n:Nat),(∀b,lo<=b->b<lo+n+1->IA K b=D)->
  (List.range' lo (n+1)).foldl (Ue K) st=Dc st D lo (lo+n)
 |0,h=>by grind[Ue]
 |n+1,h=>by
  rw[List.range'_concat,Ade,My K D st lo n (λb c d=>h b c (by omega))];simp only[Afl,List.foldl_nil,Ue,Nat.one_mul,h (lo+(n+1)) (by omega) (by omega)];unfold Dc;split;· simp only[JF,GF (LP _ _),Aep,true_and];grind[Ip,XH]
  rfl
theorem H4(K:Lg)(kn:List Lg)(D:Lg)(lo hi:Nat)(c:lo<=hi)(h:∀b,lo<=b->b<=hi->IA K b=D):
  AL K kn (hi+1)=Dc (AL K kn lo) D lo hi:=by
 unfold AL;rw[show hi+1=lo+((hi-lo)+1) by omega,Agu,Agu,<-List.range'_append_1,Ade,Abm];rw[My K D _ lo (hi-lo) (λb a d=>h b a (by omega))];grind
def BN(b:Nat)(e:Cm):Bool:=Di (e.1<=b)&&Di ((b:Int)<=e.2.1)
def AP(es:List Cm)(b:Nat):Int:=match es.find? (BN b)with
 |some e=>e.2.2
 |none=> -1
def Be(l:Tb)(i:Int):TX:=l.getD i.toNat (Aj,[])
def Bl(l:Tb)(i:Int)(b:Nat):Int:=if i<0 then-1 else AP (Be l i).2 b
def runT(l:Tb)(i:Int)(w:List UInt8):Int:=w.foldl (λq c=>Bl l q c.toNat) i
def fin(l:Tb)(i:Int):Bool:=Di (0<=i)&&(Be l i).1
def Av(l:Tb)(i:Int):Lg:=λw=>fin l (runT l i w)
structure BR(es:List Cm)(m n:Nat):Prop where
 rg:∀e∈es,0<=e.1/\e.1<=e.2.1/\e.2.1<m/\0<=e.2.2/\e.2.2<n
 so:es.Pairwise λa b=>a.2.1<b.1
def Bf(l:Tb):Prop:= ∀s∈l,BR s.2 256 l.length
theorem Fv(l:Tb)(i:Int)(b:Nat)(a:b<256):IA (Av l i) b=Av l (Bl l i b):=by funext w;simp_all[IA,Av,runT,Agd]
theorem Jh{l:Tb}{i:Int}(b:Nat)(h:i<0):Bl l i b= -1:=by grind[Bl]
theorem Hc{l:Tb} :∀(w:List UInt8) {i:Int},i<0->runT l i w<0
 | [],i,h=>h
 |c::w,i,h=>by exact Hc w (by grind[Jh])
theorem Ee{l:Tb}{i:Int}(h:i<0)(w:List UInt8):Av l i w=Aj:=by simp_all[Av,fin,Hc,decide_eq_false]
theorem Hq{l:Tb}{i:Int}(h:i<0):live (Av l i)=Aj:=CW.2 λw=>Ee h w
theorem BR.step(h:BR es m n)(b:Nat):AP es b= -1\/0<=AP es b/\AP es b<n:=by
 unfold AP;split;· rename_i e a;have:=h.rg e (Aca a);omega
 omega
theorem BR.nil:BR [] m n:=⟨by simp, .nil⟩
theorem Bf.st(h:Bf l)(i:Int)(b:Nat):Bl l i b= -1\/0<=Bl l i b/\Bl l i b<l.length:=by
 unfold Bl;split;· omega
 ·unfold Be;rw[Aae];cases a:l[i.toNat]? with
  |none=>exact .inl rfl
  |some s=>exact(h s (Aai a)).step b
theorem Xt(h:BR es m n){b:Nat}(c:m<=b):AP es b= -1:=by unfold AP;rw[Acu.2];intro e a;have:=h.rg e a;grind[BN]
theorem Gw(es fs:List Cm)(b:Nat):AP (es++fs) b=if(es.find? (BN b)).isSome then AP es b else AP fs b:=by grind[AP,BN]
theorem BR.mono{a b:Nat}(h:BR es m n)(d:m<=a)(f:n<=b):BR es a b:=
 ⟨λe c=>by have:=h.rg e c;omega,h.so⟩
theorem BR.push(h:BR es m n){hi q:Nat}(s:m<=hi)(t:q<n):BR (push es (m:Int) (hi:Int) (q:Int)) (hi+1) n/\∀b,AP (push es (m:Int) (hi:Int) (q:Int)) b=if m<=b/\b<=hi then(q:Int)else AP es b:=by
 rcases Fo es with rfl|⟨l,x,rfl⟩
 ·rw[Jq];refine⟨⟨by grind,by simp⟩,λb=>?_⟩;grind[AP,BN]
 ·rw[Gb];have u:=h.rg x (by simp);have j:=Aba.1 h.so;split
  ·refine⟨⟨λe c=>?_,?_⟩,λb=>?_⟩
   ·rcases AS.1 c with c|c;· have:=h.rg e (by grind);omega
    grind
   ·refine Aba.2 ⟨j.1,by simp,λa p e c=>?_⟩;grind
   ·rw[Gw,Gw];cases k:l.find? (BN b)with
    |some e=>
     have i:=Aca k;have f:=j.2.2 e i x (by simp);grind[BN]
    |none=>
     simp only[AP,Afm,BN,List.find?_nil];grind
  ·refine⟨
       ⟨λe c=>?_,?_⟩,λb=>?_⟩
   ·rcases AS.1 c with c|c;· have:=h.rg e c;omega
    grind
   ·refine Aba.2 ⟨h.so,by simp,λa p e c=>?_⟩;simp at c;subst c;have:=h.rg a p;omega
   ·rw[Gw];cases k:(l++[x]).find? (BN b)with
    |some e=>
     have i:=Aca k;have f:=h.rg e i;have d:=List.find?_some k;simp[BN]at d;simp only[Option.isSome_some,if_true];rw[if_neg (by omega)]
    |none=>
     have:AP (l++[x]) b= -1:=by unfold AP;rw[k]
     rw[this];simp only[AP,Afm,BN,List.find?_nil];by_cases g:m<=b/\b<=hi
     ·rw[if_pos g];have f:((m:Int)<=b):=by omega
      have d:((b:Int)<=hi):=by omega
      simp[f,d]
     ·rw[if_neg g];by_cases f:(m:Int)<=b
      ·have d:¬((b:Int)<=hi):=by omega
       simp[d]
      ·simp[f]
theorem MU{more:List Lg}(h:D∈kn):Ip (kn++more) D=Ip kn D:=by grind[Ip]
theorem hU(d:kn.Nodup)(h:i<kn.length):Ip kn kn[i]=i:=by grind[Ip,absurd,UF,Nat.lt_trichotomy,List.pairwise_iff_getElem]
def Ext(kn b:List Lg):Prop:= ∃a,b=kn++a
theorem Ext.refl(kn:List Lg):Ext kn kn:=⟨[],by simp⟩
theorem Ext.trans{c:List Lg}(h:Ext a b)(k:Ext b c):Ext a c:=by obtain⟨x,rfl⟩:=h;obtain⟨y,rfl⟩:=k;exact⟨x++y,by simp⟩
theorem Ext.len(h:Ext a b):a.length<=b.length:=by obtain⟨x,rfl⟩:=h;simp
theorem Ext.mem(h:Ext a b)(c:D∈a):D∈b:=by obtain⟨x,rfl⟩:=h;grind
theorem Ext.ix(h:Ext a b)(c:D∈a):Ip b D=Ip a D:=by obtain⟨x,rfl⟩:=h;exact MU c
theorem Ext.get(h:Ext a b)(c:a[i]?=Ac D):b[i]?=Ac D:=by obtain⟨x,rfl⟩:=h;grind
theorem Ext.IZ(kn:List Lg)(D:Lg):Ext kn (IZ kn D):=by
 unfold GL.IZ;split;· exact⟨[D],rfl⟩
 ·exact .refl _
def uZ(S:List Lg):Prop:= ∀K∈S,∀b<256,live (IA K b)=Bp->IA K b∈S
structure KnOk(S kn:List Lg):Prop where
 nd:kn.Nodup
 sub:∀D∈kn,D∈S
 lv:∀D∈kn,live D=Bp
theorem KnOk.IZ(h:KnOk S kn)(e:D∈S)(g:live D=Bp):KnOk S (IZ kn D):=by
 unfold GL.IZ;split
 ·have j:D∉kn:=λi=>by have:=JE i;omega
  refine⟨Acq.2 ⟨h.nd,by simp,λa f b d=>?_⟩,λE c=>?_,λE c=>?_⟩;· grind
  ·rcases AS.1 c with c|c;· exact h.sub E c
   grind
  ·rcases AS.1 c with c|c;· exact h.lv E c
   grind
 omega
def NI(K:Lg)(kn:List Lg)(es:List Cm)(m:Nat):Prop:=BR es m kn.length/\∀b,b<m->if live (IA K b)then IA K b∈kn/\AP es b=(Ip kn (IA K b):Nat)else AP es b= -1
theorem NI.ext(h:NI K kn es m)(c:Ext kn a):NI K a es m:=by
 refine⟨h.1.mono (Aac _) c.len,λb f=>?_⟩;have:=h.2 b f;split;· rename_i d;rw[if_pos d]at this;exact⟨c.mem this.1,by rw[c.ix this.1];omega⟩
 grind
theorem Mw(K:Lg)(kn:List Lg)(m:Nat):AL K kn (m+1)=Dc (AL K kn m) (IA K m) m m:=by unfold AL;rw[Aej,Ade];rfl
theorem ET{S kn:List Lg}{K:Lg}(l:uZ S)(k:K∈S)(c:KnOk S kn):∀m,m<=256->Ext kn (AL K kn m).1/\KnOk S (AL K kn m).1/\NI K (AL K kn m).1 (AL K kn m).2 m
 |0,_=>⟨.refl _,c, .nil,λb n=>by omega⟩
 |m+1,s=>by
  obtain⟨h,i,e⟩:=ET l k c m (by omega);rw[Mw];unfold Dc;split
  ·rename_i d;have r:=l K k m (by omega) d;refine⟨h.trans (Ext.IZ _ _),i.IZ r d,?_⟩;have j:=e.ext (Ext.IZ (AL K kn m).1 (IA K m));have g:Ip (AL K kn m).1 (IA K m)<(IZ (AL K kn m).1 (IA K m)).length:=by
    rw[<-JF];simp_all[JE,LP]
   obtain⟨p,q⟩:=j.1.push (Aac m) g;refine⟨p,λb n=>?_⟩;rw[q b];by_cases a:b=m;· subst a;rw[if_pos d,if_pos ⟨Aac _,Aac _⟩,JF];exact⟨LP _ _,rfl⟩
   ·rw[if_neg (by omega:¬(m<=b/\b<=m))];exact j.2 b (by omega)
  ·rename_i d;refine⟨h,i,e.1.mono (by omega) (Aac _),λb n=>?_⟩;by_cases a:b=m;· subst a;rw[if_neg d];exact Xt e.1 (Aac _)
   ·exact e.2 b (by omega)
structure J9(kn:List Lg)(out:Tb):Prop where
 le:out.length<=kn.length
 row:∀(k:Nat) (K:Lg) (s:TX),kn[k]?=Ac K->out[k]?=Ac s->s.1=K []/\NI K kn s.2 256
theorem RX{α:Type} [BEq α] [LawfulBEq α]:∀ {a b:List α},a.Nodup->(∀x∈a,x∈b)->a.length<=b.length
 | [],_,_,_=>by simp
 |x::a,b,g,d=>by have c:=Aay.1 g;have:=RX (a:=a) (b:=b.erase x) c.2 (λy f=>(Agv (λe=>by grind)).2 (d y (by grind)));grind
open Classical in
theorem KnOk.le{S kn:List Lg}(h:KnOk S kn):kn.length<=S.length:=RX h.nd h.sub
theorem Tk{S:List Lg}(q:uZ S):∀(fu:Nat) (kn:List Lg) (a:Tb),KnOk S kn->J9 kn a->S.length<fu+a.length->
  ∃b,Ext kn b/\KnOk S b/\J9 b (DK fu kn a)/\(DK fu kn a).length=b.length
 |0,kn,a,g,e,A=>by have:=g.le;have:=e.le;omega
 |fu+1,kn,a,g,e,A=>by
  unfold DK;split
  ·rename_i K h;have m:=Aai h;obtain⟨f,y,z⟩:=ET q (g.sub K m) g 256 (Aac _);have n:J9 (AL K kn 256).1 (a++[(K [],(AL K kn 256).2)]):=by
    refine⟨?_,?_⟩;· have:=f.len;grind
    ·intro k l s i d;by_cases p:k<a.length
     ·rw[Pe p]at d
      have o:kn[k]?=Ac l:=by obtain⟨r,B⟩:=f;grind
      have:=e.row k l s o d;exact⟨this.1,this.2.ext f⟩
     ·rw[Aab (by omega)]at d;have c:k=a.length:=by
       have:=(No.1 d).1;simp at this;omega
      subst c;simp at d;subst d;have:=f.get h;simp_all
   obtain⟨b,t,u,v,w⟩:=Tk q fu (AL K kn 256).1 (a++[(K [],(AL K kn 256).2)]) y n (by simp;omega);exact⟨b,f.trans t,u,v,w⟩
  ·rename_i h;have:=Afw.1 h;exact⟨kn, .refl _,g,e,by have:=e.le;omega⟩
theorem J9.lg{kn:List Lg}{a:Tb}(h:J9 kn a)(m:a.length=kn.length):∀(w:List UInt8) (i:Nat) (K:Lg),kn[i]?=Ac K->Av a (i:Int) w=K w
 | [],i,K,b=>by have n:=(No.1 b).1;have d:a[i]?=Ac a[i]:=IS (by omega);have:=(h.row i K _ b d).1;grind[Av,runT,fin,Be]
 |c::w,i,K,b=>by
  have n:=(No.1 b).1;have d:a[i]?=Ac a[i]:=IS (by omega);have:=(h.row i K _ b d).2.2 c.toNat c.toNat_lt;have e:Av a (i:Int) (c::w)=Av a (Bl a (i:Int) c.toNat) w:=rfl;have k:Bl a (i:Int) c.toNat=AP a[i].2 c.toNat:=by grind[Bl,Be]
  have l:K (c::w)=IA K c.toNat w:=by simp[IA]
  rw[e,k,l];split at this;· rw[this.2];have g:=JE this.1;exact J9.lg h m w _ _ (by grind[lr,UF])
  grind[live,IA,Ee,CW]
theorem J9.wf{a:Tb}(h:J9 kn a)(b:a.length=kn.length):Bf a:=by intro s e;obtain⟨i,c,rfl⟩:=Aat e;have d:kn[i]?=Ac kn[i]:=IS (by omega);have:=(h.row i _ _ d (IS c)).2.1;grind
theorem WU(i:uZ S)(g:live L=Bp->L∈S)(j:S.length<fu):
  Bf (Eu fu L)/\Av (Eu fu L) 0=L/\(Eu fu L).length<=S.length/\(live L=Bp->0<(Eu fu L).length):=by
 unfold Eu;split;· obtain⟨k,d,f,e,c⟩:=Tk i fu [L] [] ⟨by simp,by grind,by grind⟩ ⟨by simp,by simp⟩ (by omega);refine⟨e.wf c,funext λw=>e.lg c w 0 L (d.get rfl),by rw[c];exact f.le,λ_=>?_⟩;have:=d.len;grind
 ·refine⟨by simp[Bf],funext λw=>?_,by simp,λh=>absurd h (by omega)⟩;grind[Av,fin,Be,runT,CW]
theorem Nk{S:List Lg}(p:uZ S):∀(fu b:Nat) (kn:List Lg) (a:Tb),KnOk S kn->J9 kn a->S.length<fu+a.length->S.length<b+a.length->DK fu kn a=DK b kn a
 |0,_,kn,a,e,f,o,_=>by have:=e.le;have:=f.le;omega
 |_,0,kn,a,e,f,_,o=>by have:=e.le;have:=f.le;omega
 |fu+1,b+1,kn,a,e,f,o,w=>by
  unfold DK;split
  ·rename_i K j;have l:=Aai j;obtain⟨g,t,u⟩:=ET p (e.sub K l) e 256 (Aac _);refine Nk p fu b _ _ t ⟨?_,?_⟩ (by grind) (by grind);· have:=g.len;grind
   ·intro k i s h d;by_cases n:k<a.length
    ·rw[Pe n]at d
     have m:kn[k]?=Ac i:=by obtain⟨q,v⟩:=g;grind
     have:=f.row k i s m d;exact⟨this.1,this.2.ext g⟩
    ·rw[Aab (by omega)]at d;have c:k=a.length:=by
      have:=(No.1 d).1;simp at this;omega
     subst c;simp at d;subst d;have:=g.get j;simp_all
  rfl
theorem Yw(e:uZ S)(d:live L=Bp->L∈S){a:Nat}(f:S.length<fu)(b:S.length<a):Eu fu L=Eu a L:=by
 unfold Eu;split;· exact Nk e fu a [L] [] ⟨by simp,by grind,by grind⟩ ⟨by simp,by simp⟩ (by omega) (by omega)
 rfl
def qn(l:Tb):List Lg:=(a_ l.length).map λi=>Av l (i:Nat)
theorem Fp(l:Tb):(qn l).length=l.length:=by simp[qn]
theorem Jz{l:Tb}{i:Int}(h:0<=i)(a:i<l.length):Av l i∈qn l:=by refine By.2 ⟨i.toNat,by grind,?_⟩;grind
theorem H9(h:Bf l):uZ (qn l):=by intro K d b e c;obtain⟨i,f,rfl⟩:=By.1 d;rw[Fv _ _ _ e]at c⊢;rcases h.st (i:Int) b with a|a;all_goals grind[Hq,Jz]
theorem R9(b:live (Av l 0)=Bp):Av l 0∈qn l:=by grind[Av,fin,Be,Hr,Jz]
theorem QK(h:Bf l)(b:l.length<fu):
  Bf (Eu fu (Av l 0))/\Av (Eu fu (Av l 0)) 0=Av l 0/\(Eu fu (Av l 0)).length<=l.length:=by
 have:=WU (H9 h) R9 (fu:=fu) (by grind[Fp]);grind[Fp]
theorem Yu{l:Tb}(h:Bf l){fu a:Nat}(c:l.length<fu)(b:l.length<a):Eu fu (Av l 0)=Eu a (Av l 0):=
 Yw (H9 h) R9 (by grind[Fp]) (by grind[Fp])
noncomputable def BW(l:Tb):Tb:=Eu (l.length+1) (Av l 0)
theorem WS(h:Bf l):Bf (BW l):=(QK h (by omega)).1
theorem WT(h:Bf l):Av (BW l) 0=Av l 0:=(QK h (by omega)).2.1
theorem jh(h:Bf l):(BW l).length<=l.length:=(QK h (by omega)).2.2
theorem I2{a:Tb}(h:Bf l)(b:Bf a)(e:Av l 0=Av a 0):BW l=BW a:=by grind[BW,Eu,Av,Yu]
theorem Yv(h:Bf l):BW (BW l)=BW l:=I2 (WS h) h (WT h)
end
end Go.GL
namespace Go.GL
open Go Go.GV Go.GK Go.Proofs
section
variable{fu:Nat}{l:Tb}{n:Nat}{s:Aq}{α:Type}
def N6(l:Tb):Prop:= ∀s∈l,∀e∈s.2,(0<=e.1/\e.1<=255)/\0<=e.2.1/\e.2.1<=255
def DT(l:Tb)(n:Nat):Prop:=l.length<=n/\∀s∈l,s.2.length<=n
theorem Aeu{es:List Cm}{m n j:Nat}(s:j<es.length):
  BR (es.take (j+1)) m n↔BR (es.take j) m n/\(0<=es[j].1/\es[j].1<=es[j].2.1/\es[j].2.1<m/\0<=es[j].2.2/\es[j].2.2<n)/\(0<j->(es[j-1]'(by omega)).2.1<es[j].1):=by
 rw[<-Ack s];constructor;· rintro⟨d,f⟩;have g:=Aba.1 f;refine⟨⟨λe c=>d e (AS.2 (.inl c)),g.1⟩,d _ (AS.2 (.inr (by simp))),λk=>g.2.2 _ ?_ _ (by simp)⟩;exact Adi.2 ⟨j-1,by omega,rfl⟩
 ·rintro⟨⟨d,f⟩,g,o⟩;refine⟨λe c=>?_,Aba.2 ⟨f,by simp,λa r b l=>?_⟩⟩
  ·rcases AS.1 c with c|c;· grind
   grind
  ·simp at l;subst l;obtain⟨i,u,rfl⟩:=Adi.1 r;have k:0<j:=by omega
   have p:=o k;rcases Aam i (j-1)with h|h;· have q:=Aaw.1 f i (j-1) (by simp;omega) (by simp;omega) h;simp only[List.getElem_take]at q;have t:=d (es[j-1]'(by omega)) (Adi.2 ⟨j-1,by omega,rfl⟩);omega
   ·obtain rfl:i=j-1:=by omega
    exact p
theorem Al(l:List α):l.take l.length=l:=Abl (Aac _)
theorem Af{α:Type}{l:List α}{k:Nat}(a:k<l.length){x:α} :x∈l.take (k+1)↔x∈l.take k\/x=l[k]:=by grind[qz,wM]
theorem Ea(A:N6 l)(v:DT l n)(H:n<fu)(u:n<4294967296):Ok (x_ fu l) (λr=>r=Bp↔Bf l):=by
 refine V_ (λk=> ∀s∈l.take k,BR s.2 256 l.length) l.length (by simp) (by have:=v.1;omega) (λk nx p o u=>?_) (λnx o=>?_)
 ·have i:l[k]∈l:=AN p;have D:=v.2 _ i;refine P7 (Aah p ?_);refine V_ (λj=>BR (l[k].2.take j) 256 l.length) l[k].2.length (by exact .nil) (by omega) (λj q d c f=>?_) (λq c=>?_)
  ·have B:=A _ i _ (AN d);have a:∀h:¬BR (l[k].2.take (j+1)) 256 l.length,Ok (Ac Aj) (λr=>r=Bp↔Bf l):=λh=>
    MP ⟨λh=>(by grind),λw=>absurd ⟨λe C=>(w _ i).rg e (Acj C),(w _ i).so.sublist (List.take_sublist _ _)⟩ h⟩;rw[Aeu d]at a;refine P7 (Aah d ?_);refine Ob (λh=>a (by omega)) λE=>Ob (λh=>a (by omega)) λF=>Ob (λh=>a (by omega)) λG=>Ob (λx=>?_) (λx=>?_)
   ·have t:((j:Int)-1).toNat=j-1:=by omega
    refine PK (by omega) (Adg (by omega) (by omega) ?_);refine Ob (λh=>a ?_) λy=>f ((Aeu d).2 ⟨c,by omega,λ_=>?_⟩);· rintro⟨_,_,z⟩;simp only[t]at h;omega
    ·simp only[t]at y;omega
   grind[Aeu]
  ·refine P8 (u λs b=>?_);rcases(Af p).1 b with h|rfl;· exact o s h
   ·rw[Al]at c;exact c
 ·refine P8 (MP ⟨λ_ s b=>o s (by rw[Al];exact b),λ_=>rfl⟩)
theorem Ha{es:List Cm}{b j:Nat}(c:j<es.length)(h:BN b es[j]=Bp)(a:∀i (hi:i<j),BN b es[i]=Aj):AP es b=es[j].2.2:=by have:es.find? (BN b)=Ac es[j]:=Acn.2 ⟨h,j,c,rfl,λi hi=>by grind⟩;grind[AP]
theorem Gv{es:List Cm}{b:Nat}(a:∀i (hi:i<es.length),BN b es[i]=Aj):AP es b= -1:=by
 have:es.find? (BN b)=C7:=Acu.2 λe c=>by obtain⟨i,hi,rfl⟩:=Aat c;grind
 grind[AP]
theorem Bt{l:Tb}{i:Int}(h0:0<=i)(h1:i<l.length):Be l i=l[i.toNat]'(by omega):=by grind[Be]
open Classical in
noncomputable def I6(l:Tb):Lg:=λs=>Di (Bf l)&&Av l 0 s
theorem L3(h:Bf l):I6 l=Av l 0:=by grind[I6]
theorem TA{l:Tb}(h:¬Bf l)(s:List UInt8):I6 l s=Aj:=by grind[I6]
theorem Ed(i:Int)(s:List UInt8):Av [] i s=Aj:=by simp[Av,fin,Be]
theorem H0(l:Tb)(i:Int)(c:UInt8)(w:List UInt8):runT l i (c::w)=runT l (Bl l i c.toNat) w:=rfl
theorem Ef{l:Tb}{i:Int}(h0:0<=i)(h1:i<l.length):fin l i=(l[i.toNat]'(by omega)).1:=by grind[fin,Bt]
theorem U9(Q:N6 l)(K:DT l n)(R:n<fu)(U:n<4294967296)(S:s.length<fu)(T:s.length<4294967296):Ok (kR fu (l,s)) (λr=>r=I6 l s):=by
 refine Ob (λh=>MP ?_) λV=>OH (Ea Q K R U) λx L=>P3 (λh=>MP ?_) λh=>?_;· obtain rfl:l=[]:=OF.1 (by omega);rw[L3 (by simp[Bf]),Ed]
 ·grind[TA]
 have u:Bf l:=L.1 (by grind);rw[L3 u];refine XD (X:=Int×Int) (λp=>(0<=p.1/\p.1<l.length)/\(0<=p.2/\p.2<=s.length)/\runT l 0 s=runT l p.1 (s.drop p.2.toNat)) (λp=>s.length-p.2.toNat) ⟨⟨by simp,by omega⟩,⟨by simp,by omega⟩,rfl⟩ (by omega) λp nx O _ C=>?_;obtain⟨q,i⟩:=p;obtain⟨⟨f,c⟩,⟨M,N⟩,o⟩:=O
 refine Ob (λd=>Adg f c ?_) λd=>Adg f c (MP ?_)
 ·have a:i.toNat<s.length:=by omega
  have E:Bl l q (s[i.toNat]'a).toNat=AP (l[q.toNat]'(by omega)).2 (s[i.toNat]'a).toNat:=by unfold Bl;rw[if_neg (by omega),Bt f c]
  have e:runT l 0 s=runT l (Bl l q (s[i.toNat]'a).toNat) (s.drop (i+1).toNat):=by rw[o,show(i+1).toNat=i.toNat+1 by omega,<-H0,Aak a]
  rw[E]at e;have D:=K.2 _ (AN (by omega:q.toNat<l.length));have H:=u _ (AN (by omega:q.toNat<l.length));generalize l[q.toNat]'(by omega)=st at e H D;have z:i=((i.toNat:Nat):Int):=by omega
  refine V_ (λk=> ∀j (_:j<k) (J:j<st.2.length),BN (s[i.toNat]'a).toNat st.2[j]=Aj) st.2.length (by omega) (by omega) (λk G B t g=>?_) (λG t=>?_)
  ·have m:BN (s[i.toNat]'a).toNat st.2[k]=Aj->∀j (_:j<k+1) (J:j<st.2.length),BN (s[i.toNat]'a).toNat st.2[j]=Aj:=λh j J A=>by
    rcases Aam j k with c|c;· exact t j c A
    ·obtain rfl:j=k:=by omega
     exact h
   refine P7 (Aah B ?_);have I:∀ {k:Int->Option Bool} {P},Ok (k (((s[i.toNat]'a).toNat:Nat):Int)) P->Ok (Ab (Ez s i) k) P:=λh=>by rw[z];exact ZE a h
   refine I (Ob (λv=>I (Ob (λw=>PK (by omega) ?_) λw=>g (m (by simp[BN,w])))) λv=>g (m (by simp[BN,v])));have y:=Ha B (by simp[BN,v,w]) λi d=>t i d (by omega);rw[y]at e;have F:=H.rg _ (AN B);exact C (_,i+1) ⟨F.2.2.2,⟨by omega,by omega⟩,e⟩ (by omega)
  ·have y:=Gv λi d=>t i d d;rw[y]at e;refine P8 (MP ?_);have:=Hc (l:=l) (s.drop (i+1).toNat) (i:= -1) (by decide);unfold Av fin;rw[decide_eq_false (by omega)];rfl
 ·have a:i.toNat=s.length:=by omega
  rw[a,Aax (Aac _)]at o;unfold Av;rw[o];exact(Ef f c).symm
theorem HE{a b:List α}(h:a.length=b.length)(k:∀j (h:j<a.length) (e:j<b.length),a[j]=b[j]):a=b:=Adj h λj c d=>k j c d
theorem aw{R:Type}{P:R->Prop}{x y:Cm}{p q:Option R}(a:x≠y->Ok p P)(b:x=y->Ok q P):
  Ok (bif !(Di (([x.1,x.2.1,x.2.2]:List Int)=[y.1,y.2.1,y.2.2]))then p else q) P:=by
 grind
theorem T8{a b:List Cm}(i:a.length<fu):Ok (F50 fu (a,b)) (λr=>r=Bp↔a=b):=by
 refine Ob (λh=>MP ⟨λh=>(by grind),λc=>by grind⟩) λh=>?_;have n:a.length=b.length:=by omega
 refine V_ (λk=> ∀j (_:j<k) (h:j<a.length) (c:j<b.length),a[j]=b[j]) a.length (by omega) i (λk nx l d o=>?_) (λnx d=>?_)
 ·refine P7 (Aah l (Aah (by omega) ?_))
  refine aw (λh=>MP ⟨λh=>(by grind),λc=>?_⟩) λh=>o λj p f g=>?_;all_goals grind
 ·exact P8 (MP ⟨λ_=>HE n λj h c=>d j h h c,λ_=>rfl⟩)
theorem ZS{a b:TX}(e:a.2.length<fu):Ok (F51 fu (a,b)) (λr=>r=Bp↔a=b):=by refine P3 (λh=>OH (T8 e) λr f=>MP ?_) λh=>MP ⟨λh=>(by grind),λc=>by grind⟩;grind
theorem KQ{a b:Tb}{n fu:Nat}(i:DT a n)(s:n<fu):Ok (x8 fu (a,b)) (λr=>r=Bp↔a=b):=by
 refine OH (Q:=λr=>r=Bp↔a=b) ?_ λr d=>MP d;refine Ob (λh=>MP ⟨λh=>(by grind),λc=>by grind⟩) λh=>?_;have p:a.length=b.length:=by omega
 refine V_ (λk=> ∀j (_:j<k) (h:j<a.length) (c:j<b.length),a[j]=b[j]) a.length (by omega) (by have:=i.1;omega) (λk nx g e q=>?_) (λnx e=>?_)
 ·refine P7 (Aah g (Aah (by omega) (OH (ZS (by have:=i.2 _ (AN g);omega)) λr d=>?_)));refine P3 (λh=>MP ⟨λh=>(by grind),λc=>?_⟩) λh=>q λj t l m=>?_;all_goals grind
 ·exact P8 (MP ⟨λ_=>HE p λj h c=>e j h h c,λ_=>rfl⟩)
theorem ZQ{a b:Tb}(v:DT a n)(C:n<fu):Ok (F20 fu (a,b)) (λr=>r=Bp↔a=b):=by
 refine Ob (λh=>MP ⟨λh=>(by grind),λd=>by grind⟩) λh=>?_;have A:a.length=b.length:=by omega
 refine V_ (λk=> ∀j (_:j<k) (h:j<a.length) (d:j<b.length),a[j]=b[j]) a.length (by omega) (by have:=v.1;omega) (λk nx u l B=>?_) (λnx l=>?_)
 ·refine P7 (Aah u (Aah (by omega) ?_));refine P3 (λh=>MP ⟨λh=>(by grind),λd=>by grind⟩) λf=>Ob (λh=>MP ⟨λh=>(by grind),λd=>by subst d;simp at h⟩) λs=>?_;have o:a[k].2.length=b[k].2.length:=by omega
  refine V_ (λi=> ∀j (_:j<i) (h:j<a[k].2.length) (d:j<b[k].2.length),a[k].2[j]=b[k].2[j]) a[k].2.length (by omega) (by have:=v.2 _ (AN u);omega) (λi q x g p=>?_) (λq g=>?_)
  ·have m:i<b[k].2.length:=by omega
   refine P7 (Aah x (Aah m ?_));refine aw (λh=>MP ⟨λh=>(by cases h),λd=>by subst d;exact absurd rfl h⟩) λh=>p λj y f s=>?_;rcases Aam j i with e|e;· exact g j e f s
   ·obtain rfl:j=i:=by omega
    exact h
  ·refine P8 (B λj y e w=>?_);rcases Aam j k with t|t;· exact l j t e w
   ·obtain rfl:j=k:=by omega
    exact Acp (by simpa using f) (HE o λj h d=>g j h h d)
 ·exact P8 (MP ⟨λ_=>HE A λj h d=>l j h h d,λ_=>rfl⟩)
def K2(i:Nat)(c:UInt8):TX:=(Aj,[((c.toNat:Int),(c.toNat:Int),((i+1:Nat):Int))])
def CI(s:Aq)(k:Nat):Tb:=(s.take k).mapIdx K2
def Bv(s:Aq):Tb:=s.mapIdx K2++[(Bp,[])]
theorem K1{k:Nat}(h:k<s.length):CI s (k+1)=CI s k++[K2 k s[k]]:=by grind[CI,qz,Nat.min_eq_left,Nat.le_of_lt]
theorem fv(o:s.length<fu)(t:s.length<4294967296):Ok (F7 fu s) (λr=>r=Bv s):=by
 refine XD (X:=Tb×Int) (λp=>(0<=p.2/\p.2<=s.length)/\p.1=CI s p.2.toNat) (λp=>s.length-p.2.toNat) ⟨⟨by simp,by omega⟩,rfl⟩ (by omega) λp nx m _ e=>?_;obtain⟨q,i⟩:=p;obtain⟨⟨j,l⟩,f⟩:=m;simp only at j l f;subst f;have b:(CI s i.toNat).length=i.toNat:=by simp_all[CI]
 refine Ob (λn=>?_) λn=>?_
 ·have a:i.toNat<s.length:=by omega
  have d:i=((i.toNat:Nat):Int):=by omega
  have g:∀ {k:Int->Option Tb} {P},Ok (k (((s[i.toNat]'a).toNat:Nat):Int)) P->Ok (Ab (Ez s i) k) P:=λh=>by rw[d];exact ZE a h
  refine g (g (PK (by omega) (PK (by unfold Ai;simp;omega) (PK (by omega) ?_))));refine e (_,i+1) ⟨⟨by omega,by omega⟩,?_⟩ (by omega)
  rw[show(i+1).toNat=i.toNat+1 by omega,K1 a];simp only[K2];rw[show((i.toNat+1:Nat):Int)=i+1 by omega]
 ·have a:i.toNat=s.length:=by omega
  refine PK (by unfold Ai;simp;omega) (MP ?_);rw[a];simp[CI,Bv]
end
end Go.GL
namespace Go.GL
open Go.GK Go.Lib
def vR(l:List UInt8):Nat:=l.foldl (λa c=>10*a+(c.toNat-48)) 0
theorem O4{d:Nat}(h:d<10):(UInt8.ofNat (48+d)).toNat=48+d:=by simp;omega
theorem NX(u:Nat):vR (decDigits u)=u:=by
 induction u using rT with
 |_ u a=>
  grind[decDigits,vR,O4]
theorem IB(u:Nat):∀c∈decDigits u,48<=c.toNat:=by
 induction u using rT with
 |_ u b=>
  grind[decDigits,wM,O4]
theorem IU:∀(k u:Nat),u<10^ (k+1)->nDigits u<=k+1
 |0,u,h=>by grind[nDigits_small]
 |k+1,u,h=>by
  by_cases a:u<10;· grind[nDigits_small]
  ·rw[nDigits_big a];have:=IU k (u/10) (by omega);omega
theorem JH(u:Nat):itoa (u:Int)=decDigits u:=by rfl
theorem bB{u:Nat}(h:u<10000000000):(itoa (u:Int)).length<=10:=by simp_all[JH,decDigits_length,IU]
theorem JG{n:Int}(h:0<=n):(44:UInt8)∉itoa n:=by intro a;obtain⟨u,rfl⟩:∃u:Nat,n=u:=⟨n.toNat,by omega⟩;have:=IB u 44 a;grind
theorem MV{n m:Int}(h:0<=n)(k:0<=m)(e:itoa n=itoa m):n=m:=by obtain⟨u,rfl⟩:∃u:Nat,n=u:=⟨n.toNat,by omega⟩;obtain⟨v,rfl⟩:∃u:Nat,m=u:=⟨m.toNat,by omega⟩;rw[JH,JH]at e;grind[NX]
theorem Fx:∀ {A B R S:List UInt8},44∉A->44∉B->(R=[]\/R.head?=Ac 44)->(S=[]\/S.head?=Ac 44)->A++R=B++S->A=B/\R=S
 | [],[],_,_,_,_,_,_,h=>⟨rfl,h⟩
 | [],b::B,R,S,_,f,c,_,h=>by grind
 |a::A,[],R,S,e,_,_,d,h=>by grind
 |a::A,b::B,R,S,e,f,c,d,h=>by simp only[Afh,Akz]at h;have:=Fx (λg=>e (by grind)) (λg=>f (by grind)) c d h.2;grind
def EB(l:List Int):Aq:=l.flatMap λx=>([44]:Aq)++itoa x
theorem Gu(l:List Int):EB l=[]\/(EB l).head?=Ac 44:=by
 cases l with
 |nil=>trivial
 |cons x l=>simp[EB]
theorem fO:∀ {l m:List Int} {x y:Int},(∀z∈l,0<=z)->(∀z∈m,0<=z)->0<=x->0<=y->itoa x++EB l=itoa y++EB m->x=y/\l=m
 |l,m,x,y,b,c,f,g,h=>by
  obtain⟨e,a⟩:=Fx (JG f) (JG g) (Gu l) (Gu m) h;refine⟨MV f g e,?_⟩;clear h e;induction l generalizing m with
  |nil=>
   cases m with
   |nil=>rfl
   |cons y m=>trivial
  |cons x l n=>
   cases m with
   |nil=>trivial
   |cons y m=>
    have i:itoa x++EB l=itoa y++EB m:=by grind[EB]
    obtain⟨j,k⟩:=Fx (JG (b x (by simp))) (JG (c y (by simp))) (Gu l) (Gu m) i;rw[MV (b x (by simp)) (c y (by simp)) j,n m (λz d=>b z (by simp[d])) (λz d=>c z (by simp[d])) k]
section
variable {α : Type}
def Bh(n:Nat)(f:Nat->α):List α:=(a_ n).map f
theorem Az(n:Nat)(f:Nat->α):(Bh n f).length=n:=by simp[Bh]
theorem Bm{n:Nat}{f:Nat->α}{i:Nat}(h:i<(Bh n f).length):(Bh n f)[i]=f i:=by simp[Bh]
theorem Jf{n:Nat}{f:Nat->α}{i:Nat}(h:i<n):(Bh n f)[i]?=Ac (f i):=by grind[lr,Az,Bm]
theorem AO{n:Nat}{f g:Nat->α}(h:∀i,i<n->f i=g i):Bh n f=Bh n g:=
 Abr λi a=>h i (Abg.1 a)
theorem Ba(n:Nat)(f:Nat->α)(i:Nat)(x:α):(Bh n f).set i x=Bh n (λj=>if j=i then x else f j):=by refine Adj (by simp[Bh]) λj a b=>?_;grind[Bm]
theorem DB(n:Nat)(x:α):Uh n x=Bh n (λ_=>x):=by refine Adj (by simp[Bh]) λj a b=>by grind[Bm]
theorem ox(l:List α)(d:α):l=Bh l.length (λi=>l.getD i d):=by
 refine Adj (by simp[Bh]) λj a b=>by grind[Bm,lr]
theorem Dg(n:Nat)(f:Nat->α):Bh (n+1) f=Bh n f++[f n]:=by simp[Bh,Aej]
theorem EG{n:Nat}{f:Nat->α}{x:α} :x∈Bh n f↔∃i,i<n/\f i=x:=by simp[Bh]
theorem VE{n:Nat}{f g:Nat->α} :Bh n f=Bh n g↔∀i,i<n->f i=g i:=by refine⟨λh i a=>?_,AO⟩;have:=congrArg (·[i]?) h;grind[Jf]
theorem AV{n:Nat}{f:Nat->α}{i:Nat}(h:i<n):idx (Bh n f) (i:Int)=Ac (f i):=by grind[Bk,Az,Bm]
end
theorem Hu{α:Type}{n:Nat}{f:Nat->α}{i:Int}(h0:0<=i)(h:i.toNat<n):idx (Bh n f) i=Ac (f i.toNat):=by grind[Fs,Az,Bm]
section
variable {α β : Type}
section
variable{n:Nat}{f:Nat->α}{u:List α}
theorem Ch [DecidableEq α]:∀ {a b:List α},a.Nodup->(∀x∈a,x∈b)->a.length<=b.length
 | [],_,_,_=>by simp
 |x::a,b,g,d=>by have c:=Aay.1 g;have:=Ch (a:=a) (b:=b.erase x) c.2 (λy f=>(Agv (λe=>by grind)).2 (d y (by grind)));grind
theorem K' [DecidableEq α]:∀ {b a:List α},a.Nodup->(∀x∈a,x∈b)->b.length<=a.length->b.Nodup
 | [],_,_,_,_=> .nil
 |x::b,a,c,g,f=>by
  by_cases i:x∈b
  ·have:=Ch (b:=b) c (λy d=>by grind);grind
  ·refine Aay.2 ⟨i,K' (a:=a.erase x) (c.erase x) (λy d=>?_) ?_⟩
   all_goals grind
structure Gp(n:Nat)(f:Nat->α)(u:List α):Prop where
 nd:u.Nodup
 mem:∀x,x∈u↔∃s,s<n/\f s=x
open Classical in
theorem Gp.le{n:Nat}{f:Nat->α}{u:List α}(h:Gp n f u):u.length<=n:=by have:=Ch (b:=Bh n f) h.nd (λx a=>EG.2 ((h.mem x).1 a));grind[Az]
open Classical in
theorem Gp.bZ{n:Nat}{f:Nat->α}{g:Nat->β}{u:List α}{v:List β}(r:Gp n f u)(l:Gp n g v)(F:∀s t,s<n->t<n->g s=g t->f s=f t):
  u.length<=v.length/\(u.length=v.length->∀s t,s<n->t<n->f s=f t->g s=g t):=by
 let p:β->α:=λx=>if h:∃s,s<n/\g s=x then f (Classical.choose h)else f 0;have q:∀s,s<n->p (g s)=f s:=λs a=>by have h:∃t,t<n/\g t=g s:=⟨s,a,rfl⟩;grind
 have a:∀y∈u,y∈v.map p:=λy H=>by obtain⟨s,a,rfl⟩:=(r.mem y).1 H;exact By.2 ⟨g s,(l.mem _).2 ⟨s,a,rfl⟩,q s a⟩
 refine⟨by have:=Ch r.nd a;simp_all,λD s t d e E=>?_⟩;have c:=K' r.nd a (by simp[D]);have k:=(l.mem _).2 ⟨s,d,rf⟩;have B:=(l.mem _).2 ⟨t,e,rf⟩;have C:p (g s)=p (g t):=by rw[q s d,q t e,E]
 obtain⟨i,m,w⟩:=Aat k;obtain⟨j,o,z⟩:=Aat B;have A:(v.map p)[i]'(by simpa using m)=(v.map p)[j]'(by simpa using o):=by simp[w,z,C]
 have:i=j:=by
  rcases Acx i j with b|b|b;· exact absurd A (Aaw.1 c _ _ (by simpa using m) (by simpa using o) b)
  ·exact b
  ·exact absurd A.symm (Aaw.1 c _ _ (by simpa using o) (by simpa using m) b)
 grind
theorem Gp.zero(f:Nat->α):Gp 0 f []:=⟨.nil,by simp⟩
theorem Gp.new(h:Gp n f u)(i:f n∉u):Gp (n+1) f (u++[f n]):=by
 refine⟨Acq.2 ⟨h.nd,by simp,λa g b d=>?_⟩,λx=>?_⟩;· grind
 ·rw[AS,h.mem,Aaf];grind
theorem Gp.old(h:Gp n f u)(b:f n∈u):Gp (n+1) f u:=by
 refine⟨h.nd,λx=>?_⟩;rw[h.mem];constructor;· grind
 ·rintro⟨s,c,rfl⟩;rcases Aam s n with a|a;· grind
  ·obtain rfl:s=n:=by omega
   exact(h.mem _).1 b
end
end
end Go.GL
namespace Go.GL
open Go Go.GV Go.GK Go.Proofs
section
variable{cs:List Int}{l:Tb}{i n fu:Nat}{m:List (Aq×Int)}{u:List Aq}{c b s:Nat}{x:Aq}
def Ends(l:Tb)(b:Nat):Prop:=b=0\/∃s∈l,∃e∈s.2,e.1=(b:Int)\/e.2.1+1=(b:Int)
structure Bs(cs:List Int):Prop where
 zero:cs[0]?=Ac 0
 asc:cs.Pairwise (· < ·)
 rg:∀c∈cs,0<=c/\c<256
def G5(cs:List Int)(i:Nat):Int:=if i+1<cs.length then cs.getD (i+1) 0-1 else 255
def DO(cs:List Int)(l:Tb):Prop:= ∀b:Nat,b<256->Ends l b->(b:Int)∈cs
theorem Bs.pos(h:Bs cs):0<cs.length:=(No.1 h.zero).1
theorem Bs.le(h:Bs cs):cs.length<=256:=by
 have e:(cs.map aC).Nodup:=by refine(Adn.2 ?_);refine Agb (λ{a b} f i g=>?_) h.asc;have:=h.rg a f;omega
 have:=Ch (b:=a_ 256) e (λx j=>by obtain⟨c,hc,rfl⟩:=By.1 j;have:=h.rg c hc;grind);grind
theorem Bs.lt(h:Bs cs){j:Nat}(hi:i<cs.length)(b:j<cs.length)(a:i<j):cs[i]<cs[j]:=Aaw.1 h.asc i j hi b a
theorem Bs.w_(h:Bs cs):cs[0]'h.pos=0:=by have:=h.zero;grind
theorem E2{cs:List Int}{i:Nat}(h:i+1<cs.length):G5 cs i=cs[i+1]-1:=by grind[G5]
theorem Hv{cs:List Int}{i:Nat}(h:¬i+1<cs.length):G5 cs i=255:=by grind[G5]
theorem Bs.hi(h:Bs cs)(hi:i<cs.length):cs[i]<=G5 cs i/\G5 cs i<256:=by
 have b:=h.rg _ (AN hi);by_cases a:i+1<cs.length;· rw[E2 a];have:=h.lt hi a (by omega);have:=h.rg _ (AN a);omega
 grind[Hv]
theorem Bs.no(h:Bs cs)(hi:i<cs.length){c:Int}(h1:cs[i]<c)(h2:c<=G5 cs i):c∉cs:=by
 intro f;obtain⟨j,b,rfl⟩:=Aat f;have e:i<j:=by
  rcases Acx i j with a|a|a;· omega
  ·grind
  ·have:=h.lt b hi a;omega
 have d:i+1<cs.length:=by omega
 rw[E2 d]at h2;rcases Aam (i+1) j with a|a;· have:=h.lt d b a;omega
 grind
theorem DO.const(h:Bs cs)(hc:DO cs l)(o:Bf l)(hi:i<cs.length)(h1:cs[i]<=b)(h2:(b:Int)<=G5 cs i)(q:Int):Bl l q b=Bl l q cs[i].toNat:=by
 have t:=h.hi hi;unfold Bl;split;· rfl
 ·have g:∀e∈(Be l q).2,BN b e=BN cs[i].toNat e:=by
   intro e a;have n:∃s∈l,e∈s.2:=by grind[Be]
   obtain⟨s,j,a⟩:=n;have r:=(o s j).rg e a;have v:¬(cs[i]<e.1/\e.1<=G5 cs i):=λ⟨d,f⟩=>h.no hi d f (by
    have:=hc e.1.toNat (by omega) (.inr ⟨s,j,e,a, .inl (by omega)⟩);rwa [show((e.1.toNat:Nat):Int)=e.1 by omega]at this);have w:¬(cs[i]<e.2.1+1/\e.2.1+1<=G5 cs i):=λ⟨d,f⟩=>h.no hi d f (by
    have:=hc (e.2.1+1).toNat (by omega) (.inr ⟨s,j,e,a, .inr (by omega)⟩);rwa [show(((e.2.1+1).toNat:Nat):Int)=e.2.1+1 by omega]at this);grind[BN]
  unfold AP;rw[show(Be l q).2.find? (BN b)=(Be l q).2.find? (BN cs[i].toNat)from ?_];generalize(Be l q).2=m at g;induction m with
  |nil=>rfl
  |cons e m p=>
   rw[Afm,Afm,g e (by simp),p λe a=>g e (by simp[a])]
theorem Bs.find(h:Bs cs)(b:Nat)(g:b<256):∃i,∃hi:i<cs.length,cs[i]<=b/\(b:Int)<=G5 cs i:=by
 have key:∀k,k<cs.length->(∃i,∃hi:i<cs.length,cs[i]<=b/\(b:Int)<=G5 cs i)\/∃c:k<cs.length,cs[k]<=b:=by
  intro k;induction k with
  |zero=>intro c;exact .inr ⟨c,by rw[h.w_];omega⟩
  |succ k f=>
   grind[E2]
 rcases key (cs.length-1) (by have:=h.pos;omega)with a|⟨a,d⟩;all_goals grind[Hv]
theorem Fu(p:Nat->Bool)(k:Nat):(a_ (k+1)).filter p=(a_ k).filter p++(if p k then [k]else []):=by grind[List.range_succ]
def ints(l:List Nat):List Int:=l.map λ(n:Nat)=>(n:Int)
theorem bF(a b:List Nat):ints (a++b)=ints a++ints b:=by simp[ints]
theorem cH{p:Nat->Bool}(h0:p 0=Bp):Bs (ints ((a_ 256).filter p)):=by
 refine⟨?_,?_,?_⟩
 ·have:a_ 256=0::(List.range' 1 255):=by rw[Agu];rfl
  rw[this,Afg,if_pos h0];rfl
 ·refine Adn.2 (List.Pairwise.imp (λ{a b} h=>by omega) (List.Pairwise.filter _ List.pairwise_lt_range))
 ·intro c hc;obtain⟨x,d,rfl⟩:=By.1 hc;grind
theorem cG(M:Bf l)(F:DT l n)(O:n<fu)(w:256<fu):Ok (F38 fu l) (λcs=>Bs cs/\DO cs l):=by
 refine PK (by simp) (PK (by simp) ?_);rw[DB,Ba];let E:Nat->Nat->Nat->Prop:=λk j b=>b=0\/(∃s∈l.take k,∃e∈s.2,e.1=(b:Int)\/e.2.1+1=(b:Int))\/∃s,l[k]?=Ac s/\∃e∈s.2.take j,e.1=(b:Int)\/e.2.1+1=(b:Int);refine SE (λk x=> ∃p,x=Bh 257 p/\∀b,b<257->(p b=Bp↔E k 0 b)) l.length ⟨_,rf,λb c=>?_⟩ (by have:=F.1;omega) (λk x nx d v m=>?_) (λx nx v=>?_);· grind
 ·have D:l[k]∈l:=AN d;have L:=F.2 _ D;refine T3 (by omega) (Aah d ?_);refine SE (λj x=> ∃p,x=Bh 257 p/\∀b,b<257->(p b=Bp↔E k j b)) l[k].2.length v (by omega) (λj x o B g C=>?_) (λx o g=>?_)
  ·try dsimp only
   obtain⟨p,rfl,q⟩:=g;have P:=(M _ D).rg _ (AN B);refine T3 (by omega) (Aah B ?_)
   have H:l[k].2[j].1=((l[k].2[j].1.toNat:Nat):Int):=by omega
   have I:l[k].2[j].2.1+1=(((l[k].2[j].2.1+1).toNat:Nat):Int):=by omega
   refine Abw (Abw (Aao (Abw (PK (by omega) ?_))));rw[Abm,Ada,Abm,Ada,Ba,Ba];refine C _ ⟨_,rf,λb c=>?_⟩;have g:E k (j+1) b↔E k j b\/l[k].2[j].1=(b:Int)\/l[k].2[j].2.1+1=(b:Int):=by
    simp only[E,IS d,Aem,exists_eq_left',Af B];constructor
    ·rintro(h|h|⟨e,h|rfl,a⟩);· omega
     ·exact .inl (.inr (.inl h))
     ·exact .inl (.inr (.inr ⟨e,h,a⟩))
     omega
    ·rintro((h|h|⟨e,h,a⟩)|h);· exact .inl h
     ·exact .inr (.inl h)
     ·exact .inr (.inr ⟨e, .inl h,a⟩)
     ·exact .inr (.inr ⟨_, .inr rf,h⟩)
   rw[g];by_cases f:b=(l[k].2[j].2.1+1).toNat;· simp only[f,if_true,true_iff];exact .inr (.inr I)
   ·by_cases a:b=l[k].2[j].1.toNat;· simp only[f,if_false];simp only[a,if_true,true_iff];exact .inr (.inl H)
    ·simp only[f,a,if_false,q b c];constructor;· exact .inl
     ·rintro(h|h|h);· exact h
      ·omega
      ·omega
  ·refine Qh (by(try simp only);omega) (m _ ?_);obtain⟨p,rfl,q⟩:=g;refine⟨p,rfl,λb c=>?_⟩;rw[q b c];simp only[E,IS d,Aem,exists_eq_left',Af d,Al,Aec];constructor
   ·rintro(h|⟨s,f,a⟩|h);· exact .inl h
    ·exact .inr (.inl ⟨s, .inl f,a⟩)
    ·exact .inr (.inl ⟨_, .inr rf,h⟩)
   ·rintro(h|⟨s,f|rfl,a⟩|⟨s,_,e,K,_⟩);· exact .inl h
    ·exact .inr (.inl ⟨s,f,a⟩)
    ·exact .inr (.inr a)
    ·cases K
 ·obtain⟨p,rfl,q⟩:=v;have r:∀b,b<257->(p b=Bp↔Ends l b):=λb c=>by
   rw[q b c];simp only[E,Al];constructor
   ·rintro(h|h|⟨s,h,_⟩);· exact .inl h
    ·exact .inr h
    ·rw[Acz (Aac _)]at h;cases h
   ·rintro(h|h);· exact .inl h
    ·exact .inr (.inl h)
  refine Qh (by omega) ?_;refine XD (X:=List Int×Int) (λx=>(0<=x.2/\x.2<=256)/\x.1=ints ((a_ x.2.toNat).filter p)) (λx=>256-x.2.toNat) ⟨⟨by decide,by decide⟩,rfl⟩ (by simpa using w) λx o J _ m=>?_;obtain⟨x,i⟩:=x;obtain⟨⟨y,A⟩,t⟩:=J;obtain⟨k,rfl⟩:∃k:Nat,i=k:=⟨i.toNat,by omega⟩;rw[Acd]at t
  refine Ob (λd=>?_) λd=>?_
  ·subst t;have d:k<256:=by omega
   rw[Acd,Abm,Ada];have m:∀z,z=ints ((a_ (k+1)).filter p)->Ok (o (z,(k:Int)+1)) (λcs=>Bs cs/\DO cs l):=λz N=>m (z,(k:Int)+1) ⟨⟨by dsimp only;omega,by dsimp only;omega⟩,by dsimp only;rw[N,show((k:Int)+1).toNat=k+1 by omega]⟩ (by dsimp only;omega);refine Abw (BY (AV (by omega)) (P3 (λh=>PK ?_ (Aao (m _ ?_))) λh=>Aao (m _ ?_)));· have:=List.length_filter_le p (a_ k);rw[Ain]at this;simp[ints];unfold Ai;omega
   ·rw[Fu,bF,if_pos h];rfl
   ·rw[Fu,if_neg (by rw[h];decide),Adh]
  ·obtain rfl:k=256:=by omega
   subst t;refine(MP ⟨cH ((r 0 (by decide)).2 (.inl rfl)),λb c g=>?_⟩);exact By.2 ⟨b,Aaz.2 ⟨Abg.2 c,(r b (by omega)).2 g⟩,rfl⟩
def sk(n:Nat)(t:Int):Int:=if t<0 then n else t
def G4(l:Tb)(cs:List Int)(q i:Nat):Int:=sk l.length (Bl l (q:Nat) (cs.getD i 0).toNat)
def U_(l:Tb)(q:Nat):Bool:=(Be l (q:Nat)).1
def ay(l:Tb)(cs:List Int)(q:Nat):List Int:=Bh cs.length (G4 l cs q)
def FM(l:Tb)(cs a:List Int):List Int×List (List Int)×List Bool×List Int:=(cs,Bh (l.length+1) (ay l cs),Bh (l.length+1) (U_ l),a)
theorem getD_at(h:i<cs.length):cs.getD i 0=cs[i]:=by grind
theorem aQ(l:Tb)(t:Int)(h:t<l.length):Av l (sk l.length t)=Av l t:=by
 unfold sk;split
 ·rename_i h;funext w;rw[Ee h];have a:Be l (l.length:Nat)=(Aj,[]):=by simp[Be]
  cases w with
  |nil=>grind[Av,runT,fin]
  |cons c w=>
   have:Bl l (l.length:Nat) c.toNat= -1:=by unfold Bl;rw[if_neg (by omega),a];rfl
   show Av l (Bl l (l.length:Nat) c.toNat) w=Aj;grind[Ee]
 rfl
theorem vY(a:Bf l)(q:Int)(b:Nat):0<=sk l.length (Bl l q b)/\sk l.length (Bl l q b)<(l.length+1:Nat):=by have:=a.st q b;grind[sk]
theorem OK{c:Nat} :∀ {es:List Cm} {m n:Nat} (_:BR es m n) (a:Int),es.foldl (λa e=>if BN c e then e.2.2 else a) a=match es.find? (BN c)with|some e=>e.2.2|none=>a
 | [],_,_,_,_=>rfl
 |e::es,m,n,h,a=>by
  have f:BR es m n:=⟨λx d=>h.rg x (by grind),(Abj.1 h.so).2⟩;rw[Afl,OK f,Afm];by_cases b:BN c e=Bp
  ·have:es.find? (BN c)=C7:=Acu.2 λx d=>by
    have g:=(Abj.1 h.so).1 x d;grind[BN]
   grind
  grind
theorem Xs{es:List Cm}{m:Nat}(h:BR es m n):es.foldl (λa e=>if BN c e then e.2.2 else a) (n:Int)=sk n (AP es c):=by
 rw[OK h];unfold AP;cases b:es.find? (BN c)with
 |some e=>
  have:=h.rg e (Aca b);grind[sk]
 |none=>rfl
theorem S3(K:Bf l)(u:DT l n)(U:n<4294967296)(R:n<fu)(F:256<fu):Ok (F39 fu l) (λx=> ∃cs,Bs cs/\DO cs l/\x=(cs,[],(FM l cs []).2.1,(FM l cs []).2.2.1)):=by
 rw[F39];refine OH (cG K u R F) λcs ⟨o,E⟩=>?_;have Q:=o.le;have S:=u.1;refine XZ (λk y x=>x=Bh k (U_ l)/\y=Bh k (ay l cs)) l.length ⟨rfl,rfl⟩ (by omega) (λk x y nx H D G=>?_) (λx y nx D=>?_)
 ·obtain⟨rfl,rfl⟩:=D
  have I:l[k]∈l:=AN H;have T:=u.2 _ I;have O:=K _ I;have d:Be l (k:Nat)=l[k]:=Bt (by omega) (by omega);refine P7 (Aah H (PK (by grind) ?_));rw[DB];refine SE (λi x=>x=Bh cs.length (λj=>if j<i then G4 l cs k j else 0)) cs.length (by simp) (by omega) (λi x t p m r=>?_) (λx t m=>?_)
  ·subst m
   refine P7 (Aah p (BY (AV p) ?_));rw[Ba];have P:=o.rg _ (AN p);refine SE (λj x=>x=Bh cs.length (λq=>if q=i then(l[k].2.take j).foldl (λa e=>if BN cs[i].toNat e then e.2.2 else a) (l.length:Int)else if q<i then G4 l cs k q else 0)) l[k].2.length (by simp) (by omega) (λj x z A s v=>?_) (λx z s=>?_)
   ·subst s;try dsimp only
    refine P7 (Aah A ?_);have u:(l[k].2.take (j+1)).foldl (λa e=>if BN cs[i].toNat e then e.2.2 else a) (l.length:Int)=if BN cs[i].toNat l[k].2[j]then l[k].2[j].2.2 else(l[k].2.take j).foldl (λa e=>if BN cs[i].toNat e then e.2.2 else a) (l.length:Int):=by grind[qz]
    have w:BN cs[i].toNat l[k].2[j]=Aj->Ok (z (Bh cs.length (λq=>if q=i then(l[k].2.take j).foldl (λa e=>if BN cs[i].toNat e then e.2.2 else a) (l.length:Int)else if q<i then G4 l cs k q else 0),j+1)) (λx=> ∃cs,Bs cs/\DO cs l/\x=(cs,[],(FM l cs []).2.1,(FM l cs []).2.2.1)):=λh=>v _ (by rw[u,h];rfl);refine Ob (λN=>Ob (λf=>BY (AV p) ?_) λf=>?_) λN=>?_;· rw[Ba];grind[BN]
    ·exact w (by simp only[BN,Agr,decide_eq_false_iff_not];omega)
    grind[BN]
   ·subst s
    refine P8 (r _ (AO λq B=>?_));rw[Al,Xs O];by_cases h:q=i;· subst h;simp only[if_true,Aff];unfold G4 Bl;rw[if_neg (by omega),d,getD_at p]
    ·rw[if_neg h];by_cases f:q<i;· rw[if_pos f,if_pos (by omega)]
     ·rw[if_neg f,if_neg (by omega)]
  ·subst m
   refine P8 (PK (by rw[Az];unfold Ai;omega) (PK (by rw[Az];unfold Ai;omega) (G _ _ ⟨?_,?_⟩)));· rw[Dg];unfold U_;rw[d]
   ·rw[Dg];unfold ay;rw[AO (g:=G4 l cs k) λj A=>by rw[if_pos A]]
 ·obtain⟨rfl,rfl⟩:=D
  refine P8 (PK (by unfold Ai;omega) ?_);have J:Be l (l.length:Nat)=(Aj,[]):=by unfold Be;simp
  refine SE (λi x=>x=Bh cs.length (λj=>if j<i then(l.length:Int)else 0)) cs.length (by rw[DB];rfl) (by omega) (λi x t p s r=>?_) (λx t s=>?_)
  ·subst s;try dsimp only
   refine T3 (by simp;omega) (BY (AV p) (r _ ?_));rw[Ba];refine AO λq B=>?_;by_cases h:q=i;· subst h;simp
   ·rw[if_neg h];by_cases f:q<i;· rw[if_pos f,if_pos (by omega)]
    ·rw[if_neg f,if_neg (by omega)]
  ·subst s;try dsimp only
   refine Qh (by simp) (PK (by rw[Az];unfold Ai;simp;omega) (PK (by rw[Az];unfold Ai;simp;omega) (MP ⟨cs,o,E,?_⟩)));unfold FM;rw[Dg,Dg];have L:U_ l l.length=Aj:=by unfold U_;rw[J]
   have M:ay l cs l.length=Bh cs.length (λj=>if j<cs.length then(l.length:Int)else 0):=by unfold ay;refine AO λq B=>?_;rw[if_pos B];unfold G4 Bl;rw[if_neg (by omega),J];rfl
   rw[L,M]
def Cl(l:Tb):Nat:=l.length+1
theorem Gd(a:Bf l)(cs:List Int)(q i:Nat):0<=G4 l cs q i/\G4 l cs q i<Cl l:=vY a _ _
theorem OB(a:Bf l)(hc:Bs cs)(q:Nat)(hi:i<cs.length):Av l (G4 l cs q i)=IA (Av l (q:Nat)) cs[i].toNat:=by have b:=hc.rg _ (AN hi);rw[Fv _ _ _ (by omega)];unfold G4;rw[aQ _ _ (by have:=a.st (q:Nat) (cs.getD i 0).toNat;omega),getD_at hi]
theorem JA(d:Bf l)(hc:Bs cs)(c:DO cs l)(q:Int)(hi:i<cs.length)(a:b<256)(h1:cs[i]<=b)(h2:(b:Int)<=G5 cs i):IA (Av l q) b=IA (Av l q) cs[i].toNat:=by rw[Fv _ _ _ a,Fv _ _ _ (by omega),c.const hc d hi h1 h2]
theorem P4(l:Tb)(q:Nat):Av l (q:Nat) []=U_ l q:=by rfl
theorem V8{l:Tb}(a:Bf l){cs:List Int}(hc:Bs cs)(j:DO cs l)(c:Nat->Int)
  (h1:∀s t,s<Cl l->t<Cl l->c s=c t->U_ l s=U_ l t)
  (h2:∀s t,s<Cl l->t<Cl l->c s=c t->∀i,i<cs.length->c (G4 l cs s i).toNat=c (G4 l cs t i).toNat):
  ∀(w:List UInt8) (s t:Nat),s<Cl l->t<Cl l->c s=c t->Av l (s:Nat) w=Av l (t:Nat) w
 | [],s,t,f,g,h=>by grind[P4]
 |b::w,s,t,f,g,h=>by
  obtain⟨i,d,k,m⟩:=hc.find b.toNat b.toNat_lt;have e:∀q:Nat,Av l (q:Nat) (b::w)=Av l (G4 l cs q i) w:=λq=>by rw[OB a hc q d,<-JA a hc j q d b.toNat_lt k m];simp[IA]
  have n:=Gd a cs s i;have o:=Gd a cs t i;have:=V8 a hc j c h1 h2 w (G4 l cs s i).toNat (G4 l cs t i).toNat (by omega) (by omega) (h2 s t f g h i d);grind[Int.toNat_of_nonneg]
def EF(l:Tb)(cs:List Int)(c:Nat->Int)(s:Nat):Aq:=Lib.itoa (c s)++EB (Bh cs.length λi=>c (G4 l cs s i).toNat)
theorem Mf(n:Nat)(f:Nat->Int):EB (Bh (n+1) f)=EB (Bh n f)++(([44]:Aq)++Lib.itoa (f n)):=by grind[EB,Dg]
theorem Oe{f:Nat->Int}(h:∀i,i<n->(Lib.itoa (f i)).length<=10):(EB (Bh n f)).length<=11*n:=by
 induction n with
 |zero=>simp[Bh,EB]
 |succ n b=>
  grind[Mf,List.length_append]
def bI(s:Aq):List Int:=s.map λb=>((b.toNat:Nat):Int)
theorem sj(s t:Aq):bI (s++t)=bI s++bI t:=by simp[bI]
theorem Zo{s:Aq}{x:List Int}(h:x.length+s.length<=1000000000):x9 fu (s,x)=Ac ((s.length:Int),x++bI s):=by rw[x9];refine Ok.eq (BY (d41 fu x) (Abw (MP rfl)))
theorem oF(s:Aq):F43 fu (bI s)=Ac s:=by rw[F43];refine Ok.eq (PK ⟨rfl,rfl⟩ (MP ?_));simp_all[bI,Aaj,Afi,Abr]
structure ClsB(l:Tb)(c:Nat->Int):Prop where
 rg:∀s,s<Cl l->0<=c s/\c s<=l.length
theorem OR{n:Int}(h0:0<=n)(h:n<10000000000):(Lib.itoa n).length<=10:=by obtain⟨u,rfl⟩:∃u:Nat,n=u:=⟨n.toNat,by omega⟩;grind[bB]
theorem PE{c:Nat->Int}(m:Bf l)(hc:Bs cs)(t:ClsB l c)(C:l.length<=n)(D:n<4294967296)(B:256<fu)(g:s<Cl l):
  Ok (F44 fu ((FM l cs (Bh (Cl l) c)),(s:Int))) (λr=>r=EF l cs c s/\r.length<=4096):=by
 rw[F44];unfold FM;have w:=hc.le;have b:∀q,q<Cl l->(Lib.itoa (c q)).length<=10:=λq d=>by have:=t.rg q d;grind[OR]
 have e:∀q,q<Cl l->F40 fu (c q)=Ac (Lib.itoa (c q)):=λq d=>by have:=t.rg q d;exact(d40 fu _).trans (nL (p:=GK.DW (c q)) (by omega))
 have u:=b s g;refine BY (AV g) (BY (e s g) (BY (Zo (by grind)) (BY (AV g) ?_)));refine SE (λi x=>x=bI (Lib.itoa (c s)++EB (Bh i λi=>c (G4 l cs s i).toNat))) cs.length (by simp[Bh,EB,bI]) (by omega) (λi x nx y o k=>?_) (λx nx o=>?_)
 ·subst o
  have E:=Gd m cs s i;have d:(G4 l cs s i).toNat<Cl l:=by omega
  have A:=b _ d;have v:=Oe (n:=i) (f:=λi=>c (G4 l cs s i).toNat) λj z=>b _ (by simp_all[Gd]);refine T3 (by simp only[ay,Az];omega) (BY (by exact AV y) (BY (a:=c (G4 l cs s i).toNat) ?_ (BY (e _ d) (PK (by simp;omega) (BY (Zo (by simp[bI];omega)) (k _ ?_))))));· rw[show G4 l cs s i=(((G4 l cs s i).toNat:Nat):Int) by omega];exact AV (by omega)
  grind[Lib.itoa,Mf,List.append_assoc,sj]
 ·subst o
  have v:=Oe (n:=cs.length) (f:=λi=>c (G4 l cs s i).toNat) λj z=>b _ (by have:=Gd m cs s j;omega);refine Qh (by simp only[ay,Az];omega) (BY (oF _) (MP ⟨rfl,?_⟩));rw[Aaa];omega
theorem FZ{c:Nat->Int}(g:Bf l)(e:ClsB l c){t:Nat}(f:s<Cl l)(ht:t<Cl l):
  EF l cs c s=EF l cs c t↔c s=c t/\∀i,i<cs.length->c (G4 l cs s i).toNat=c (G4 l cs t i).toNat:=by
 have a:∀q,∀z∈(Bh cs.length λi=>c (G4 l cs q i).toNat),0<=z:=λq z a=>by obtain⟨i,_,rfl⟩:=EG.1 a;exact(e.rg _ (by simp_all[Gd])).1
 constructor;· intro h;obtain⟨b,d⟩:=fO (a s) (a t) (e.rg s f).1 (e.rg t ht).1 h;grind[VE]
 grind[EF,VE]
def Eg(m:List (Aq×Int))(u:List Aq):Prop:=m.length=u.length/\∀x,AB m x=if x∈u then Ac ((u.idxOf x:Nat):Int)else C7
theorem Eg.nil:Eg [] []:=⟨rfl,λx=>rfl⟩
theorem Eg.put(h:Eg m u)(c:x∉u):Eg (Bw m x (u.length:Int)) (u++[x]):=by refine⟨by rw[KA,h.2,if_neg c,h.1];simp,λz=>?_⟩;rw[Ib,h.2];grind
theorem Eg.some(h:Eg m u)(x:Aq):(AB m x).isSome=Di (x∈u):=by rw[h.2];grind
theorem Eg.getD(h:Eg m u)(b:x∈u):(AB m x).getD 0=((u.idxOf x:Nat):Int):=by rw[h.2,if_pos b];rfl
theorem OS{α:Type} [BEq α] [LawfulBEq α]{u:List α}{x y:α}(e:x∈u)(f:y∈u)(h:u.idxOf x=u.idxOf y):x=y:=by have c:=Ads e;have a:=Aer c;grind
structure Xd(l:Tb)(c:Nat->Int):Prop extends ClsB l c where
 iff:∀s t,s<Cl l->t<Cl l->(c s=c t↔Av l (s:Nat)=Av l (t:Nat))
structure sT(l:Tb)(k:Nat)(c:Nat->Int):Prop extends ClsB l c where
 fwd:∀s t,s<Cl l->t<Cl l->Av l (s:Nat)=Av l (t:Nat)->c s=c t
 acc:∀s t,s<Cl l->t<Cl l->c s=c t->U_ l s=U_ l t
 AD:k=0\/∃(key:Nat->Aq) (u:List Aq),Gp (Cl l) key u/\u.length=k/\∀s t,s<Cl l->t<Cl l->c s=c t->key s=key t
theorem XG(q:Bf l)(h0:0<l.length)(hc:Bs cs)(Z:DO cs l)(hl:l.length<=n)(hn:n<4294967296)(hfu:n+2<fu)(I:256<fu):
  Ok (F45 fu (cs,[],(FM l cs []).2.1,(FM l cs []).2.2.1)) (λr=> ∃c,Xd l c/\r=FM l cs (Bh (Cl l) c)):=by
 have hN:Cl l=l.length+1:=rfl;rw[F45];unfold FM;simp only[Az];refine PK (by grind) ?_;rw[DB];refine SE (λk x=>x=Bh (Cl l) (λs=>if s<k then(if U_ l s then 1 else 0)else 0)) (Cl l) (by rfl) (by omega) (λk x nx Q L D=>?_) (λx nx L=>?_)
 ·subst L
  refine P7 (BY (AV Q) (P3 (λh=>BY (AV Q) (D _ ?_)) λh=>D _ (AO λs a=>?_)))
  all_goals grind[Ba]
 ·subst L
  refine Qh (by omega) ?_;refine XD (X:=List Int×Int) (λx=> ∃k:Nat,x.2=k/\k<=Cl l/\∃c,x.1=Bh (Cl l) c/\sT l k c) (λx=>Cl l-x.2.toNat) ⟨0,rf,by simp,_,rf,⟨⟨λs a=>?_⟩,λs t a b h=>?_,λs t a b h=>?_, .inl rf⟩⟩ (by omega) λx nx d _ D=>?_;· omega
  ·rw[if_pos a,if_pos b,<-P4,<-P4,h]
  ·grind
  obtain⟨cl,ki⟩:=x;obtain⟨k,J,Q,c,C,d⟩:=d;subst C
  refine PK (by grind) ?_;refine XZ (λj y m=> ∃u,Gp j (EF l cs c) u/\Eg m u/\y=Bh (Cl l) (λs=>if s<j then((u.idxOf (EF l cs c s):Nat):Int)else 0)) (Cl l) ⟨[], .zero _, .nil,by rfl⟩ (by omega) (λj y m T P O F=>?_) (λy m T O=>?_)
  ·obtain⟨u,A,g,rfl⟩:=O;have K:=A.le
   refine P7 (OH (PE q hc d.toClsB hl hn I P) λx L=>?_);obtain⟨rfl,hxl⟩:=L;have M:(EF l cs c j).length<=Ai:=by grind
   refine PK M (P3 (λh=>?_) λh=>?_)
   ·rw[g.some]at h;have o:EF l cs c j∉u:=by simpa using h
    refine PK ⟨M,by rw[g.1];omega⟩ ?_;refine BY (AV P) (F _ _ ⟨u++[EF l cs c j],A.new o,by rw[g.1];exact g.put o,?_⟩);rw[Ba];refine AO λs a=>?_;by_cases p:s=j;· subst p;rw[if_pos rfl,if_pos (by omega),Aex,if_neg o,g.1];simp
    ·rw[if_neg p];by_cases e:s<j;· rw[if_pos e,if_pos (by omega),Aex,if_pos ((A.mem _).2 ⟨s,e,rfl⟩)]
     ·rw[if_neg e,if_neg (by omega)]
   ·rw[g.some]at h;have o:EF l cs c j∈u:=by simpa using h
    refine BY (AV P) (F _ _ ⟨u,A.old o,g,?_⟩);rw[Ba,g.getD o];refine AO λs a=>?_;by_cases p:s=j;· subst p;rw[if_pos rfl,if_pos (by omega)]
    ·rw[if_neg p];by_cases e:s<j;· rw[if_pos e,if_pos (by omega)]
     ·rw[if_neg e,if_neg (by omega)]
  ·obtain⟨u,A,g,rfl⟩:=O;have K:=A.le;have W:0<u.length:=Agl ((A.mem _).2 ⟨0,by omega,rfl⟩);have z:∀s,s<Cl l->EF l cs c s∈u:=λs a=>(A.mem _).2 ⟨s,a,rfl⟩;try dsimp only
   have C:Bh (Cl l) (λs=>if s<Cl l then((u.idxOf (EF l cs c s):Nat):Int)else 0)=Bh (Cl l) (λs=>((u.idxOf (EF l cs c s):Nat):Int)):=
    AO λs a=>by rw[if_pos a]
   rw[C];have U:ClsB l (λs=>((u.idxOf (EF l cs c s):Nat):Int)):=⟨λs a=>by
    have:=Ads (z s a);omega⟩;have f:∀s t,s<Cl l->t<Cl l->(((u.idxOf (EF l cs c s):Nat):Int)=((u.idxOf (EF l cs c t):Nat):Int)↔EF l cs c s=EF l cs c t):=λs t a b=>
    ⟨λh=>OS (z s a) (z t b) (Int.ofNat_inj.1 h),λh=>by rw[h]⟩;have E:∀s t,s<Cl l->t<Cl l->Av l (s:Nat)=Av l (t:Nat)->EF l cs c s=EF l cs c t:=λs t a b h=>by
    refine(FZ q d.toClsB a b).2 ⟨d.fwd s t a b h,λi V=>?_⟩;have r1:=Gd q cs s i;have r2:=Gd q cs t i;refine d.fwd _ _ (by omega) (by omega) ?_;rw[Abd r1.1,Abd r2.1,OB q hc s V,OB q hc t V,h]
   have G:∀s t,s<Cl l->t<Cl l->EF l cs c s=EF l cs c t->U_ l s=U_ l t:=λs t a b h=>
    d.acc s t a b ((FZ q d.toClsB a b).1 h).1;refine Qh (by(try rw[Az])<;>omega) (Ob (λh=>MP ⟨λs=>((u.idxOf (EF l cs c s):Nat):Int),⟨U,λs t a b=>?_⟩,rfl⟩) λh=>?_)
   ·rw[f s t a b];refine⟨λY=>?_,E s t a b⟩;rw[g.1]at h
    obtain⟨key,v,R,S,B⟩:=d.AD.resolve_left (by omega);have H:=(R.bZ A (λs t a b h=>B s t a b ((FZ q d.toClsB a b).1 h).1)).2 (by omega);funext w;refine V8 q hc Z c (λs t a b h=>d.acc s t a b h) (λs t a b h=>?_) w s t a b ((FZ q d.toClsB a b).1 Y).1;exact((FZ q d.toClsB a b).1 (H s t a b (B s t a b h))).2
   ·have hlt:k<u.length:=by
     rcases d.AD with h0|⟨key,v,R,S,B⟩;· omega
     ·have:=(R.bZ A (λs t a b h=>B s t a b ((FZ q d.toClsB a b).1 h).1)).1;rw[g.1]at h;omega
    refine D (_,(m.length:Int)) ⟨m.length,rf,by rw[g.1];exact K,_,rf,⟨⟨U.rg⟩,λs t a b h=>(f s t a b).2 (E s t a b h),λs t a b h=>G s t a b ((f s t a b).1 h), .inr ⟨EF l cs c,u,A,g.1.symm,λs t a b h=>(f s t a b).1 h⟩⟩⟩ ?_;have:=g.1;omega
end
end Go.GL
