/- Part 5 of the texts of this claim: what its theorem leans on. -/
import Derived.Test.YtkjngekgpgejnaaGreatDoorZLookupAgrees4
import Derived.KernelRfl
set_option linter.all false
namespace Go.GV
open Go Go.GK Go.Proofs
noncomputable section
noncomputable abbrev TP:Program:=Tryz.prog
theorem follows:TP.follows .mixedOrders=true:=by kernel_rfl
abbrev y0:Ty:=(.pr (.int .u8) (.int .i64))
abbrev y1:Ty:=(.pr (.int .u8) y0)
abbrev y2:Ty:=(.pr .bool (.sl (.st y1)))
abbrev y3:Ty:=(.st (.sl (.st y2)))
abbrev y4:Ty:=(.pr (.int .i64) (.int .i64))
abbrev y5:Ty:=(.pr (.sl (.st y4)) (.sl (.st y4)))
abbrev y6:Ty:=(.pr (.st y5) y3)
abbrev y7:Ty:=(.pr .bool (.pr .bool y6))
abbrev y8:Ty:=(.st (.pr .bool y7))
abbrev y9:Ty:=(.pr (.nm 0) (.nm 0))
abbrev ES:Ty:=(.sl (.int .i64))
abbrev rP:Ty:=(.pr (.st y4) .bool)
abbrev y12:Ty:=(.pr (.int .i64) (.st y9))
abbrev Ek:Ty:=(.st (.pr .str y12))
abbrev y14:Ty:=(.pr (.sl .bool) ES)
abbrev y15:Ty:=(.pr (.sl ES) y14)
abbrev mz:Ty:=(.st (.pr ES y15))
abbrev y17:Ty:=(.pr .str (.int .i64))
abbrev yN:Ty:=(.pr y3 (.st y9))
abbrev y19:Ty:=(.pr (.sl Ek) (.sl (.st yN)))
abbrev yM:Ty:=(.st (.pr .str .bool))
abbrev y21:Ty:=(.sl (.sl (.st y9)))
abbrev y22:Ty:=(.pr (.sl (.st y9)) (.sl (.st y9)))
abbrev y23:Ty:=(.sl (.sl (.st y4)))
abbrev yL:Ty:=(.sl (.sl .bool))
abbrev yK:Ty:=(.pr .str (.nm 1))
abbrev tM:Ty:=(.pr (.nm 0) .bool)
abbrev i6:Ty:= .int .i64
abbrev u8:Ty:= .int .u8
abbrev q0:Ty:= .sl .bool
abbrev q1:Ty:= .sl .str
abbrev q2:Ty:= .sl i6
abbrev q3:Ty:= .sl u8
abbrev q4:Ty:= .sl ES
abbrev q5:Ty:= .sl Ek
abbrev q6:Ty:= .st y1
abbrev q7:Ty:= .st yN
abbrev q8:Ty:= .st y19
abbrev q9:Ty:= .st y2
abbrev Cn:Ty:= .st y22
abbrev D':Ty:= .st y4
abbrev K7:Ty:= .st y5
abbrev BD:Ty:= .st y9
abbrev IA:Ty:= .sl Cn
abbrev BJ:Ty:= .sl D'
abbrev Jf:Ty:= .sl BD
abbrev Si:Ty:= .sl q6
abbrev Mi:Ty:= .sl q7
abbrev Iz:Ty:= .sl q8
abbrev Hb:Ty:= .sl q9
structure Bd where
 f:Nat
 c:CQ NL
 ok:A7 TP f c
def uB:CQ NL->Option (CQ NL)->CQ NL
 | .NO x,some (.NO y)=> .NO (x++y)
 | .its x,some (.its y)=> .its (x++y)
 | .gM x,some (.gM y)=> .gM (x++y)
 |c,_=>c
def nY:List Bd->Nat->Option (CQ NL)
 | [],_=>none
 |b::l,f=>match Nat.beq b.f f with
  |true=>some (uB b.c (nY l f))
  |false=>nY l f
theorem gk{f:Nat}{c:CQ NL}{d:Option (CQ NL)}(h:A7 TP f c)(k:∀q,d=some q->A7 TP f q):A7 TP f (uB c d):=by
 unfold uB
 split
 all_goals first
  |exact h
  |exact fun q hq=>(List.mem_append.1 hq).elim (h q) (k _ rfl q)
theorem R7:∀(l:List Bd) f q,nY l f=some q->A7 TP f q
 | [],_,_,e=>by cases e
 |b::l,f,q,e=>by
  unfold nY at e
  split at e
  ·rename_i hb
   cases e
   exact gk (Nat.eq_of_beq_eq_true hb▸b.ok) (R7 l f)
  ·exact R7 l f q e
def rY{β:Type}(d:β):List (Nat×β)->Nat->β
 | [],_=>d
 |p::l,i=>match Nat.beq p.1 i with
  |true=>p.2
  |false=>rY d l i
abbrev bs(l:List (Nat->Bd))(fu:Nat):List Bd:=l.map (· fu)
abbrev lk(l:List (Nat×AY))(i:Nat):Option AY:=rY none (l.map fun p=>(p.1,some p.2)) i
abbrev lg(l:List (Nat×List Gh))(i:Nat):List Gh:=rY [] l i
abbrev lz(l:List (Nat×Nat))(i:Nat):Nat:=rY 0 l i
def n0:Nat->Option AY:=fun _=>none
def g0:Nat->List Gh:=fun _=>[]
def z0:Nat->Nat:=fun _=>0
theorem bA{a b:Bool}(h:(a&&b)=true):a=true/\b=true:=by simpa using h
abbrev Rl(l:List Bd)(la:Nat->Option AY)(pr po:Nat->List Gh)(ct:Nat->Nat)(kb:Nat)(fn:Func):Cx NL:=⟨TP,nY l,la,fun _=>none,pr,po,kb,fn.ntmps,ct⟩
def I2(fn:Func):Bool:= !(fn.name== "runtime.NumGoroutine")&& !fn.body.isNone
theorem PL{f:Nat}{fn:Func}(hf:TP.funcs[f]?=some fn)(h:I2 fn=true):Nb TP f:=⟨fn,hf,by have:=(bA h).1;simpa using this,by have:=(bA h).2;simpa using this⟩
theorem nL{f:Nat}{ps rs:List Ty}{F G:A3 NL ps->Option (A3 NL rs)}(h:C0 TP f (⟨ps,rs,F⟩:FQ NL))(e:∀x,F x=G x):C0 TP f (⟨ps,rs,G⟩:FQ NL):=(funext e:F=G)▸h
theorem um{f:Nat}{pi po:AY}{rk:Nat}{gone:List Nat}{F G:Bu NL pi.hs->Option (Bu NL po.hs)}(h:C3 TP f (⟨pi,po,rk,gone,F⟩:PQ NL))(e:∀x,F x=G x):C3 TP f (⟨pi,po,rk,gone,G⟩:PQ NL):=(funext e:F=G)▸h
theorem uq{f:Nat}{pi:AY}{y:Nat}{ts:List Ty}{F G:Bu NL pi.hs->Option (List (A3 NL ts)×Bool)}(h:G3 TP f (⟨pi,y,ts,F⟩:IQ NL))(e:∀x,F x=G x):G3 TP f (⟨pi,y,ts,G⟩:IQ NL):=(funext e:F=G)▸h
theorem uo{f:Nat}{pi:AY}{y:Nat}{ts:List Ty}{rb:Bool}{F G:Bu NL pi.hs->Option (List (A3 NL ts)×Option Bool)}(h:G1 TP f (⟨pi,y,ts,rb,F⟩:JQ NL))(e:∀x,F x=G x):G1 TP f (⟨pi,y,ts,rb,G⟩:JQ NL):=(funext e:F=G)▸h
def sG{f:Nat}{q:FQ NL}(h:C0 TP f q):Bd:=⟨f, .Ae q,h⟩
def sF{f:Nat}{q:PQ NL}(h:C3 TP f q):Bd:=⟨f, .NO [q],fun _ hq=>List.mem_singleton.1 hq▸h⟩
def bdI{f:Nat}{q:IQ NL}(h:G3 TP f q):Bd:=⟨f, .its [q],fun _ hq=>List.mem_singleton.1 hq▸h⟩
def zm{f:Nat}{q:JQ NL}(h:G1 TP f q):Bd:=⟨f, .gM [q],fun _ hq=>List.mem_singleton.1 hq▸h⟩
theorem exQ{f:Nat}{rs:List Ty}{F:A3 NL []->Option (A3 NL rs)}{v:A3 NL rs}(h:C0 TP f (⟨[],rs,F⟩:FQ NL))(e:F () =some v):C0 TP f (⟨[],rs,fun _=>some v⟩:FQ NL):=⟨h.Oj,fun _ y hy=>h.ok () y (by cases hy;exact e)⟩
abbrev Jz(f:Nat)(ps rs:List Ty):Type:= {F:A3 NL ps->Option (A3 NL rs)//C0 TP f (⟨ps,rs,F⟩:FQ NL)}
def sQ(l:List Bd)(fu:Nat){f:Nat}{fn:Func}(hf:TP.funcs[f]?=some fn)(ps rs:List Ty)(la:Nat->Option AY:=n0)(pr pt:Nat->List Gh:=g0)(ct:Nat->Nat:=z0)(h:(I2 fn&&Nat.ble ps.length fn.ntmps)=true:=by kernel_rfl):Jz f ps rs:=⟨Yw (Rl l la pr pt ct 0 fn) fu fn ps rs,Yv (cx:=Rl l la pr pt ct 0 fn) (mp:=XY) (R7 l) follows (PL hf (bA h).1) hf rfl (bA h).2⟩
def tQ{f:Nat}{fn:Func}(hf:TP.funcs[f]?=some fn){ps rs:List Ty}(h:I2 fn=true:=by kernel_rfl):Jz f ps rs:=⟨fun _=>none,PL hf h,fun _ _ h=>by cases h⟩
def Fh{f:Nat}{ps rs:List Ty}(x:Jz f ps rs):Bd:=sG x.2
def bQ(l:List (Nat->Bd)){f:Nat}{fn:Func}(hf:TP.funcs[f]?=some fn)(ps rs:List Ty)(G:Nat->A3 NL ps->Option (A3 NL rs))(la:Nat->Option AY:=n0)(pr pt:Nat->List Gh:=g0)(ct:Nat->Nat:=z0)(h:∀fu,(I2 fn&&Nat.ble ps.length fn.ntmps)=true:=by intro _;kernel_rfl)(e:∀fu x,(sQ (bs l fu) fu hf ps rs la pr pt ct (h fu)).1 x=G fu x:=by intro _ _;kernel_rfl)(fu:Nat):Bd:=sG (nL (sQ (bs l fu) fu hf ps rs la pr pt ct (h fu)).2 (e fu))
abbrev FP(f:Nat)(pi po:AY)(rk:Nat)(gone:List Nat):Type:= {F:Bu NL pi.hs->Option (Bu NL po.hs)//C3 TP f (⟨pi,po,rk,gone,F⟩:PQ NL)}
def sP(l:List Bd)(fu:Nat){f:Nat}{fn:Func}(hf:TP.funcs[f]?=some fn)(pi po:AY)(rk:Nat)(gone:List Nat)(la:Nat->Option AY:=n0)(pr pt:Nat->List Gh:=g0)(ct:Nat->Nat:=z0)(h:(I2 fn&&YP (Rl l la pr pt ct pi.nk fn) pi po gone)=true:=by kernel_rfl):FP f pi po rk gone:=⟨LO (Rl l la pr pt ct pi.nk fn) fu fn pi po rk,Vu (cx:=Rl l la pr pt ct pi.nk fn) (mp:=XY) (R7 l) follows (PL hf (bA h).1) hf rfl (bA h).2⟩
def tP{f:Nat}{fn:Func}(hf:TP.funcs[f]?=some fn){pi po:AY}{rk:Nat}{gone:List Nat}(h:I2 fn=true:=by kernel_rfl):FP f pi po rk gone:=⟨fun _=>none,PL hf h,fun _ _ h=>by cases h⟩
def Cu{f:Nat}{pi po:AY}{rk:Nat}{gone:List Nat}(x:FP f pi po rk gone):Bd:=sF x.2
def bP(l:List (Nat->Bd)){f:Nat}{fn:Func}(hf:TP.funcs[f]?=some fn)(pi po:AY)(rk:Nat)(gone:List Nat)(G:Nat->Bu NL pi.hs->Option (Bu NL po.hs))(la:Nat->Option AY:=n0)(pr pt:Nat->List Gh:=g0)(ct:Nat->Nat:=z0)(h:∀fu,(I2 fn&&YP (Rl (bs l fu) la pr pt ct pi.nk fn) pi po gone)=true:=by intro _;kernel_rfl)(e:∀fu x,(sP (bs l fu) fu hf pi po rk gone la pr pt ct (h fu)).1 x=G fu x:=by intro _ _;kernel_rfl)(fu:Nat):Bd:=sF (um (sP (bs l fu) fu hf pi po rk gone la pr pt ct (h fu)).2 (e fu))
abbrev GrI(f:Nat)(pi:AY)(y:Nat)(ts:List Ty):Type:= {F:Bu NL pi.hs->Option (List (A3 NL ts)×Bool)//G3 TP f (⟨pi,y,ts,F⟩:IQ NL)}
def sI(l:List Bd)(fu:Nat){f:Nat}{fn:Func}(hf:TP.funcs[f]?=some fn)(pi:AY)(y:Nat)(ts:List Ty)(la:Nat->Option AY:=n0)(pr pt:Nat->List Gh:=g0)(ct:Nat->Nat:=z0)(h:(I2 fn&&YR (Rl l la pr pt ct pi.nk fn) pi y)=true:=by kernel_rfl):GrI f pi y ts:=⟨Rg (Rl l la pr pt ct pi.nk fn) fu fn pi y ts,Vw (cx:=Rl l la pr pt ct pi.nk fn) (mp:=XY) (R7 l) follows (PL hf (bA h).1) hf rfl (bA h).2⟩
def bI(l:List (Nat->Bd)){f:Nat}{fn:Func}(hf:TP.funcs[f]?=some fn)(pi:AY)(y:Nat)(ts:List Ty)(G:Nat->Bu NL pi.hs->Option (List (A3 NL ts)×Bool))(la:Nat->Option AY:=n0)(pr pt:Nat->List Gh:=g0)(ct:Nat->Nat:=z0)(h:∀fu,(I2 fn&&YR (Rl (bs l fu) la pr pt ct pi.nk fn) pi y)=true:=by intro _;kernel_rfl)(e:∀fu x,(sI (bs l fu) fu hf pi y ts la pr pt ct (h fu)).1 x=G fu x:=by intro _ _;kernel_rfl)(fu:Nat):Bd:=bdI (uq (sI (bs l fu) fu hf pi y ts la pr pt ct (h fu)).2 (e fu))
abbrev sR(f:Nat)(pi:AY)(y:Nat)(ts:List Ty)(rb:Bool):Type:= {F:Bu NL pi.hs->Option (List (A3 NL ts)×Option Bool)//G1 TP f (⟨pi,y,ts,rb,F⟩:JQ NL)}
def sJ(l:List Bd)(fu:Nat){f:Nat}{fn:Func}(hf:TP.funcs[f]?=some fn)(pi:AY)(y:Nat)(ts:List Ty)(rb:Bool)(la:Nat->Option AY:=n0)(pr pt:Nat->List Gh:=g0)(ct:Nat->Nat:=z0)(h:(I2 fn&&YQ (Rl l la pr pt ct pi.nk fn) pi y)=true:=by kernel_rfl):sR f pi y ts rb:=⟨Rf (Rl l la pr pt ct pi.nk fn) fu fn pi y ts rb,Vv (cx:=Rl l la pr pt ct pi.nk fn) (mp:=XY) (R7 l) follows (PL hf (bA h).1) hf rfl (bA h).2⟩
def tJ{f:Nat}{fn:Func}(hf:TP.funcs[f]?=some fn){pi:AY}{y:Nat}{ts:List Ty}{rb:Bool}(h:I2 fn=true:=by kernel_rfl):sR f pi y ts rb:=⟨fun _=>none,PL hf h,fun _ _ h=>by cases h⟩
def oX{f:Nat}{pi:AY}{y:Nat}{ts:List Ty}{rb:Bool}(x:sR f pi y ts rb):Bd:=zm x.2
def bJ(l:List (Nat->Bd)){f:Nat}{fn:Func}(hf:TP.funcs[f]?=some fn)(pi:AY)(y:Nat)(ts:List Ty)(rb:Bool)(G:Nat->Bu NL pi.hs->Option (List (A3 NL ts)×Option Bool))(la:Nat->Option AY:=n0)(pr pt:Nat->List Gh:=g0)(ct:Nat->Nat:=z0)(h:∀fu,(I2 fn&&YQ (Rl (bs l fu) la pr pt ct pi.nk fn) pi y)=true:=by intro _;kernel_rfl)(e:∀fu x,(sJ (bs l fu) fu hf pi y ts rb la pr pt ct (h fu)).1 x=G fu x:=by intro _ _;kernel_rfl)(fu:Nat):Bd:=zm (uo (sJ (bs l fu) fu hf pi y ts rb la pr pt ct (h fu)).2 (e fu))
abbrev zt:=Bool×List (Int×Int×Int)
abbrev AD:=Vl×Vl
abbrev Bp:=List (Ax×Int×AD)×List (AW×AD)
abbrev BK:=List AD×List AD
def GF{α:Type}(y:α)(a b:Option (List α×Bool)):Option (List α×Bool):=match a with
 |some ([],true)=>match b with
  |some l=>some (y::l.1,l.2)
  |none=>some ([y],false)
 |_=>none
def oI{α:Type}(kb:Bool->Option (List α×Option Bool)):List α->Option Bool->Option (List α×Option Bool)
 | [],some b=>kb b
 | [],none=>none
 |y::l,b=>match oI kb l b with
  |some r=>some (y::r.1,r.2)
  |none=>some ([y],none)
def iC{α:Type}(kb:Bool->Option (List α×Bool)):List α->Option Bool->Option (List α×Bool)
 | [],some b=>kb b
 | [],none=>none
 |y::l,b=>match iC kb l b with
  |some r=>some (y::r.1,r.2)
  |none=>some ([y],false)
def XT{R:Type}(n:Nat)(z:Option R)(s:Nat->Option R):Option R:=match n with
 |0=>z
 |n+1=>s n
def D0(fu:Nat)(x0:AW):Option Bool:=Ad fu (fun(z1:Nat) nx2=>bif decide ((z1:Int)<x0.length)then Ac (idx x0 z1) fun r3=>bif decide ((12:Int)<r3.2.length)then some false else nx2 (z1+1)else some (decide ((x0.length:Int)<=8))) (0)
abbrev F0 fu(x:_):=D0 fu x
theorem d0(fu x0):F0 fu x0=D0 fu x0:=rfl
def B0:=bQ [] Tryz.func39 [y3] [.bool] F0 (la:=lk [(2,⟨[.nat],[(1, .Aa),(3, .AK 0 200)],[(0, .c 0)],1⟩)])
def D1(fu:Nat)(x0:Gy):Option Bool:=bif decide ((x0.2.2.2.1.1.length:Int)<=5)then bif decide ((x0.2.2.2.1.2.length:Int)<=5)then Ac (F0 fu x0.2.2.2.2) fun r1=>some r1 else some false else some false
abbrev F1 fu(x:_):=D1 fu x
theorem d1(fu x0):F1 fu x0=D1 fu x0:=rfl
def B1:=bQ [B0] Tryz.func38 [y8] [.bool] F1
abbrev zw:Type:=Jz 23 [(.nm 0),i6,i6] [i6]×Jz 10 [Jf,i6,i6] [i6]
def G2(n:Nat):zw:=Nat.rec (motive:=fun _=>zw) (tQ Tryz.func23,tQ Tryz.func10) (fun fu g=>(sQ (Fh (g.2)::bs [B1,B0] fu) fu Tryz.func23 [(.nm 0),i6,i6] [i6] (la:=lk [(5,⟨[.Ae i6, .nat],[(1, .Aa),(2, .Aa),(3, .Aa),(7, .v 0 i6),(8, .AK 1 501)],[(0, .c 0)],1⟩),(12,⟨[.Ae i6, .nat],[(1, .Aa),(2, .Aa),(3, .Aa),(7, .v 0 i6),(10, .AK 1 1201)],[(0, .c 0)],1⟩),(19,⟨[.Ae Jf, .nat],[(1, .Aa),(2, .Aa),(3, .Aa),(7, .Aa),(10, .Aa),(11, .Aa),(12, .Az 2),(13, .AK 1 1901)],[(1, .c 0),(0, .c 0),(2, .row 35 0)],3⟩),(25,⟨[.Ae Jf, .nat],[(1, .Aa),(2, .Aa),(3, .Aa),(7, .Aa),(10, .Aa),(11, .Aa),(12, .Az 2),(14, .AK 1 2501)],[(2, .row 35 0),(1, .c 0),(0, .c 0)],3⟩)]) (pt:=lg [(18,[.own 12 35 BD])]),sQ [Fh (g.1)] fu Tryz.func10 [Jf,i6,i6] [i6] (la:=lk [(3,⟨[.Ae i6, .nat],[(0, .Aa),(1, .Aa),(2, .Aa),(7, .v 0 i6),(8, .AK 1 301)],[],0⟩)]))) n
abbrev F3(fu:Nat)(x:(Vl)×(Int)×(Int)):Option Int:=(G2 fu).1.1 x
def B3(fu:Nat):=Fh (G2 fu).2
abbrev F2(fu:Nat)(x:(List AD)×(Int)×(Int)):Option Int:=(G2 fu).2.1 x
def D3(fu:Nat)(x0:Vl)(x1:Int)(x2:Int):Option Int:=bif decide (x1<1)then Ab .i64 (x2+1)<|some ((x2+1))else bif decide (x2<1)then Ab .i64 (x2+1)<|some ((x2+1))else Ac (F1 fu (Vl.sc x0)) fun r1=>bif !r1 then Ab .i64 (x2+1)<|some ((x2+1))else bif decide ((3:Int)<(Vl.lists x0).length)then Ab .i64 (x2+1)<|some ((x2+1))else bif decide ((3:Int)<(Vl.structs x0).length)then Ab .i64 (x2+1)<|some ((x2+1))else Ad fu (fun(z2:Int×Nat) nx3=>bif decide ((z2.2:Int)<(Vl.lists x0).length)then Ac (idx (Vl.lists x0) (z2.2:Int)) fun r4=>bif decide ((3:Int)<r4.1.length)then Ab .i64 (x2+1)<|some ((x2+1))else Ac (idx (Vl.lists x0) (z2.2:Int)) fun r5=>bif decide ((2:Int)<r5.2.length)then Ab .i64 (x2+1)<|some ((x2+1))else Ac (idx (Vl.lists x0) (z2.2:Int)) fun r6=>Ah (0+List.length r6.1<=4294967296)<|Ac (idx (Vl.lists x0) (z2.2:Int)) fun r7=>Ah (List.length ([]++r6.1)+List.length r7.2<=4294967296)<|Ab .i64 (x1-1)<|Ab .i64 (x2-z2.1)<|Ac (F2 fu ((([]++r6.1)++r7.2),(x1-1),(x2-z2.1))) fun r8=>Ab .i64 (z2.1+r8)<|nx3 ((z2.1+r8),z2.2+1)else Ad fu (fun(z9:Int×Nat) nx10=>bif decide ((z9.2:Int)<(Vl.structs x0).length)then bif decide (z9.1<=x2)then Ac (idx (Vl.structs x0) (z9.2:Int)) fun r11=>bif decide ((4:Int)<r11.1.length)then Ab .i64 (x2+1)<|some ((x2+1))else bif decide ((4:Int)<r11.2.length)then Ab .i64 (x2+1)<|some ((x2+1))else Ad fu (fun(z12:List AD×Nat) nx13=>bif decide ((z12.2:Int)<r11.1.length)then Ac (idx r11.1 z12.2) fun r14=>bif decide ((60:Int)<r14.1.length)then Ab .i64 (x2+1)<|some ((x2+1))else Ac (idx r11.1 z12.2) fun r15=>Ah (List.length z12.1+1<=4294967296)<|nx13 ((z12.1++[r15.2.2]),z12.2+1)else Ad fu (fun(z16:List AD×Nat) nx17=>bif decide ((z16.2:Int)<r11.2.length)then Ac (idx r11.2 z16.2) fun r18=>Ac (F0 fu r18.1) fun r19=>bif !r19 then Ab .i64 (x2+1)<|some ((x2+1))else Ac (idx r11.2 z16.2) fun r20=>Ah (List.length z16.1+1<=4294967296)<|nx17 ((z16.1++[r20.2]),z16.2+1)else Ab .i64 (x1-1)<|Ab .i64 (x2-z9.1)<|Ac (F2 fu (z16.1,(x1-1),(x2-z9.1))) fun r21=>Ab .i64 (z9.1+r21)<|nx10 (((z9.1+r21),z9.2+1))) ((z12.1,0))) (([],0))else some z9.1 else some z9.1) ((z2.1,0))) ((1,0))
theorem d3(fu x0 x1 x2):F3 (fu+1) (x0,x1,x2)=D3 fu x0 x1 x2:=by kernel_rfl
def D2(fu:Nat)(x0:List AD)(x1:Int)(x2:Int):Option Int:=Ad fu (fun(z1:Int×Nat) nx2=>bif decide ((z1.2:Int)<x0.length)then bif decide (z1.1<=x2)then Ac (idx x0 z1.2) fun r3=>Ab .i64 (x2-z1.1)<|Ac (F3 fu (r3.1,x1,(x2-z1.1))) fun r4=>Ab .i64 (z1.1+r4)<|bif decide (z1.1+r4<=x2)then Ac (idx x0 z1.2) fun r5=>Ab .i64 (x2-(z1.1+r4))<|Ac (F3 fu (r5.2,x1,(x2-(z1.1+r4)))) fun r6=>Ab .i64 (z1.1+r4+r6)<|nx2 (((z1.1+r4)+r6),z1.2+1)else nx2 ((z1.1+r4),z1.2+1)else some z1.1 else some z1.1) ((0,0))
theorem d2(fu x0 x1 x2):F2 (fu+1) (x0,x1,x2)=D2 fu x0 x1 x2:=by kernel_rfl
def vB(fu:Nat)(x0:AD):Option Bool:=Ac (F2 fu ([x0],3,60)) fun r1=>some (decide (r1<=60))
abbrev sS fu(x:_):=vB fu x
theorem dSm(fu x0):sS fu x0=vB fu x0:=rfl
def B4:=bQ [B3] Tryz.func4 [BD] [.bool] sS
def D5(fu:Nat)(x0:Int)(x1:Int):Option Vl:=some (Vl.mk false (false,false,false,([(x0,x1)],[]),[]) [] [])
abbrev F5 fu(x:_×_):=D5 fu x.1 x.2
def B5:=bQ [] Tryz.func12 [i6,i6] [(.nm 0)] F5 (pt:=lg [(1,[.Nd 4 4])])
def D6(fu:Nat)(x0:Vl):Option AD:=some ((x0,x0))
abbrev F6 fu(x:_):=D6 fu x
def B6:=bQ [] Tryz.func11 [(.nm 0)] [BD] F6
def D7(fu:Nat)(x0:Ax):Option AW:=Ad fu (fun(z1:AW×Int) nx2=>bif decide (z1.2<(x0.length:Int))then Ac (EE x0 z1.2) fun r3=>Ac (EE x0 z1.2) fun r4=>Ab .i64 (z1.2+1)<|Ah (List.length z1.1+1<=Ak)<|Ab .i64 (z1.2+1)<|nx2 ((z1.1++[(false,[(r3,r4,(z1.2+1))])]),(z1.2+1))else Ah (List.length z1.1+1<=Ak)<|some ((z1.1++[(true,[])]))) (([],0))
abbrev F7 fu(x:_):=D7 fu x
def B7:=bQ [] Tryz.func25 [.str] [y3] F7 (la:=lk [(3,⟨[.Ae Hb, .Ae i6],[(0, .Aa),(2, .Aa),(3, .Aa),(4, .v 1 i6)],[(1, .Af 27 [(1, .Az 2)]),(0, .c 0),(2, .row 95 0)],3⟩)]) (pt:=lg [(2,[.DD 3 0 95 q9]),(7,[.Nd 2 0])])
def D8(fu:Nat):Option AW:=some ([(true,[(0,255,0)])])
abbrev F8(fu:Nat)(_:Unit):=D8 fu
def B8:=bQ [] Tryz.func41 [] [y3] F8 (pt:=lg [(1,[.Nd 0 0])])
def D9(fu:Nat)(x0:AW):Option Bool:=Ad fu (fun(z1:Nat) nx2=>bif decide ((z1:Int)<x0.length)then Ac (idx x0 z1) fun r3=>Ad fu (fun(z4:Nat) nx5=>bif decide ((z4:Int)<r3.2.length)then Ac (idx r3.2 z4) fun r6=>bif decide (r6.2.1<r6.1)then some false else bif decide (r6.2.2<0)then some false else bif decide ((x0.length:Int)<=r6.2.2)then some false else bif decide ((0:Int)<z4)then Ab .i64 ((z4:Int)-1)<|Ac (idx r3.2 ((z4:Int)-1)) fun r7=>bif decide (r6.1<=r7.2.1)then some false else nx5 (z4+1)else nx5 (z4+1)else nx2 (z1+1)) (0)else some true) (0)
abbrev F9 fu(x:_):=D9 fu x
def B9:=bQ [] Tryz.func96 [Hb] [.bool] F9 (la:=lk [(2,⟨[.nat],[(0, .Aa),(7, .Aa),(8, .Aa),(9, .AK 0 200)],[],0⟩),(5,⟨[.nat],[(0, .Aa),(4, .Aa),(7, .Aa),(8, .Aa),(9, .Aa),(14, .Aa),(15, .Aa),(16, .AK 0 500)],[(0, .c 0)],1⟩)])
def D10(fu:Nat)(x0:AW):Option (List Bool):=Ah (List.length x0<=Ak)<|Ad fu (fun(z1:List Bool×Nat) nx2=>bif decide ((z1.2:Int)<x0.length)then Ad fu (fun(z3:List Bool×Nat) nx4=>bif decide ((z3.2:Int)<x0.length)then Ac (idx x0 z3.2) fun r5=>Ac (idx z3.1 z3.2) fun r6=>bif r6 then Ac (idx z3.1 z3.2) fun r7=>Ad fu (fun(z8:List Bool×Nat) nx9=>bif decide ((z8.2:Int)<r5.2.length)then Ac (idx r5.2 z8.2) fun r10=>Ac (idx z8.1 z3.2) fun r11=>bif r11 then Ac (idx z8.1 z3.2) fun r12=>nx9 ((z8.1.set z3.2 true),z8.2+1)else Ac (idx z8.1 r10.2.2) fun r13=>Ac (idx z8.1 z3.2) fun r14=>nx9 ((z8.1.set z3.2 r13),z8.2+1)else nx4 ((z8.1,z3.2+1))) (((z3.1.set z3.2 true),0))else Ac (idx z3.1 z3.2) fun r15=>Ad fu (fun(z16:List Bool×Nat) nx17=>bif decide ((z16.2:Int)<r5.2.length)then Ac (idx r5.2 z16.2) fun r18=>Ac (idx z16.1 z3.2) fun r19=>bif r19 then Ac (idx z16.1 z3.2) fun r20=>nx17 ((z16.1.set z3.2 true),z16.2+1)else Ac (idx z16.1 r18.2.2) fun r21=>Ac (idx z16.1 z3.2) fun r22=>nx17 ((z16.1.set z3.2 r21),z16.2+1)else nx4 ((z16.1,z3.2+1))) (((z3.1.set z3.2 r5.1),0))else nx2 ((z3.1,z1.2+1))) ((z1.1,0))else some z1.1) (((List.replicate (List.length x0) false),0))
abbrev vA fu(x:_):=D10 fu x
def B10:=bQ [] Tryz.func97 [Hb] [q0] vA (la:=lk [(3,⟨[.Ae q0, .nat],[(0, .Aa),(3, .Aa),(12, .Aa),(13, .AK 1 301)],[(0, .row 4 0)],1⟩),(5,⟨[.Ae q0, .nat],[(0, .Aa),(3, .Aa),(12, .Aa),(13, .Aa),(15, .Aa),(16, .Aa),(17, .AK 1 501)],[(0, .row 4 0)],1⟩),(9,⟨[.Ae q0, .nat],[(0, .Aa),(3, .Aa),(4, .Aa),(12, .Aa),(13, .Aa),(15, .Aa),(16, .Aa),(17, .Aa),(34, .Aa),(35, .Aa),(36, .AK 1 901)],[(0, .row 4 0)],2⟩)]) (pt:=lg [(15,[.fz 2])])
def D11(fu:Nat)(x0:AW):Option AW:=Ad fu (fun(z1:List Int×AW×Nat) nx2=>bif decide ((z1.2.2:Int)<z1.1.length)then Ac (idx z1.1 z1.2.2) fun r3=>Ac (idx x0 r3) fun r4=>Ac (idx z1.1 z1.2.2) fun r5=>Ac (idx x0 r5) fun r6=>Ad fu (fun(z7:List Int×List (Int×Int×Int)×Nat) nx8=>bif decide ((z7.2.2:Int)<r6.2.length)then Ac (idx r6.2 z7.2.2) fun r9=>Ad fu (fun(z10:Int) nx11=>bif decide (z10<(z7.1.length:Int))then Ac (idx z7.1 z10) fun r12=>bif decide (r12≠r9.2.2)then Ab .i64 (z10+1)<|nx11 (z10+1)else bif decide (z10=(z7.1.length:Int))then Ah (List.length z7.1+1<=Ak)<|Ah (List.length z7.2.1+1<=Ak)<|nx8 ((z7.1++[r9.2.2]),(z7.2.1++[(r9.1,r9.2.1,z10)]),z7.2.2+1)else Ah (List.length z7.2.1+1<=Ak)<|nx8 (z7.1,(z7.2.1++[(r9.1,r9.2.1,z10)]),z7.2.2+1)else bif decide (z10=(z7.1.length:Int))then Ah (List.length z7.1+1<=Ak)<|Ah (List.length z7.2.1+1<=Ak)<|nx8 ((z7.1++[r9.2.2]),(z7.2.1++[(r9.1,r9.2.1,z10)]),z7.2.2+1)else Ah (List.length z7.2.1+1<=Ak)<|nx8 ((z7.1,(z7.2.1++[(r9.1,r9.2.1,z10)]),z7.2.2+1))) ((0:Int))else Ah (List.length z1.2.1+1<=Ak)<|nx2 ((z7.1,(z1.2.1++[(r4.1,z7.2.1)]),z1.2.2+1))) ((z1.1,[],0))else some z1.2.1) (([(0:Int)],[],0))
abbrev zM fu(x:_):=D11 fu x
def B11:=bQ [] Tryz.func99 [Hb] [Hb] zM (la:=lk [(4,⟨[.Ae q2, .Ae Hb, .nat],[(0, .Aa),(3, .Az 0),(4, .Az 1),(5, .AK 2 402)],[(0, .row 3 0),(1, .row 95 1)],2⟩),(8,⟨[.Ae q2, .Ae Si, .nat],[(0, .Aa),(3, .Az 0),(4, .Aa),(5, .Aa),(6, .Aa),(33, .Aa),(34, .Aa),(35, .AK 2 802)],[(2, .Af 95 [(1, .Aa),(1, .Az 3)]),(1, .c 0),(0, .row 3 0),(3, .row 92 1)],4⟩),(11,⟨[.Ae i6],[(0, .Aa),(3, .Aa),(4, .Aa),(5, .Aa),(6, .Aa),(8, .Aa),(9, .v 0 i6),(33, .Aa),(34, .Aa),(35, .Aa)],[(4, .c 0),(2, .c 0),(3, .c 0),(1, .c 0),(0, .c 0)],5⟩)]) (pt:=lg [(3,[.own 4 95 q9]),(7,[.DD 6 1 92 q6]),(18,[.fz 2])])
def D12(fu:Nat)(x0:AW):Option AW:=Ac (vA fu x0) fun r1=>Ad fu (fun(z2:AW×Nat) nx3=>bif decide ((z2.2:Int)<x0.length)then Ac (idx x0 z2.2) fun r4=>Ad fu (fun(z5:List (Int×Int×Int)×Nat) nx6=>bif decide ((z5.2:Int)<r4.2.length)then Ac (idx r4.2 z5.2) fun r7=>Ac (idx r1 r7.2.2) fun r8=>bif r8 then Ah (List.length z5.1+1<=Ak)<|nx6 ((z5.1++[r7]),z5.2+1)else nx6 (z5.1,z5.2+1)else Ah (List.length z2.1+1<=Ak)<|nx3 (((z2.1++[(r4.1,z5.1)]),z2.2+1))) (([],0))else some z2.1) (([],0))
abbrev zL fu(x:_):=D12 fu x
def B12:=bQ [B10] Tryz.func98 [Hb] [Hb] zL (la:=lk [(4,⟨[.Ae Hb, .nat],[(3, .Aa),(4, .Az 0),(12, .Aa),(13, .Aa),(14, .AK 1 401)],[(0, .row 95 0)],1⟩),(8,⟨[.Ae Si, .nat],[(3, .Aa),(4, .Aa),(7, .Aa),(12, .Aa),(13, .Aa),(14, .Aa),(22, .Aa),(23, .Aa),(24, .AK 1 801)],[(2, .Af 95 [(1, .Aa),(1, .Az 3)]),(0, .c 0),(3, .row 92 0)],4⟩)]) (pt:=lg [(3,[.own 4 95 q9]),(7,[.DD 7 1 92 q6]),(15,[.fz 2])])
def D13(fu:Nat)(x0:AW):Option (List Int):=Ah ((0:Int)<=0/\(0:Int)< ↑257)<|Ah (0+Int.toNat (0:Int)*1<257)<|Ad fu (fun(z1:List Bool×Nat) nx2=>bif decide ((z1.2:Int)<x0.length)then Ac (idx x0 z1.2) fun r3=>Ad fu (fun(z4:List Bool×Nat) nx5=>bif decide ((z4.2:Int)<r3.2.length)then Ac (idx r3.2 z4.2) fun r6=>Ah ((0:Int)<=r6.1/\r6.1<(↑257:Int))<|Ah (0+Int.toNat r6.1*1<257)<|Ab .i64 (r6.2.1+1)<|Ah ((0:Int)<=r6.2.1+1/\r6.2.1+1< ↑257)<|Ah (0+Int.toNat (r6.2.1+1)*1<257)<|nx5 (((List.set z4.1 (0+Int.toNat r6.1*1) true).set (0+Int.toNat (r6.2.1+1)*1) true),z4.2+1)else nx2 ((z4.1,z1.2+1))) ((z1.1,0))else Ad fu (fun(z7:List Int×Int) nx8=>bif decide (z7.2<256)then Ah ((0:Int)<=z7.2/\z7.2<(↑257:Int))<|Ac (idx z1.1 (↑(0+Int.toNat z7.2*1):Int)) fun r9=>bif r9 then Ah (List.length z7.1+1<=Ak)<|Ab .i64 (z7.2+1)<|nx8 ((z7.1++[z7.2]),(z7.2+1))else Ab .i64 (z7.2+1)<|nx8 (z7.1,(z7.2+1))else some z7.1) (([],(0:Int)))) (((List.set (List.replicate 257 false) 0 true),0))
abbrev zK fu(x:_):=D13 fu x
def B13:=bQ [] Tryz.func100 [Hb] [ES] zK (la:=lk [(4,⟨[.Ae (.ar 257 .bool), .nat],[(3, .Aa),(11, .Aa),(12, .Aa),(13, .AK 1 401)],[(0, .Af 200 [(257, .v 0 (.ar 257 .bool))])],1⟩),(7,⟨[.Ae (.ar 257 .bool), .nat],[(3, .Aa),(11, .Aa),(12, .Aa),(13, .Aa),(18, .Aa),(19, .Aa),(20, .AK 1 701)],[(0, .Af 200 [(257, .v 0 (.ar 257 .bool))])],2⟩),(15,⟨[.Ae q2, .Ae i6],[(3, .Aa),(8, .Az 1),(9, .v 1 i6)],[(0, .c 0),(1, .row 3 0)],2⟩)]) (pt:=lg [(14,[.own 8 3 i6]),(19,[.fz 2])])
def D14(fu:Nat)(x0:AW)(x1:Int)(x2:Int):Option Int:=bif decide (x1<0)then some ((-1:Int))else Ac (idx x0 x1) fun r1=>Ad fu (fun(z2:Nat) nx3=>bif decide ((z2:Int)<r1.2.length)then Ac (idx r1.2 z2) fun r4=>bif decide (r4.1<=x2)then bif decide (x2<=r4.2.1)then some r4.2.2 else nx3 (z2+1)else nx3 (z2+1)else some ((-1:Int))) (0)
abbrev vz fu(x:_×_×_):=D14 fu x.1 x.2.1 x.2.2
def B14:=bQ [] Tryz.func102 [Hb,i6,u8] [i6] vz (la:=lk [(4,⟨[.nat],[(2, .Aa),(15, .Aa),(16, .Aa),(17, .AK 0 400)],[],0⟩)])
def D15(fu:Nat)(x0:List Int)(x1:List Int):Option Bool:=bif decide ((x0.length:Int)≠x1.length)then some false else Ad fu (fun(z1:Nat) nx2=>bif decide ((z1:Int)<x0.length)then Ac (idx x0 z1) fun r3=>Ac (idx x1 z1) fun r4=>bif decide (r3≠r4)then some false else nx2 (z1+1)else some true) (0)
abbrev zJ fu(x:_×_):=D15 fu x.1 x.2
def B15:=bQ [] Tryz.func180 [ES,ES] [.bool] zJ (la:=lk [(4,⟨[.nat],[(0, .Aa),(1, .Aa),(12, .Aa),(13, .AK 0 400)],[],0⟩)])
def D16(fu:Nat)(x0:List (List Int))(x1:List Int):Option Int:=Ad fu (fun(z1:Nat) nx2=>bif decide ((z1:Int)<x0.length)then Ac (idx x0 z1) fun r3=>Ac (zJ fu (r3,x1)) fun r4=>bif r4 then some ((z1:Int))else nx2 (z1+1)else some ((-1:Int))) (0)
abbrev zI fu(x:_×_):=D16 fu x.1 x.2
def B16:=bQ [B15] Tryz.func143 [q4,ES] [i6] zI (la:=lk [(2,⟨[.nat],[(0, .Aa),(1, .Aa),(7, .Aa),(8, .AK 0 200)],[],0⟩)])
def D17(fu:Nat)(x0:AW)(x1:List Int):Option (List Int):=Ah (List.length x0<=Ak)<|Ad fu (fun(z1:List Int×Nat) nx2=>bif decide ((z1.2:Int)<x0.length)then Ac (idx x0 z1.2) fun r3=>bif r3.1 then Ac (idx z1.1 z1.2) fun r4=>nx2 ((z1.1.set z1.2 ((1:Int))),z1.2+1)else nx2 (z1.1,z1.2+1)else Ad fu (fun(z5:List Int×Nat×Nat) nx6=>bif decide ((z5.2.2:Int)<x0.length)then Ah (List.length x0<=Ak)<|Ad fu (fun(z7:List Int×List (List Int)×Nat) nx8=>bif decide ((z7.2.2:Int)<x0.length)then Ac (idx z5.1 z7.2.2) fun r9=>Ad fu (fun(z10:List Int×Nat) nx11=>bif decide ((z10.2:Int)<x1.length)then Ac (idx x1 z10.2) fun r12=>Ab .u8 (r12)<|Ac (vz fu (x0,(z7.2.2:Int),r12)) fun r13=>bif decide ((0:Int)<=r13)then Ac (idx z5.1 r13) fun r14=>Ah (List.length z10.1+1<=Ak)<|nx11 ((z10.1++[r14]),z10.2+1)else Ah (List.length z10.1+1<=Ak)<|nx11 ((z10.1++[r13]),z10.2+1)else Ac (zI fu (z7.2.1,z10.1)) fun r15=>bif decide (r15<0)then Ah (List.length z7.2.1+1<=Ak)<|Ac (idx z7.1 z7.2.2) fun r16=>nx8 ((z7.1.set z7.2.2 ((z7.2.1.length:Int))),(z7.2.1++[z10.1]),z7.2.2+1)else Ac (idx z7.1 z7.2.2) fun r17=>nx8 (((z7.1.set z7.2.2 r15),z7.2.1,z7.2.2+1))) (([r9],0))else bif decide ((z7.2.1.length:Int)=z5.2.1)then some z7.1 else nx6 ((z7.1,List.length z7.2.1,z5.2.2+1))) (((List.replicate (List.length x0) (0:Int)),[],0))else some z5.1) ((z1.1,0,0))) (((List.replicate (List.length x0) (0:Int)),0))
abbrev zH fu(x:_×_):=D17 fu x.1 x.2
def B17:=bQ [B14,B16] Tryz.func101 [Hb,ES] [ES] zH (la:=lk [(3,⟨[.Ae q2, .nat],[(0, .Aa),(1, .Aa),(5, .Aa),(20, .Aa),(21, .Aa),(22, .AK 1 301)],[(0, .row 3 0)],1⟩),(10,⟨[.Ae q2, .nat, .nat],[(0, .Aa),(1, .Aa),(5, .Az 0),(8, .AK 1 1001),(34, .Aa),(35, .AK 2 1002)],[(0, .row 3 0)],1⟩),(14,⟨[.Ae q2, .Ae q4, .nat],[(0, .Aa),(1, .Aa),(5, .Aa),(8, .Aa),(9, .Az 2),(10, .Aa),(34, .Aa),(35, .Aa),(41, .Aa),(42, .AK 2 1402)],[(1, .row 3 0),(0, .c 0),(2, .row 133 1)],3⟩),(18,⟨[.Ae q2, .nat],[(0, .Aa),(1, .Aa),(5, .Aa),(8, .Aa),(9, .Aa),(10, .Aa),(11, .Aa),(12, .Az 3),(34, .Aa),(35, .Aa),(41, .Aa),(42, .Aa),(50, .Aa),(51, .Aa),(52, .AK 1 1801)],[(3, .row 3 0),(1, .c 0),(2, .c 0),(0, .c 0)],4⟩)]) (pr:=lg [(28,[.fz 12])]) (pt:=lg [(13,[.own 9 133 ES]),(35,[.fz 4])])
def D18(fu:Nat)(x0:List Int)(x1:List Int)(x2:Int):Option Int:=Ad fu (fun(z1:Nat) nx2=>bif decide ((z1:Int)<x0.length)then Ac (idx x0 z1) fun r3=>Ac (idx x1 r3) fun r4=>Ac (idx x1 x2) fun r5=>bif decide (r4=r5)then some ((z1:Int))else nx2 (z1+1)else some ((x0.length:Int))) (0)
abbrev vv fu(x:_×_×_):=D18 fu x.1 x.2.1 x.2.2
def B18:=bQ [] Tryz.func103 [ES,ES,i6] [i6] vv (la:=lk [(2,⟨[.nat],[(0, .Aa),(1, .Aa),(2, .Aa),(9, .Aa),(10, .Aa),(11, .AK 0 200)],[],0⟩)])
def D19(fu:Nat)(x0:AW):Option (AW×Int):=Ac (F9 fu x0) fun r1=>bif !r1 then some (([],11))else bif decide ((x0.length:Int)=0)then some (([],0))else Ac (vA fu x0) fun r2=>Ac (idx r2 (0:Int)) fun r3=>bif !r3 then some (([],0))else Ac (zM fu x0) fun r4=>Ac (zL fu r4) fun r5=>Ac (zK fu r5) fun r6=>Ac (zH fu (r5,r6)) fun r7=>Ad fu (fun(z8:List Int×AW×Nat) nx9=>bif decide ((z8.2.2:Int)<z8.1.length)then Ac (idx z8.1 z8.2.2) fun r10=>Ac (idx r5 r10) fun r11=>Ad fu (fun(z12:List Int×List (Int×Int×Int)×Nat) nx13=>bif decide ((z12.2.2:Int)<r6.length)then Ac (idx r6 z12.2.2) fun r14=>Ac (idx z12.1 z8.2.2) fun r15=>Ab .u8 (r14)<|Ac (vz fu (r5,r15,r14)) fun r16=>bif decide (r16<0)then nx13 (z12.1,z12.2.1,z12.2.2+1)else bif decide ((↑(z12.2.2+1):Int)<(r6.length:Int))then Ac (idx r6 (↑(z12.2.2+1):Int)) fun r17=>Ab .i64 (r17-1)<|Ac (vv fu (z12.1,r7,r16)) fun r18=>bif decide (r18=(z12.1.length:Int))then Ah (List.length z12.1+1<=Ak)<|Ab .i64 ((z12.2.1.length:Int)-1)<|bif decide ((0:Int)<=z12.2.1.length-1)then Ac (idx z12.2.1 ((z12.2.1.length:Int)-1)) fun r19=>bif decide (r19.2.2=r18)then Ac (idx z12.2.1 ((z12.2.1.length:Int)-1)) fun r20=>Ab .i64 (r20.2.1+1)<|bif decide (r20.2.1+1=r14)then Ab .u8 (r17-1)<|Ac (idx z12.2.1 ((z12.2.1.length:Int)-1)) fun r21=>nx13 ((z12.1++[r16]),(z12.2.1.set (Int.toNat ((z12.2.1.length:Int)-1)) (r21.1,(r17-1),r21.2.2)),z12.2.2+1)else Ab .u8 (r14)<|Ab .u8 (r17-1)<|Ah (List.length z12.2.1+1<=Ak)<|nx13 ((z12.1++[r16]),(z12.2.1++[(r14,(r17-1),r18)]),z12.2.2+1)else Ab .u8 (r14)<|Ab .u8 (r17-1)<|Ah (List.length z12.2.1+1<=Ak)<|nx13 ((z12.1++[r16]),(z12.2.1++[(r14,(r17-1),r18)]),z12.2.2+1)else Ab .u8 (r14)<|Ab .u8 (r17-1)<|Ah (List.length z12.2.1+1<=Ak)<|nx13 ((z12.1++[r16]),(z12.2.1++[(r14,(r17-1),r18)]),z12.2.2+1)else Ab .i64 ((z12.2.1.length:Int)-1)<|bif decide ((0:Int)<=z12.2.1.length-1)then Ac (idx z12.2.1 ((z12.2.1.length:Int)-1)) fun r22=>bif decide (r22.2.2=r18)then Ac (idx z12.2.1 ((z12.2.1.length:Int)-1)) fun r23=>Ab .i64 (r23.2.1+1)<|bif decide (r23.2.1+1=r14)then Ab .u8 (r17-1)<|Ac (idx z12.2.1 ((z12.2.1.length:Int)-1)) fun r24=>nx13 (z12.1,(z12.2.1.set (Int.toNat ((z12.2.1.length:Int)-1)) (r24.1,(r17-1),r24.2.2)),z12.2.2+1)else Ab .u8 (r14)<|Ab .u8 (r17-1)<|Ah (List.length z12.2.1+1<=Ak)<|nx13 (z12.1,(z12.2.1++[(r14,(r17-1),r18)]),z12.2.2+1)else Ab .u8 (r14)<|Ab .u8 (r17-1)<|Ah (List.length z12.2.1+1<=Ak)<|nx13 (z12.1,(z12.2.1++[(r14,(r17-1),r18)]),z12.2.2+1)else Ab .u8 (r14)<|Ab .u8 (r17-1)<|Ah (List.length z12.2.1+1<=Ak)<|nx13 (z12.1,(z12.2.1++[(r14,(r17-1),r18)]),z12.2.2+1)else Ac (vv fu (z12.1,r7,r16)) fun r25=>bif decide (r25=(z12.1.length:Int))then Ah (List.length z12.1+1<=Ak)<|Ab .i64 ((z12.2.1.length:Int)-1)<|bif decide ((0:Int)<=z12.2.1.length-1)then Ac (idx z12.2.1 ((z12.2.1.length:Int)-1)) fun r26=>bif decide (r26.2.2=r25)then Ac (idx z12.2.1 ((z12.2.1.length:Int)-1)) fun r27=>Ab .i64 (r27.2.1+1)<|bif decide (r27.2.1+1=r14)then Ab .u8 ((255:Int))<|Ac (idx z12.2.1 ((z12.2.1.length:Int)-1)) fun r28=>nx13 ((z12.1++[r16]),(z12.2.1.set (Int.toNat ((z12.2.1.length:Int)-1)) (r28.1,255,r28.2.2)),z12.2.2+1)else Ab .u8 (r14)<|Ab .u8 ((255:Int))<|Ah (List.length z12.2.1+1<=Ak)<|nx13 ((z12.1++[r16]),(z12.2.1++[(r14,255,r25)]),z12.2.2+1)else Ab .u8 (r14)<|Ab .u8 ((255:Int))<|Ah (List.length z12.2.1+1<=Ak)<|nx13 ((z12.1++[r16]),(z12.2.1++[(r14,255,r25)]),z12.2.2+1)else Ab .u8 (r14)<|Ab .u8 ((255:Int))<|Ah (List.length z12.2.1+1<=Ak)<|nx13 ((z12.1++[r16]),(z12.2.1++[(r14,255,r25)]),z12.2.2+1)else Ab .i64 ((z12.2.1.length:Int)-1)<|bif decide ((0:Int)<=z12.2.1.length-1)then Ac (idx z12.2.1 ((z12.2.1.length:Int)-1)) fun r29=>bif decide (r29.2.2=r25)then Ac (idx z12.2.1 ((z12.2.1.length:Int)-1)) fun r30=>Ab .i64 (r30.2.1+1)<|bif decide (r30.2.1+1=r14)then Ab .u8 ((255:Int))<|Ac (idx z12.2.1 ((z12.2.1.length:Int)-1)) fun r31=>nx13 (z12.1,(z12.2.1.set (Int.toNat ((z12.2.1.length:Int)-1)) (r31.1,255,r31.2.2)),z12.2.2+1)else Ab .u8 (r14)<|Ab .u8 ((255:Int))<|Ah (List.length z12.2.1+1<=Ak)<|nx13 (z12.1,(z12.2.1++[(r14,255,r25)]),z12.2.2+1)else Ab .u8 (r14)<|Ab .u8 ((255:Int))<|Ah (List.length z12.2.1+1<=Ak)<|nx13 (z12.1,(z12.2.1++[(r14,255,r25)]),z12.2.2+1)else Ab .u8 (r14)<|Ab .u8 ((255:Int))<|Ah (List.length z12.2.1+1<=Ak)<|nx13 (z12.1,(z12.2.1++[(r14,255,r25)]),z12.2.2+1)else Ah (List.length z8.2.1+1<=Ak)<|nx9 ((z12.1,(z8.2.1++[(r11.1,z12.2.1)]),z8.2.2+1))) ((z8.1,[],0))else some ((z8.2.1,0))) (([(0:Int)],[],0))
abbrev vu fu(x:_):=D19 fu x
def B19:=bQ [B9,B10,B12,B11,B13,B17,B14,B18] Tryz.func67 [Hb] [y3,i6] vu (la:=lk [(11,⟨[.Ae q2, .Ae Hb, .nat],[(2, .Aa),(4, .Aa),(5, .Aa),(6, .Aa),(7, .Az 1),(8, .Aa),(9, .AK 2 1102)],[(2, .Af 27 [(1, .Az 3)]),(1, .row 3 0),(0, .c 0),(3, .row 95 1)],4⟩),(15,⟨[.Ae q2, .Ae Si, .nat],[(2, .Aa),(4, .Aa),(5, .Aa),(6, .Aa),(7, .Az 1),(8, .Aa),(9, .Aa),(10, .Aa),(56, .Aa),(57, .Aa),(58, .AK 2 1502)],[(4, .Af 95 [(1, .Aa),(1, .Az 5)]),(2, .c 0),(3, .c 0),(1, .row 3 0),(0, .c 0),(5, .row 92 1)],6⟩)]) (pt:=lg [(10,[.DD 8 0 95 q9]),(14,[.DD 10 1 92 q6]),(31,[.Nd 2 0])])
def D20(fu:Nat)(x0:AW)(x1:AW):Option Bool:=bif decide ((x0.length:Int)≠x1.length)then some false else Ad fu (fun(z1:Nat) nx2=>bif decide ((z1:Int)<x0.length)then Ac (idx x0 z1) fun r3=>Ac (idx x1 z1) fun r4=>bif !r3.1==r4.1 then some false else bif decide ((r3.2.length:Int)≠r4.2.length)then some false else Ad fu (fun(z5:Nat) nx6=>bif decide ((z5:Int)<r3.2.length)then Ac (idx r3.2 z5) fun r7=>Ac (idx r4.2 z5) fun r8=>bif !decide (r7.1::(r7.2.1::[r7.2.2])=r8.1::(r8.2.1::[r8.2.2]))then some false else nx6 (z5+1)else nx2 (z1+1)) (0)else some true) (0)
abbrev zG fu(x:_×_):=D20 fu x.1 x.2
def B20:=bQ [] Tryz.func142 [y3,y3] [.bool] zG (la:=lk [(4,⟨[.nat],[(2, .Aa),(3, .Aa),(18, .Aa),(19, .AK 0 400)],[(1, .c 0),(0, .c 0)],2⟩),(10,⟨[.nat],[(2, .Aa),(3, .Aa),(6, .Aa),(7, .Aa),(18, .Aa),(19, .Aa),(48, .Aa),(49, .AK 0 1000)],[(3, .c 0),(2, .c 0),(1, .c 0),(0, .c 0)],4⟩)])
def D21(fu:Nat)(x0:AW):Option Bool:=Ac (vu fu x0) fun r1=>bif decide (r1.2=0)then Ac (zG fu (x0,r1.1)) fun r2=>some r2 else some false
abbrev zF fu(x:_):=D21 fu x
def B21:=bQ [B19,B20] Tryz.func95 [y3] [.bool] zF
def D22(fu:Nat)(x0:AW):Option AW:=Ac (zF fu x0) fun r1=>bif !r1 then some []else some x0
abbrev vr fu(x:_):=D22 fu x
def B22:=bQ [B21] Tryz.func60 [y3] [y3] vr
def D23(fu:Nat)(x0:AW):Option Int:=bif decide ((x0.length:Int)=0)then some ((-1:Int))else some 0
abbrev vq fu(x:_):=D23 fu x
def B23:=bQ [] Tryz.func61 [y3] [i6] vq
def D24(fu:Nat)(x0:AW)(x1:Int):Option Bool:=bif decide ((0:Int)<=x1)then Ac (idx x0 x1) fun r1=>some r1.1 else some false
abbrev vp fu(x:_×_):=D24 fu x.1 x.2
def B24:=bQ [] Tryz.func63 [y3,i6] [.bool] vp
def D25(fu:Nat)(x0:Int)(x1:Bool)(x2:Bool):Option Bool:=bif decide (x0=38)then bif x1 then some x2 else some false else bif decide (x0=124)then bif x1 then some true else some x2 else bif x1 then some ((!x2))else some false
abbrev zE fu(x:_×_×_):=D25 fu x.1 x.2.1 x.2.2
def B25:=bQ [] Tryz.func62 [u8, .bool, .bool] [.bool] zE
def D26(fu:Nat)(x0:List AW)(x1:List Int)(x2:Int):Option Int:=Ad fu (fun(z1:Int×Nat) nx2=>bif decide ((z1.2:Int)<x0.length)then Ac (idx x1 z1.2) fun r3=>bif decide (r3<0)then nx2 (z1.1,z1.2+1)else Ac (idx x0 z1.2) fun r4=>Ac (idx x1 z1.2) fun r5=>Ac (idx r4 r5) fun r6=>Ad fu (fun(z7:Int×Nat) nx8=>bif decide ((z7.2:Int)<r6.2.length)then Ac (idx r6.2 z7.2) fun r9=>bif decide (x2<r9.1)then Ac (idx r6.2 z7.2) fun r10=>Ab .i64 (if r10.1<z7.1 then r10.1 else z7.1)<|Ac (idx r6.2 z7.2) fun r11=>bif decide (x2<=r11.2.1)then Ac (idx r6.2 z7.2) fun r12=>Ab .i64 (r12.2.1+1)<|Ab .i64 (if r12.2.1+1<if r10.1<z7.1 then r10.1 else z7.1 then r12.2.1+1 else if r10.1<z7.1 then r10.1 else z7.1)<|nx8 ((if(r12.2.1+1)<(if r10.1<z7.1 then r10.1 else z7.1)then r12.2.1+1 else if r10.1<z7.1 then r10.1 else z7.1),z7.2+1)else nx8 ((if r10.1<z7.1 then r10.1 else z7.1),z7.2+1)else Ac (idx r6.2 z7.2) fun r13=>bif decide (x2<=r13.2.1)then Ac (idx r6.2 z7.2) fun r14=>Ab .i64 (r14.2.1+1)<|Ab .i64 (if r14.2.1+1<z7.1 then r14.2.1+1 else z7.1)<|nx8 ((if(r14.2.1+1)<z7.1 then r14.2.1+1 else z7.1),z7.2+1)else nx8 (z7.1,z7.2+1)else nx2 ((z7.1,z1.2+1))) ((z1.1,0))else some z1.1) ((256,0))
abbrev zD fu(x:_×_×_):=D26 fu x.1 x.2.1 x.2.2
def B26:=bQ [] Tryz.func64 [(.sl y3),ES,i6] [i6] zD (la:=lk [(3,⟨[.Ae i6, .nat],[(0, .Aa),(1, .Aa),(2, .Aa),(7, .v 0 i6),(8, .AK 1 301)],[],0⟩),(8,⟨[.Ae i6, .nat],[(0, .Aa),(1, .Aa),(2, .Aa),(7, .v 0 i6),(8, .Aa),(9, .Aa),(10, .AK 1 801)],[],0⟩)])
def D27(fu:Nat)(x0:AW)(x1:Int)(x2:Int):Option Int:=bif decide (x1<0)then some ((-1:Int))else Ad fu (fun(z1:Nat) nx2=>Ac (idx x0 x1) fun r3=>bif decide ((z1:Int)<r3.2.length)then Ac (idx x0 x1) fun r4=>Ac (idx r4.2 z1) fun r5=>bif decide (r5.1<=x2)then bif decide (x2<=r5.2.1)then some r5.2.2 else nx2 (z1+1)else nx2 (z1+1)else some ((-1:Int))) (0)
abbrev vo fu(x:_×_×_):=D27 fu x.1 x.2.1 x.2.2
def B27:=bQ [] Tryz.func65 [y3,i6,i6] [i6] vo (la:=lk [(4,⟨[.nat],[(1, .Aa),(2, .Aa),(3, .Aa),(7, .AK 0 400)],[(0, .c 0)],1⟩)])
def D28(fu:Nat)(x0:List (Int×Int))(x1:Int×Int):Option Int:=Ad fu (fun(z1:Nat) nx2=>bif decide ((z1:Int)<x0.length)then Ac (idx x0 z1) fun r3=>bif decide ((r3.1::[r3.2])=(x1.1::[x1.2]))then some ((z1:Int))else nx2 (z1+1)else some ((-1:Int))) (0)
abbrev zC fu(x:_×_):=D28 fu x.1 x.2
def B28:=bQ [] Tryz.func66 [BJ,D'] [i6] zC (la:=lk [(2,⟨[.nat],[(0, .Aa),(3, .Aa),(5, .AK 0 200)],[(0, .c 0)],1⟩)])
def D29(fu:Nat)(x0:AW)(x1:AW)(x2:Int):Option AW:=Ac (vr fu x0) fun r1=>Ac (vr fu x1) fun r2=>Ac (vq fu r1) fun r3=>Ac (vq fu r2) fun r4=>Ad fu (fun(z5:List (Int×Int)×AW×Nat) nx6=>bif decide ((z5.2.2:Int)<z5.1.length)then Ac (idx z5.1 z5.2.2) fun r7=>Ah ((0:Int)<=0/\(0:Int)< ↑2)<|Ac (vp fu (r1,r7.1)) fun r8=>Ah ((0:Int)<=1/\(1:Int)< ↑2)<|Ac (vp fu (r2,r7.2)) fun r9=>Ac (zE fu (x2,r8,r9)) fun r10=>Ad fu (fun(z11:List (Int×Int)×List (Int×Int×Int)×Int) nx12=>bif decide (z11.2.2<256)then Ah ((0:Int)<=0/\(0:Int)< ↑2)<|Ah ((0:Int)<=1/\(1:Int)< ↑2)<|Ac (zD fu ([r1,r2],[r7.1,r7.2],z11.2.2)) fun r13=>Ah ((0:Int)<=0/\(0:Int)< ↑2)<|Ac (vo fu (r1,r7.1,z11.2.2)) fun r14=>Ah ((0:Int)<=1/\(1:Int)< ↑2)<|Ac (vo fu (r2,r7.2,z11.2.2)) fun r15=>Ac (zC fu (z11.1,r14,r15)) fun r16=>bif decide (r16<0)then Ah (List.length z11.1+1<=Ak)<|Ab .u8 (z11.2.2)<|Ab .i64 (r13-1)<|Ab .u8 (r13-1)<|Ah (List.length z11.2.1+1<=Ak)<|nx12 ((z11.1++[(r14,r15)]),(z11.2.1++[(z11.2.2,(r13-1),(z11.1.length:Int))]),r13)else Ab .u8 (z11.2.2)<|Ab .i64 (r13-1)<|Ab .u8 (r13-1)<|Ah (List.length z11.2.1+1<=Ak)<|nx12 (z11.1,(z11.2.1++[(z11.2.2,(r13-1),r16)]),r13)else Ah (List.length z5.2.1+1<=Ak)<|nx6 ((z11.1,(z5.2.1++[(r10,z11.2.1)]),z5.2.2+1))) ((z5.1,[],0))else Ac (vu fu z5.2.1) fun r17=>some r17.1) (([(r3,r4)],[],0))
abbrev zB fu(x:_×_×_):=D29 fu x.1 x.2.1 x.2.2
def B29:=bQ [B22,B23,B25,B24,B26,B27,B28,B19] Tryz.func49 [y3,y3,u8] [y3] zB (la:=lk [(5,⟨[.Ae BJ, .Ae Hb, .nat],[(2, .Aa),(6, .Aa),(7, .Aa),(8, .Aa),(9, .Az 5),(10, .Az 6),(11, .AK 2 502)],[(5, .row 127 0),(4, .c 0),(3, .c 0),(2, .c 0),(6, .row 95 1)],7⟩),(10,⟨[.Ae BJ, .Ae Si, .Ae i6],[(2, .Aa),(6, .Aa),(7, .Aa),(8, .Aa),(9, .Az 5),(10, .Aa),(11, .Aa),(12, .Aa),(13, .Aa),(14, .v 2 i6)],[(8, .Af 95 [(1, .Aa),(1, .Az 9)]),(7, .c 0),(6, .c 0),(5, .row 127 0),(4, .c 0),(3, .c 0),(2, .c 0),(9, .row 92 1)],10⟩)]) (pr:=lg [(20,[.fz 10])]) (pt:=lg [(4,[.own 10 95 q9]),(9,[.DD 13 1 92 q6])])
def D30(fu:Nat)(x0:AW)(x1:AW):Option AW:=Ac (zB fu (x0,x1,45)) fun r1=>some r1
abbrev zA fu(x:_×_):=D30 fu x.1 x.2
def B30:=bQ [B29] Tryz.func40 [y3,y3] [y3] zA
def D31(fu:Nat)(x0:AW):Option AW:=Ac (F8 fu ()) fun r1=>Ac (zA fu (r1,x0)) fun r2=>some r2
abbrev zy fu(x:_):=D31 fu x
def B31:=bQ [B30,B8] Tryz.func24 [y3] [y3] zy
def D32(fu:Nat):Option AD:=Ac (F6 fu (Vl.mk true (false,false,false,([],[]),[]) [] [])) fun r1=>some r1
abbrev vm(fu:Nat)(_:Unit):=D32 fu
def z_:=bQ [B6] Tryz.func17 [] [BD] vm
def D33(fu:Nat)(x0:Ax)(x1:AD):Option Vl:=Ac (F7 fu x0) fun r1=>Ac (zy fu r1) fun r2=>Ac (vm fu ()) fun r3=>some (Vl.mk false (false,false,false,([],[]),[]) [] [([(x0,1,x1)],[(r2,r3)])])
abbrev vl fu(x:_×_):=D33 fu x.1 x.2
def B33:=bQ [z_,B31,B7] Tryz.func13 [.str,BD] [(.nm 0)] vl (pt:=lg [(2,[.Nd 4 8])])
end
end Go.GV
namespace Go.GV
open Go Go.GK Go.Proofs
noncomputable section
def wG(fu:Nat)(x0:Int)(x1:(Int×Int)×Bool):Option (Int×Int×Bool):=Ab .i64 (x1.1.1+1)<|Ab .i64 (if x0>x1.1.2 then x0 else x1.1.2)<|some (((x1.1.1+1),(if x1.1.2<x0 then x0 else x1.1.2),x1.2))
abbrev tv fu(x:_×_):=wG fu x.1 x.2
theorem d34(fu x0 x1):tv fu (x0,x1)=wG fu x0 x1:=rfl
def B34:=bP [] Tryz.func108 ⟨[.Ae i6, .Ae (.st rP)],[(0, .loc 0 0),(1, .v 0 i6)],[(0, .Af 116 [(3, .v 1 (.st rP))])],1⟩ ⟨[.Ae i6, .Ae i6, .Ae .bool],[],[(0, .Af 116 [(1, .v 0 i6),(1, .v 1 i6),(1, .v 2 .bool)])],1⟩ 0 [] tv
def wF(fu:Nat)(x0:Gy):Option Bool:=bif !x0.1 then bif !x0.2.1 then bif !x0.2.2.1 then Ab .i64 ((x0.2.2.2.1.1.length:Int)+(x0.2.2.2.1.2.length:Int))<|Ab .i64 ((x0.2.2.2.1.1.length:Int)+(x0.2.2.2.1.2.length:Int)+(x0.2.2.2.2.length:Int))<|some (decide (((x0.2.2.2.1.1.length:Int)+(x0.2.2.2.1.2.length:Int)+(x0.2.2.2.2.length:Int))=0))else some false else some false else some false
abbrev pK fu(x:_):=wF fu x
theorem d35(fu x0):pK fu x0=wF fu x0:=rfl
def zZ:=bQ [] Tryz.func36 [y8] [.bool] pK
def wE(fu:Nat)(x0:List (Ax×Int×AD)):Option Bool:=Ad fu (fun(z1:Nat) nx2=>bif decide ((z1:Int)<x0.length)then Ac (idx x0 z1) fun r3=>bif decide (r3.2.1≠1)then bif decide (r3.2.1≠2)then some false else bif decide ((0:Int)<z1)then Ab .i64 ((z1:Int)-1)<|Ac (idx x0 ((z1:Int)-1)) fun r4=>bif !Go.Op.bytesLess r4.1 r3.1 then some false else nx2 (z1+1)else nx2 (z1+1)else bif decide ((0:Int)<z1)then Ab .i64 ((z1:Int)-1)<|Ac (idx x0 ((z1:Int)-1)) fun r5=>bif !Go.Op.bytesLess r5.1 r3.1 then some false else nx2 (z1+1)else nx2 (z1+1)else some true) (0)
abbrev tu fu(x:_):=wE fu x
theorem d36(fu x0):tu fu x0=wE fu x0:=rfl
def B36:=bQ [] Tryz.func144 [q5] [.bool] tu (la:=lk [(2,⟨[.nat],[(0, .Aa),(5, .Aa),(6, .Aa),(7, .AK 0 200)],[],0⟩)])
def wD(fu:Nat)(x0:AW):Option Bool:=Ad fu (fun(z1:Nat) nx2=>bif decide ((z1:Int)<x0.length)then Ac (idx x0 z1) fun r3=>Ad fu (fun(z4:Nat) nx5=>bif decide ((z4:Int)<r3.2.length)then Ac (idx r3.2 z4) fun r6=>bif decide (r6.2.1<r6.1)then some false else bif decide (r6.2.2<0)then some false else bif decide ((x0.length:Int)<=r6.2.2)then some false else bif decide ((0:Int)<z4)then Ab .i64 ((z4:Int)-1)<|Ac (idx r3.2 ((z4:Int)-1)) fun r7=>bif decide (r6.1<=r7.2.1)then some false else nx5 (z4+1)else nx5 (z4+1)else nx2 (z1+1)) (0)else some true) (0)
abbrev pJ fu(x:_):=wD fu x
theorem d37(fu x0):pJ fu x0=wD fu x0:=rfl
def zY:=bQ [] Tryz.func47 [Hb] [.bool] pJ (la:=lk [(2,⟨[.nat],[(0, .Aa),(7, .Aa),(8, .Aa),(9, .AK 0 200)],[],0⟩),(5,⟨[.nat],[(0, .Aa),(4, .Aa),(7, .Aa),(8, .Aa),(9, .Aa),(14, .Aa),(15, .Aa),(16, .AK 0 500)],[(0, .c 0)],1⟩)])
def wC(fu:Nat)(x0:AW):Option (List Int):=Ah ((0:Int)<=0/\(0:Int)< ↑257)<|Ah (0+Int.toNat (0:Int)*1<257)<|Ad fu (fun(z1:List Bool×Nat) nx2=>bif decide ((z1.2:Int)<x0.length)then Ac (idx x0 z1.2) fun r3=>Ad fu (fun(z4:List Bool×Nat) nx5=>bif decide ((z4.2:Int)<r3.2.length)then Ac (idx r3.2 z4.2) fun r6=>Ah ((0:Int)<=r6.1/\r6.1<(↑257:Int))<|Ah (0+Int.toNat r6.1*1<257)<|Ab .i64 (r6.2.1+1)<|Ah ((0:Int)<=r6.2.1+1/\r6.2.1+1< ↑257)<|Ah (0+Int.toNat (r6.2.1+1)*1<257)<|nx5 (((List.set z4.1 (0+Int.toNat r6.1*1) true).set (0+Int.toNat (r6.2.1+1)*1) true),z4.2+1)else nx2 ((z4.1,z1.2+1))) ((z1.1,0))else Ad fu (fun(z7:List Int×Int) nx8=>bif decide (z7.2<256)then Ah ((0:Int)<=z7.2/\z7.2<(↑257:Int))<|Ac (idx z1.1 (↑(0+Int.toNat z7.2*1):Int)) fun r9=>bif r9 then Ah (List.length z7.1+1<=Ak)<|Ab .i64 (z7.2+1)<|nx8 ((z7.1++[z7.2]),(z7.2+1))else Ab .i64 (z7.2+1)<|nx8 (z7.1,(z7.2+1))else some z7.1) (([],(0:Int)))) (((List.set (List.replicate 257 false) 0 true),0))
abbrev tt fu(x:_):=wC fu x
theorem d38(fu x0):tt fu x0=wC fu x0:=rfl
def B38:=bQ [] Tryz.func275 [Hb] [ES] tt (la:=lk [(4,⟨[.Ae (.ar 257 .bool), .nat],[(3, .Aa),(11, .Aa),(12, .Aa),(13, .AK 1 401)],[(0, .Af 200 [(257, .v 0 (.ar 257 .bool))])],1⟩),(7,⟨[.Ae (.ar 257 .bool), .nat],[(3, .Aa),(11, .Aa),(12, .Aa),(13, .Aa),(18, .Aa),(19, .Aa),(20, .AK 1 701)],[(0, .Af 200 [(257, .v 0 (.ar 257 .bool))])],2⟩),(15,⟨[.Ae q2, .Ae i6],[(3, .Aa),(8, .Az 1),(34, .v 1 i6)],[(0, .c 0),(1, .row 3 0)],2⟩)]) (pt:=lg [(14,[.own 8 3 i6]),(20,[.fz 2])])
def wB(fu:Nat)(x0:AW):Option (List Int×List Int×List (List Int)×List Bool):=Ac (tt fu x0) fun r1=>Ad fu (fun(z2:List (List Int)×List Bool×Nat) nx3=>bif decide ((z2.2.2:Int)<x0.length)then Ac (idx x0 z2.2.2) fun r4=>Ah (List.length r1<=Ak)<|Ad fu (fun(z5:List Int×Nat) nx6=>bif decide ((z5.2:Int)<r1.length)then Ac (idx r1 z5.2) fun r7=>Ac (idx z5.1 z5.2) fun r8=>Ad fu (fun(z9:List Int×Nat) nx10=>bif decide ((z9.2:Int)<r4.2.length)then Ac (idx r4.2 z9.2) fun r11=>bif decide (r11.1<=r7)then bif decide (r7<=r11.2.1)then Ac (idx z9.1 z5.2) fun r12=>nx10 ((z9.1.set z5.2 r11.2.2),z9.2+1)else nx10 (z9.1,z9.2+1)else nx10 (z9.1,z9.2+1)else nx6 ((z9.1,z5.2+1))) (((z5.1.set z5.2 ((x0.length:Int))),0))else Ah (List.length z2.1+1<=Ak)<|Ah (List.length z2.2.1+1<=Ak)<|nx3 (((z2.1++[z5.1]),(z2.2.1++[r4.1]),z2.2.2+1))) (((List.replicate (List.length r1) (0:Int)),0))else Ah (List.length r1<=Ak)<|Ad fu (fun(z13:List Int×Nat) nx14=>bif decide ((z13.2:Int)<((List.replicate (List.length r1) (0:Int)).length:Int))then Ac (idx z13.1 z13.2) fun r15=>nx14 ((z13.1.set z13.2 ((x0.length:Int))),z13.2+1)else Ah (List.length z2.1+1<=Ak)<|Ah (List.length z2.2.1+1<=Ak)<|some ((r1,[],(z2.1++[z13.1]),(z2.2.1++[false])))) (((List.replicate (List.length r1) (0:Int)),0))) (([],[],0))
abbrev tq fu(x:_):=wB fu x
theorem d39(fu x0):tq fu x0=wB fu x0:=rfl
def B39:=bP [B38] Tryz.func234 ⟨[.Ae Hb],[(0, .v 0 Hb)],[],0⟩ ⟨[.Ae ES, .Ae ES, .Ae q4, .Ae q0],[(0, .loc 0 0)],[(0, .Af 309 [(1, .v 0 ES),(1, .Az 1),(1, .Az 2),(1, .v 1 ES)]),(1, .row 133 2),(2, .row 4 3)],3⟩ 1 [] tq (la:=lk [(4,⟨[.Ae q4, .Ae q0, .nat],[(3, .Aa),(4, .Aa),(20, .Aa),(21, .Aa),(22, .AK 2 402)],[(0, .Af 309 [(1, .Aa),(1, .Az 1),(1, .Az 2),(1, .Aa)]),(1, .row 133 0),(2, .row 4 1)],3⟩),(8,⟨[.Ae q2, .nat],[(3, .Aa),(4, .Aa),(6, .Aa),(7, .Aa),(20, .Aa),(21, .Aa),(22, .Aa),(35, .Aa),(36, .Aa),(37, .AK 1 801)],[(4, .row 3 0),(3, .c 0),(0, .c 0),(2, .c 0),(1, .c 0)],5⟩),(12,⟨[.Ae q2, .nat],[(3, .Aa),(4, .Aa),(6, .Aa),(7, .Aa),(8, .Aa),(9, .Aa),(20, .Aa),(21, .Aa),(22, .Aa),(35, .Aa),(36, .Aa),(37, .Aa),(47, .Aa),(48, .Aa),(49, .AK 1 1201)],[(4, .row 3 0),(3, .c 0),(0, .c 0),(2, .c 0),(1, .c 0)],5⟩),(23,⟨[.Ae q2, .nat],[(3, .Aa),(4, .Aa),(12, .Aa),(101, .Aa),(102, .AK 1 2301)],[(3, .row 3 0),(0, .c 0),(2, .c 0),(1, .c 0)],4⟩)]) (pr:=lg [(18,[.fz 7]),(27,[.fz 12])]) (pt:=lg [(3,[.DD 17 1 133 ES, .DD 17 2 4 .bool])])
def B40(_:Nat):Bd:=sG Yi
abbrev tl(_:Nat)(x:Int):Option Ax:=Wk.F x
theorem d40(fu:Nat)(x:Int):tl fu x=Ab IntKind.i64 x (some (Lib.itoa x)):=rfl
def B41(_:Nat):Bd:=sF Yj
abbrev zx(_:Nat)(x:List Int):Option (List Int):=some x
theorem d41(fu:Nat)(x:List Int):zx fu x=some x:=rfl
def wA(fu:Nat)(x0:Ax)(x1:List Int):Option (Int×List Int):=Ac (zx fu x1) fun r1=>Ah (List.length r1+List.length x0<=1099511627776)<|some (((x0.length:Int),(r1++((List.map (fun b=>(↑(UInt8.toNat b):Int)) x0)))))
abbrev pI fu(x:_×_):=wA fu x.1 x.2
theorem d42(fu x0 x1):pI fu (x0,x1)=wA fu x0 x1:=rfl
def B42:=bP [B41] Tryz.func295 ⟨[.Ae .str, .Ae q3],[(0, .loc 0 0),(1, .v 0 .str)],[(0, .Af 330 [(1, .px [0] .sf),(1, .Az 1)]),(1, .row 5 1)],2⟩ ⟨[.Ae i6, .Ae q3],[(0, .v 0 i6),(1, .Aa)],[(0, .Af 330 [(1, .px [0] .sf),(1, .Az 2)]),(2, .row 5 1)],3⟩ 2 [1] pI
def wz(fu:Nat)(x0:List Int):Option Ax:=Ah ((x0.length:Int)=x0.length/\List.length x0=List.length x0)<|some ((List.map (fun n=>UInt8.ofNat (Int.toNat n)) x0))
abbrev tj fu(x:_):=wz fu x
theorem d43(fu x0):tj fu x0=wz fu x0:=rfl
def B43:=bP [] Tryz.func297 ⟨[.Ae q3],[(0, .loc 0 0)],[(0, .Af 330 [(1, .px [0] .sf),(1, .Az 1)]),(1, .row 5 0)],2⟩ ⟨[.Ae .str],[(0, .v 0 .str)],[(0, .Af 330 [(1, .px [0] .sf),(1, .Az 1)])],2⟩ 1 [1] tj
def wv(fu:Nat)(x0:List Int×List (List Int)×List Bool×List Int)(x1:Int):Option Ax:=Ac (idx x0.2.2.2 x1) fun r1=>Ac (tl fu r1) fun r2=>Ac (pI fu (r2,[])) fun r3=>Ac (idx x0.2.1 x1) fun r4=>Ad fu (fun(z5:List Int×Nat) nx6=>bif decide ((z5.2:Int)<r4.length)then Ac (idx r4 z5.2) fun r7=>Ac (idx x0.2.2.2 r7) fun r8=>Ac (tl fu r8) fun r9=>Ah (List.length ([44]:Ax)+List.length r9<=1099511627776)<|Ac (pI fu ((44:UInt8)::r9,z5.1)) fun r10=>nx6 (r10.2,z5.2+1)else Ac (tj fu z5.1) fun r11=>some r11) ((r3.2,0))
abbrev ti fu(x:_×_):=wv fu x.1 x.2
theorem d44(fu x0 x1):ti fu (x0,x1)=wv fu x0 x1:=rfl
def B44:=bP [B42,B40,B43] Tryz.func276 ⟨[.Ae mz, .Ae i6],[(0, .pd 0 mz 0),(1, .v 1 i6)],[],0⟩ ⟨[.Ae .str],[(0, .v 0 .str)],[],0⟩ 1 [] ti (la:=lk [(4,⟨[.Ae q3, .nat],[(0, .Aa),(5, .Aa),(23, .Aa),(24, .Aa),(25, .AK 1 401)],[(0, .Af 330 [(1, .px [0] .sf),(1, .Az 2)]),(2, .row 5 0)],3⟩)]) (pr:=lg [(2,[.DD 5 1 5 u8])])
def wu(fu:Nat)(x0:List Int)(x1:List Int)(x2:List (List Int))(x3:List Bool):Option (List Int×List (List Int)×List Bool×List Int):=Ah (List.length x2<=Ak)<|Ad fu (fun(z1:List Int×Nat) nx2=>bif decide ((z1.2:Int)<x3.length)then Ac (idx x3 z1.2) fun r3=>bif r3 then Ac (idx z1.1 z1.2) fun r4=>nx2 ((z1.1.set z1.2 ((1:Int))),z1.2+1)else nx2 (z1.1,z1.2+1)else Ad fu (fun(z5:List Int×Int) nx6=>Ah (List.length x2<=Ak)<|Ad fu (fun(z7:List Int×List (Ax×Int)×Nat) nx8=>bif decide ((z7.2.2:Int)<x2.length)then Ac (ti fu ((x0,x2,x3,z5.1),(z7.2.2:Int))) fun r9=>Ah (List.length r9<=1099511627776)<|bif !(Option.isSome (Aq z7.2.1 r9))then Ah (List.length r9<=1099511627776/\List.length z7.2.1<=1099511627776)<|Ac (idx z7.1 z7.2.2) fun r10=>nx8 ((z7.1.set z7.2.2 ((z7.2.1.length:Int))),Bk z7.2.1 r9 ((z7.2.1.length:Int)),z7.2.2+1)else Ac (idx z7.1 z7.2.2) fun r11=>nx8 ((z7.1.set z7.2.2 (Option.getD (Aq z7.2.1 r9) (0:Int))),z7.2.1,z7.2.2+1)else bif decide ((z7.2.1.length:Int)=z5.2)then some ((x0,x2,x3,z7.1))else nx6 ((z7.1,(z7.2.1.length:Int)))) (((List.replicate (List.length x2) (0:Int)),[],0))) ((z1.1,(0:Int)))) (((List.replicate (List.length x2) (0:Int)),0))
abbrev tg fu(x:_×_×_×_):=wu fu x.1 x.2.1 x.2.2.1 x.2.2.2
theorem d45(fu x0 x1 x2 x3):tg fu (x0,x1,x2,x3)=wu fu x0 x1 x2 x3:=rfl
def B45:=bP [B44] Tryz.func235 ⟨[.Ae ES, .Ae ES, .Ae q4, .Ae q0],[(0, .loc 0 0)],[(0, .Af 309 [(1, .v 0 ES),(1, .Az 1),(1, .Az 2),(1, .v 1 ES)]),(1, .row 133 2),(2, .row 4 3)],3⟩ ⟨[.Ae ES, .Ae q4, .Ae q0, .Ae ES],[],[(0, .Af 309 [(1, .v 0 ES),(1, .Az 1),(1, .Az 2),(1, .Az 3)]),(1, .row 133 1),(2, .row 4 2),(3, .row 3 3)],4⟩ 0 [] tg (la:=lk [(2,⟨[.Ae q2, .nat],[(0, .Aa),(24, .Aa),(25, .Aa),(26, .AK 1 201)],[(2, .c 0),(0, .c 0),(3, .row 3 0),(1, .c 0)],4⟩),(9,⟨[.Ae q2, .Ae i6],[(0, .Aa),(4, .v 1 i6),(5, .Aa)],[(0, .Af 309 [(1, .Aa),(1, .Aa),(1, .Aa),(1, .Az 3)]),(3, .row 3 0),(2, .c 0),(1, .c 0)],4⟩),(12,⟨[.Ae q2, .Ae (.sl (.st y17)), .nat],[(0, .Aa),(4, .Aa),(5, .Aa),(6, .Aa),(7, .Aa),(52, .Aa),(53, .AK 2 1202)],[(5, .row 3 0),(4, .map 9 1),(0, .c 0),(3, .c 0),(2, .c 0),(1, .c 0)],6⟩)])
def wq(fu:Nat)(x0:List Int×List (List Int)×List Bool×List Int):Option (List Bool):=Ah (List.length x0.2.1<=Ak)<|Ad fu (fun(z1:List Bool×Bool) nx2=>bif z1.2 then Ad fu (fun(z3:List Bool×Bool×Nat) nx4=>bif decide ((z3.2.2:Int)<x0.2.1.length)then Ac (idx x0.2.2.1 z3.2.2) fun r5=>Ac (idx x0.2.1 z3.2.2) fun r6=>Ad fu (fun(z7:Bool×Nat) nx8=>bif decide ((z7.2:Int)<r6.length)then Ac (idx r6 z7.2) fun r9=>bif z7.1 then nx8 (true,z7.2+1)else Ac (idx x0.2.2.2 r9) fun r10=>Ac (idx z3.1 r10) fun r11=>nx8 (r11,z7.2+1)else bif z7.1 then Ac (idx x0.2.2.2 z3.2.2) fun r12=>Ac (idx z3.1 r12) fun r13=>bif !r13 then Ac (idx x0.2.2.2 z3.2.2) fun r14=>Ac (idx z3.1 r14) fun r15=>nx4 ((z3.1.set (Int.toNat r14) true),true,z3.2.2+1)else nx4 (z3.1,z3.2.1,z3.2.2+1)else nx4 ((z3.1,z3.2.1,z3.2.2+1))) ((r5,0))else nx2 ((z3.1,z3.2.1))) ((z1.1,false,0))else some z1.1) (((List.replicate (List.length x0.2.1) false),true))
abbrev tf fu(x:_):=wq fu x
theorem d46(fu x0):tf fu x0=wq fu x0:=rfl
def B46:=bP [] Tryz.func277 ⟨[.Ae mz],[(0, .pd 0 mz 0)],[],0⟩ ⟨[.Ae q0],[(0, .Az 0)],[(0, .row 4 0)],1⟩ 1 [] tf (la:=lk [(3,⟨[.Ae q0, .Ae .bool],[(0, .Aa),(3, .Aa),(4, .v 1 .bool)],[(0, .row 4 0)],1⟩),(6,⟨[.Ae q0, .Ae .bool, .nat],[(0, .Aa),(3, .Aa),(4, .v 1 .bool),(20, .Aa),(21, .AK 2 602)],[(0, .row 4 0)],1⟩),(10,⟨[.Ae .bool, .nat],[(0, .Aa),(3, .Aa),(4, .Aa),(5, .Aa),(6, .v 0 .bool),(20, .Aa),(21, .Aa),(37, .Aa),(38, .Aa),(39, .AK 1 1001)],[(0, .c 0)],1⟩)])
def wo(fu:Nat)(x0:List Int×List (List Int)×List Bool×List Int)(x1:Int):Option Int:=Ab .i64 (x1+1)<|bif decide (x1+1<x0.1.length)then Ab .i64 (x1+1)<|Ac (idx x0.1 (x1+1)) fun r1=>Ab .i64 (r1-1)<|Ab .u8 (r1-1)<|some ((r1-1))else some 255
abbrev Tg fu(x:_×_):=wo fu x.1 x.2
theorem d47(fu x0 x1):Tg fu (x0,x1)=wo fu x0 x1:=rfl
def B47:=bP [] Tryz.func278 ⟨[.Ae mz, .Ae i6],[(0, .pd 0 mz 0),(1, .v 1 i6)],[],0⟩ ⟨[.Ae u8],[(0, .v 0 u8)],[],0⟩ 1 [] Tg
def wm(fu:Nat)(x0:List Int)(x1:List (List Int))(x2:List Bool)(x3:List Int):Option (AW×List Int×List (List Int)×List Bool×List Int):=Ac (tf fu (x0,x1,x2,x3)) fun r1=>Ac (idx x3 (0:Int)) fun r2=>Ac (idx r1 r2) fun r3=>bif !r3 then some (([],x0,x1,x2,x3))else Ac (idx x3 (0:Int)) fun r4=>Ab .i64 (r4)<|Ah (0<=1099511627776)<|Ad fu (fun(z5:List (Int×Int)×List Int×AW×Nat) nx6=>bif decide ((z5.2.2.2:Int)<z5.2.1.length)then Ac (idx z5.2.1 z5.2.2.2) fun r7=>Ac (idx x2 r7) fun r8=>Ac (idx z5.2.1 z5.2.2.2) fun r9=>Ac (idx x1 r9) fun r10=>Ad fu (fun(z11:List (Int×Int)×List Int×List (Int×Int×Int)×Nat) nx12=>bif decide ((z11.2.2.2:Int)<r10.length)then Ac (idx r10 z11.2.2.2) fun r13=>Ac (idx x3 r13) fun r14=>Ac (idx r1 r14) fun r15=>bif !r15 then nx12 (z11.1,z11.2.1,z11.2.2.1,z11.2.2.2+1)else Ab .i64 (r14)<|bif !(Option.isSome (Aq z11.1 r14))then Ab .i64 (r14)<|Ah (List.length z11.1<=1099511627776)<|Ah (List.length z11.2.1+1<=Ak)<|bif decide ((0:Int)<z11.2.2.1.length)then Ab .i64 ((z11.2.2.1.length:Int)-1)<|Ac (idx z11.2.2.1 ((z11.2.2.1.length:Int)-1)) fun r16=>Ab .i64 (r14)<|bif decide (r16.2.2=Option.getD (Aq (Bk z11.1 r14 (z11.2.1.length:Int)) r14) (0:Int))then Ab .i64 ((z11.2.2.1.length:Int)-1)<|Ac (idx z11.2.2.1 ((z11.2.2.1.length:Int)-1)) fun r17=>Ab .i64 (r17.2.1+1)<|Ac (idx x0 z11.2.2.2) fun r18=>bif decide (r17.2.1+1=r18)then Ab .i64 ((z11.2.2.1.length:Int)-1)<|Ac (Tg fu ((x0,x1,x2,x3),(z11.2.2.2:Int))) fun r19=>Ac (idx z11.2.2.1 ((z11.2.2.1.length:Int)-1)) fun r20=>nx12 (Bk z11.1 r14 (z11.2.1.length:Int),(z11.2.1++[r13]),(z11.2.2.1.set (Int.toNat ((z11.2.2.1.length:Int)-1)) (r20.1,r19,r20.2.2)),z11.2.2.2+1)else Ac (idx x0 z11.2.2.2) fun r21=>Ab .u8 (r21)<|Ac (Tg fu ((x0,x1,x2,x3),(z11.2.2.2:Int))) fun r22=>Ab .i64 (r14)<|Ah (List.length z11.2.2.1+1<=Ak)<|nx12 (Bk z11.1 r14 (z11.2.1.length:Int),(z11.2.1++[r13]),(z11.2.2.1++[(r21,r22,Option.getD (Aq (Bk z11.1 r14 (z11.2.1.length:Int)) r14) (0:Int))]),z11.2.2.2+1)else Ac (idx x0 z11.2.2.2) fun r23=>Ab .u8 (r23)<|Ac (Tg fu ((x0,x1,x2,x3),(z11.2.2.2:Int))) fun r24=>Ab .i64 (r14)<|Ah (List.length z11.2.2.1+1<=Ak)<|nx12 (Bk z11.1 r14 (z11.2.1.length:Int),(z11.2.1++[r13]),(z11.2.2.1++[(r23,r24,Option.getD (Aq (Bk z11.1 r14 (z11.2.1.length:Int)) r14) (0:Int))]),z11.2.2.2+1)else Ac (idx x0 z11.2.2.2) fun r25=>Ab .u8 (r25)<|Ac (Tg fu ((x0,x1,x2,x3),(z11.2.2.2:Int))) fun r26=>Ab .i64 (r14)<|Ah (List.length z11.2.2.1+1<=Ak)<|nx12 (Bk z11.1 r14 (z11.2.1.length:Int),(z11.2.1++[r13]),(z11.2.2.1++[(r25,r26,Option.getD (Aq (Bk z11.1 r14 (z11.2.1.length:Int)) r14) (0:Int))]),z11.2.2.2+1)else bif decide ((0:Int)<z11.2.2.1.length)then Ab .i64 ((z11.2.2.1.length:Int)-1)<|Ac (idx z11.2.2.1 ((z11.2.2.1.length:Int)-1)) fun r27=>Ab .i64 (r14)<|bif decide (r27.2.2=Option.getD (Aq z11.1 r14) (0:Int))then Ab .i64 ((z11.2.2.1.length:Int)-1)<|Ac (idx z11.2.2.1 ((z11.2.2.1.length:Int)-1)) fun r28=>Ab .i64 (r28.2.1+1)<|Ac (idx x0 z11.2.2.2) fun r29=>bif decide (r28.2.1+1=r29)then Ab .i64 ((z11.2.2.1.length:Int)-1)<|Ac (Tg fu ((x0,x1,x2,x3),(z11.2.2.2:Int))) fun r30=>Ac (idx z11.2.2.1 ((z11.2.2.1.length:Int)-1)) fun r31=>nx12 (z11.1,z11.2.1,(z11.2.2.1.set (Int.toNat ((z11.2.2.1.length:Int)-1)) (r31.1,r30,r31.2.2)),z11.2.2.2+1)else Ac (idx x0 z11.2.2.2) fun r32=>Ab .u8 (r32)<|Ac (Tg fu ((x0,x1,x2,x3),(z11.2.2.2:Int))) fun r33=>Ab .i64 (r14)<|Ah (List.length z11.2.2.1+1<=Ak)<|nx12 (z11.1,z11.2.1,(z11.2.2.1++[(r32,r33,Option.getD (Aq z11.1 r14) (0:Int))]),z11.2.2.2+1)else Ac (idx x0 z11.2.2.2) fun r34=>Ab .u8 (r34)<|Ac (Tg fu ((x0,x1,x2,x3),(z11.2.2.2:Int))) fun r35=>Ab .i64 (r14)<|Ah (List.length z11.2.2.1+1<=Ak)<|nx12 (z11.1,z11.2.1,(z11.2.2.1++[(r34,r35,Option.getD (Aq z11.1 r14) (0:Int))]),z11.2.2.2+1)else Ac (idx x0 z11.2.2.2) fun r36=>Ab .u8 (r36)<|Ac (Tg fu ((x0,x1,x2,x3),(z11.2.2.2:Int))) fun r37=>Ab .i64 (r14)<|Ah (List.length z11.2.2.1+1<=Ak)<|nx12 (z11.1,z11.2.1,(z11.2.2.1++[(r36,r37,Option.getD (Aq z11.1 r14) (0:Int))]),z11.2.2.2+1)else Ah (List.length z5.2.2.1+1<=Ak)<|nx6 ((z11.1,z11.2.1,(z5.2.2.1++[(r8,z11.2.2.1)]),z5.2.2.2+1))) ((z5.1,z5.2.1,[],0))else some ((z5.2.2.1,x0,x1,x2,x3))) ((Bk [] r4 (0:Int),[(0:Int)],[],0))
abbrev pH fu(x:_×_×_×_):=wm fu x.1 x.2.1 x.2.2.1 x.2.2.2
theorem d48(fu x0 x1 x2 x3):pH fu (x0,x1,x2,x3)=wm fu x0 x1 x2 x3:=rfl
def B48:=bP [B46,B47] Tryz.func236 ⟨[.Ae ES, .Ae q4, .Ae q0, .Ae ES],[(0, .loc 0 0)],[(0, .Af 309 [(1, .v 0 ES),(1, .Az 1),(1, .Az 2),(1, .Az 3)]),(1, .row 133 1),(2, .row 4 2),(3, .row 3 3)],4⟩ ⟨[.Ae y3, .Ae ES, .Ae q4, .Ae q0, .Ae ES],[(0, .v 0 y3)],[(0, .Af 309 [(1, .v 1 ES),(1, .Az 1),(1, .Az 2),(1, .Az 3)]),(1, .row 133 2),(2, .row 4 3),(3, .row 3 4)],4⟩ 1 [] pH (la:=lk [(8,⟨[.Ae BJ, .Ae q2, .Ae Hb, .nat],[(0, .Aa),(2, .Aa),(3, .Aa),(4, .Az 6),(5, .Aa),(6, .Aa),(7, .AK 3 803)],[(8, .Af 27 [(1, .Az 9)]),(7, .map 3 0),(6, .row 3 1),(5, .c 0),(4, .c 0),(0, .c 0),(3, .c 0),(2, .c 0),(1, .c 0),(9, .row 95 2)],10⟩),(12,⟨[.Ae BJ, .Ae q2, .Ae Si, .nat],[(0, .Aa),(2, .Aa),(3, .Aa),(4, .Az 6),(5, .Aa),(6, .Aa),(7, .Aa),(8, .Aa),(63, .Aa),(64, .Aa),(65, .AK 3 1203)],[(10, .Af 95 [(1, .Aa),(1, .Az 11)]),(8, .c 0),(9, .c 0),(7, .map 3 0),(6, .row 3 1),(5, .c 0),(4, .c 0),(0, .c 0),(3, .c 0),(2, .c 0),(1, .c 0),(11, .row 92 2)],12⟩)]) (pt:=lg [(7,[.DD 6 0 95 q9]),(11,[.DD 8 1 92 q6]),(26,[.Nd 2 0])])
def wk(fu:Nat)(x0:AW):Option (AW×Int):=Ac (pJ fu x0) fun r1=>bif !r1 then some (([],11))else bif decide ((x0.length:Int)=0)then some (([],0))else Ac (tq fu x0) fun r2=>Ac (tg fu (r2.1,r2.2.1,r2.2.2.1,r2.2.2.2)) fun r3=>Ac (pH fu (r3.1,r3.2.1,r3.2.2.1,r3.2.2.2)) fun r4=>some ((r4.1,0))
abbrev dQ fu(x:_):=wk fu x
theorem d49(fu x0):dQ fu x0=wk fu x0:=rfl
def tK:=bQ [zY,B39,B45,B48] Tryz.func172 [Hb] [y3,i6] dQ
def wj(fu:Nat)(x0:List (Int×Int×Int))(x1:List (Int×Int×Int)):Option Bool:=bif decide ((x0.length:Int)≠x1.length)then some false else Ad fu (fun(z1:Nat) nx2=>bif decide ((z1:Int)<x0.length)then Ac (idx x0 z1) fun r3=>Ac (idx x1 z1) fun r4=>bif !decide (r3.1::(r3.2.1::[r3.2.2])=r4.1::(r4.2.1::[r4.2.2]))then some false else nx2 (z1+1)else some true) (0)
abbrev td fu(x:_×_):=wj fu x.1 x.2
theorem d50(fu x0 x1):td fu (x0,x1)=wj fu x0 x1:=rfl
def B50:=bQ [] Tryz.func106 [Si,Si] [.bool] td (la:=lk [(4,⟨[.nat],[(0, .Aa),(1, .Aa),(12, .Aa),(13, .AK 0 400)],[],0⟩)])
def wi(fu:Nat)(x0:zt)(x1:zt):Option Bool:=bif x0.1==x1.1 then Ac (td fu (x0.2,x1.2)) fun r1=>some r1 else some false
abbrev tc fu(x:_×_):=wi fu x.1 x.2
theorem d51(fu x0 x1):tc fu (x0,x1)=wi fu x0 x1:=rfl
def B51:=bQ [B50] Tryz.func105 [q9,q9] [.bool] tc
def wh(fu:Nat)(x0:AW)(x1:AW):Option Bool:=bif decide ((x0.length:Int)≠x1.length)then some false else Ad fu (fun(z1:Nat) nx2=>bif decide ((z1:Int)<x0.length)then Ac (idx x0 z1) fun r3=>Ac (idx x1 z1) fun r4=>Ac (tc fu (r3,r4)) fun r5=>bif !r5 then some false else nx2 (z1+1)else some true) (0)
abbrev vk fu(x:_×_):=wh fu x.1 x.2
theorem d52(fu x0 x1):vk fu (x0,x1)=wh fu x0 x1:=rfl
def B52:=bP [B51] Tryz.func104 ⟨[.Ae Hb, .Ae Hb],[(0, .v 0 Hb),(1, .v 1 Hb),(2, .AA 105 [] [])],[],0⟩ ⟨[.Ae .bool],[(0, .v 0 .bool)],[],0⟩ 1 [] vk (la:=lk [(4,⟨[.nat],[(1, .Aa),(2, .Aa),(15, .Aa),(16, .Aa),(17, .AK 0 400)],[],0⟩)])
def wg(fu:Nat)(x0:AW)(x1:AW):Option Bool:=Ac (vk fu (x0,x1)) fun r1=>some r1
abbrev mV fu(x:_×_):=wg fu x.1 x.2
theorem d53(fu x0 x1):mV fu (x0,x1)=wg fu x0 x1:=rfl
def wV:=bQ [B52] Tryz.func69 [y3,y3] [.bool] mV
def we(fu:Nat)(x0:AW):Option Bool:=Ac (dQ fu x0) fun r1=>bif decide (r1.2=0)then Ac (mV fu (x0,r1.1)) fun r2=>some r2 else some false
abbrev mU fu(x:_):=we fu x
theorem d54(fu x0):mU fu x0=we fu x0:=rfl
def wU:=bQ [wV,tK] Tryz.func136 [y3] [.bool] mU
def B55(_:Nat):Bd:=sF gW
abbrev vj(_:Nat)(x:Int×Int×List Int):Option (List Int):=S' x
theorem uS(fu:Nat)(x:Int)(l:List Int):vj fu (x,10,l)=Ah (l.length+21<=140737488355328) (Ab IntKind.i64 x (some (l++(Lib.itoa x).map fun b=>((b.toNat:Nat):Int)))):=by
 show S' (x,10,l)=_
 unfold S' Ah;simp
def wc(fu:Nat)(x0:List Int):Option Ax:=Ad fu (fun(z1:List Int×Nat) nx2=>bif decide ((z1.2:Int)<x0.length)then Ac (idx x0 z1.2) fun r3=>Ah (List.length z1.1+1<=Ak)<|Ac (vj fu (r3,10,(z1.1++[(44:Int)]))) fun r4=>nx2 (r4,z1.2+1)else some ((List.map (fun n=>UInt8.ofNat (Int.toNat n)) z1.1))) (([],0))
abbrev mT fu(x:_):=wc fu x
theorem d59(fu x0):mT fu x0=wc fu x0:=rfl
def B56:=bQ [B55] Tryz.func181 [ES] [.str] mT (la:=lk [(3,⟨[.Ae q3, .nat],[(3, .Az 0),(6, .Aa),(7, .Aa),(8, .AK 1 301)],[(0, .row 5 0)],1⟩)]) (pr:=lg [(7,[.fz 3])]) (pt:=lg [(2,[.own 3 5 u8])])
def wb(fu:Nat)(x0:Bp)(x1:List Int):Option Int:=Ad fu (fun(z1:Int×Nat) nx2=>bif decide ((z1.2:Int)<x0.2.length)then Ac (idx x0.2 z1.2) fun r3=>Ac (idx x1 z1.2) fun r4=>bif decide ((0:Int)<=r4)then Ac (idx x1 z1.2) fun r5=>Ac (idx r3.1 r5) fun r6=>bif r6.1 then Ab .i64 (z1.1+1)<|nx2 ((z1.1+1),z1.2+1)else nx2 (z1.1,z1.2+1)else nx2 (z1.1,z1.2+1)else Ad fu (fun(z7:Int×Nat) nx8=>bif decide ((z7.2:Int)<x0.1.length)then Ac (idx x0.1 z7.2) fun r9=>Ab .i64 ((x0.2.length:Int)+(z7.2:Int))<|Ac (idx x1 ((x0.2.length:Int)+(z7.2:Int))) fun r10=>bif decide (r10=(r9.1.length:Int))then Ab .i64 (z7.1+1)<|nx8 ((z7.1+1),z7.2+1)else nx8 (z7.1,z7.2+1)else some z7.1) ((z1.1,0))) ((0,0))
abbrev pG fu(x:_×_):=wb fu x.1 x.2
theorem d60(fu x0 x1):pG fu (x0,x1)=wb fu x0 x1:=rfl
def B57:=bQ [] Tryz.func182 [q8,ES] [i6] pG (la:=lk [(3,⟨[.Ae i6, .nat],[(1, .Aa),(2, .Aa),(5, .v 0 i6),(11, .Aa),(12, .Aa),(13, .AK 1 301)],[(0, .c 0)],1⟩),(9,⟨[.Ae i6, .nat],[(1, .Aa),(2, .Aa),(5, .v 0 i6),(39, .Aa),(40, .Aa),(41, .AK 1 901)],[(0, .c 0)],1⟩)])
def wa(fu:Nat)(x0:Bp)(x1:List Int):Option (List Int):=Ad fu (fun(z1:List Bool×Nat) nx2=>bif decide ((z1.2:Int)<x0.2.length)then Ac (idx x0.2 z1.2) fun r3=>Ac (idx x1 z1.2) fun r4=>bif decide (r4<0)then nx2 (z1.1,z1.2+1)else Ac (idx x1 z1.2) fun r5=>Ac (idx r3.1 r5) fun r6=>Ad fu (fun(z7:List Bool×Nat) nx8=>bif decide ((z7.2:Int)<r6.2.length)then Ac (idx r6.2 z7.2) fun r9=>Ab .i64 (r9.2.1+1)<|Ah ((0:Int)<=r9.1/\r9.1<(↑257:Int))<|Ah (0+Int.toNat r9.1*1<257)<|Ah ((0:Int)<=r9.2.1+1/\r9.2.1+1< ↑257)<|Ah (0+Int.toNat (r9.2.1+1)*1<257)<|nx8 (((List.set z7.1 (0+Int.toNat r9.1*1) true).set (0+Int.toNat (r9.2.1+1)*1) true),z7.2+1)else nx2 ((z7.1,z1.2+1))) ((z1.1,0))else Ad fu (fun(z10:List Bool×Nat) nx11=>bif decide ((z10.2:Int)<x0.1.length)then Ac (idx x0.1 z10.2) fun r12=>Ab .i64 ((x0.2.length:Int)+(z10.2:Int))<|Ac (idx x1 ((x0.2.length:Int)+(z10.2:Int))) fun r13=>bif decide ((0:Int)<=r13)then bif decide (r13<(r12.1.length:Int))then Ac (EE r12.1 r13) fun r14=>Ac (EE r12.1 r13) fun r15=>Ab .i64 (r15+1)<|Ah ((0:Int)<=r14/\r14<(↑257:Int))<|Ah (0+Int.toNat r14*1<257)<|Ah ((0:Int)<=r15+1/\r15+1< ↑257)<|Ah (0+Int.toNat (r15+1)*1<257)<|nx11 (((List.set z10.1 (0+Int.toNat r14*1) true).set (0+Int.toNat (r15+1)*1) true),z10.2+1)else nx11 (z10.1,z10.2+1)else nx11 (z10.1,z10.2+1)else Ad fu (fun(z16:List Int×Int) nx17=>bif decide (z16.2<256)then Ah ((0:Int)<=z16.2/\z16.2<(↑257:Int))<|Ac (idx z10.1 (↑(0+Int.toNat z16.2*1):Int)) fun r18=>bif r18 then Ab .u8 (z16.2)<|Ah (List.length z16.1+1<=Ak)<|Ab .i64 (z16.2+1)<|nx17 ((z16.1++[z16.2]),(z16.2+1))else Ab .i64 (z16.2+1)<|nx17 (z16.1,(z16.2+1))else some z16.1) (([],(0:Int)))) ((z1.1,0))) (((List.set (List.replicate 257 false) 0 true),0))
abbrev pF fu(x:_×_):=wa fu x.1 x.2
theorem d61(fu x0 x1):pF fu (x0,x1)=wa fu x0 x1:=rfl
def B58:=bQ [] Tryz.func183 [q8,ES] [q3] pF (la:=lk [(3,⟨[.Ae (.ar 257 .bool), .nat],[(1, .Aa),(2, .Aa),(5, .Aa),(17, .Aa),(18, .Aa),(19, .AK 1 301)],[(1, .Af 200 [(257, .v 0 (.ar 257 .bool))]),(0, .c 0)],2⟩),(7,⟨[.Ae (.ar 257 .bool), .nat],[(1, .Aa),(2, .Aa),(5, .Aa),(17, .Aa),(18, .Aa),(19, .Aa),(38, .Aa),(39, .Aa),(40, .AK 1 701)],[(1, .Af 200 [(257, .v 0 (.ar 257 .bool))]),(0, .c 0)],3⟩),(13,⟨[.Ae (.ar 257 .bool), .nat],[(1, .Aa),(2, .Aa),(5, .Aa),(55, .Aa),(56, .Aa),(57, .AK 1 1301)],[(1, .Af 200 [(257, .v 0 (.ar 257 .bool))]),(0, .c 0)],2⟩),(21,⟨[.Ae q3, .Ae i6],[(5, .Aa),(13, .Az 2),(92, .v 1 i6)],[(1, .c 0),(2, .row 5 0)],3⟩)]) (pt:=lg [(20,[.own 13 5 u8]),(26,[.fz 4])])
def v_(fu:Nat)(x0:Bp)(x1:List Int)(x2:Int):Option (List Int):=Ah (List.length x1<=Ak)<|Ad fu (fun(z1:List Int×Nat) nx2=>bif decide ((z1.2:Int)<((List.replicate (List.length x1) (0:Int)).length:Int))then Ac (idx z1.1 z1.2) fun r3=>nx2 ((z1.1.set z1.2 (Int.negSucc (0))),z1.2+1)else Ad fu (fun(z4:List Int×Nat) nx5=>bif decide ((z4.2:Int)<x0.2.length)then Ac (idx x0.2 z4.2) fun r6=>Ac (idx x1 z4.2) fun r7=>bif decide (r7<0)then nx5 (z4.1,z4.2+1)else Ac (idx x1 z4.2) fun r8=>Ac (idx r6.1 r8) fun r9=>Ad fu (fun(z10:List Int×Nat) nx11=>bif decide ((z10.2:Int)<r9.2.length)then Ac (idx r9.2 z10.2) fun r12=>bif decide (r12.1<=x2)then bif decide (x2<=r12.2.1)then Ac (idx z10.1 z4.2) fun r13=>nx11 ((z10.1.set z4.2 r12.2.2),z10.2+1)else nx11 (z10.1,z10.2+1)else nx11 (z10.1,z10.2+1)else nx5 ((z10.1,z4.2+1))) ((z4.1,0))else Ad fu (fun(z14:List Int×Nat) nx15=>bif decide ((z14.2:Int)<x0.1.length)then Ac (idx x0.1 z14.2) fun r16=>Ab .i64 ((x0.2.length:Int)+(z14.2:Int))<|Ac (idx x1 ((x0.2.length:Int)+(z14.2:Int))) fun r17=>bif decide ((0:Int)<=r17)then bif decide (r17<(r16.1.length:Int))then Ac (EE r16.1 r17) fun r18=>bif decide (r18=x2)then Ab .i64 (r17+1)<|Ac (idx z14.1 ((x0.2.length:Int)+(z14.2:Int))) fun r19=>nx15 ((z14.1.set (Int.toNat ((x0.2.length:Int)+(z14.2:Int))) ((r17+1))),z14.2+1)else nx15 (z14.1,z14.2+1)else nx15 (z14.1,z14.2+1)else nx15 (z14.1,z14.2+1)else some z14.1) ((z4.1,0))) ((z1.1,0))) (((List.replicate (List.length x1) (0:Int)),0))
abbrev pE fu(x:_×_×_):=v_ fu x.1 x.2.1 x.2.2
theorem d62(fu x0 x1 x2):pE fu (x0,x1,x2)=v_ fu x0 x1 x2:=rfl
def B59:=bQ [] Tryz.func184 [q8,ES,u8] [ES] pE (la:=lk [(3,⟨[.Ae q2, .nat],[(1, .Aa),(2, .Aa),(3, .Aa),(7, .Aa),(21, .Aa),(22, .AK 1 301)],[(1, .row 3 0),(0, .c 0)],2⟩),(8,⟨[.Ae q2, .nat],[(1, .Aa),(2, .Aa),(3, .Aa),(7, .Aa),(30, .Aa),(31, .Aa),(32, .AK 1 801)],[(1, .row 3 0),(0, .c 0)],2⟩),(12,⟨[.Ae q2, .nat],[(1, .Aa),(2, .Aa),(3, .Aa),(7, .Aa),(9, .Aa),(30, .Aa),(31, .Aa),(32, .Aa),(51, .Aa),(52, .Aa),(53, .AK 1 1201)],[(1, .row 3 0),(0, .c 0)],3⟩),(19,⟨[.Ae q2, .nat],[(1, .Aa),(2, .Aa),(3, .Aa),(7, .Aa),(75, .Aa),(76, .Aa),(77, .AK 1 1901)],[(1, .row 3 0),(0, .c 0)],2⟩)]) (pt:=lg [(26,[.fz 6])])
def v8(fu:Nat)(x0:Bp):Option Bool:=Ad fu (fun(z1:Nat) nx2=>bif decide ((z1:Int)<x0.2.length)then Ac (idx x0.2 z1) fun r3=>bif decide ((r3.1.length:Int)=0)then some false else Ac (mU fu r3.1) fun r4=>bif !r4 then some false else nx2 (z1+1)else Ab .i64 ((x0.2.length:Int)+(x0.1.length:Int))<|Ah ((0:Int)<=x0.2.length+(x0.1.length:Int))<|Ah (Int.toNat ((x0.2.length:Int)+(x0.1.length:Int))<=Ak)<|Ac (idx [(List.replicate (Int.toNat ((x0.2.length:Int)+(x0.1.length:Int))) (0:Int))] (0:Int)) fun r5=>Ac (mT fu r5) fun r6=>Ah (List.length r6<=1099511627776/\0<=1099511627776)<|Ad fu (fun(z7:List (Ax×Bool)×List (List Int)) nx8=>bif decide ((0:Int)<z7.2.length)then Ab .i64 ((z7.2.length:Int)-1)<|Ac (idx z7.2 ((z7.2.length:Int)-1)) fun r9=>Ab .i64 ((z7.2.length:Int)-1)<|Ah ((0:Int)<=z7.2.length-1/\(z7.2.length:Int)-1<=z7.2.length)<|Ac (pG fu (x0,r9)) fun r10=>bif decide (r10≠1)then some false else Ac (pF fu (x0,r9)) fun r11=>Ad fu (fun(z12:List (Ax×Bool)×List (List Int)×Nat) nx13=>bif decide ((z12.2.2:Int)<r11.length)then Ac (idx r11 z12.2.2) fun r14=>Ac (pE fu (x0,r9,r14)) fun r15=>Ac (mT fu r15) fun r16=>Ah (List.length r16<=1099511627776)<|bif !Option.getD (Aq z12.1 r16) false then Ah (List.length r16<=1099511627776/\List.length z12.1<=1099511627776)<|Ah (List.length z12.2.1+1<=Ak)<|nx13 (Bk z12.1 r16 true,(z12.2.1++[r15]),z12.2.2+1)else nx13 (z12.1,z12.2.1,z12.2.2+1)else nx8 ((z12.1,z12.2.1))) ((z7.1,(List.take (Int.toNat ((z7.2.length:Int)-1)) z7.2),0))else some true) ((Bk [] r6 true,[(List.replicate (Int.toNat ((x0.2.length:Int)+(x0.1.length:Int))) (0:Int))]))) (0)
abbrev ta fu(x:_):=v8 fu x
theorem d63(fu x0):ta fu x0=v8 fu x0:=rfl
def B60:=bQ [wU,B56,B57,B58,B59] Tryz.func145 [q8] [.bool] ta (la:=lk [(2,⟨[.nat],[(1, .Aa),(13, .Aa),(14, .Aa),(15, .AK 0 200)],[(0, .c 0)],1⟩),(9,⟨[.Ae (.sl yM), .Ae q4],[(1, .Aa),(5, .Az 2),(6, .Aa)],[(3, .map 9 0),(2, .row 233 1),(0, .c 0)],4⟩),(15,⟨[.Ae (.sl yM), .Ae q4, .nat],[(1, .Aa),(5, .Az 4),(6, .Aa),(7, .Aa),(66, .Aa),(67, .Aa),(68, .AK 2 1502)],[(3, .map 9 0),(4, .row 233 1),(0, .c 0)],5⟩)])
def zq(fu:Nat):=sQ (bs [] fu) fu Tryz.func201 [(.int .u64)] [i6]
def B61(fu:Nat):=Fh (zq fu)
abbrev C6(fu:Nat)(x:(Int)):Option Int:=(zq fu).1 x
def tG(fu:Nat)(x0:Int):Option Int:=Ac (C6 fu x0) fun r1=>some r1
abbrev dP fu(x:_):=tG fu x
theorem d65(fu x0):dP fu x0=tG fu x0:=rfl
def tI:=bQ [B61] Tryz.func154 [(.int .u64)] [i6] dP
def zO(fu:Nat)(x0:Int):Option Bool:=some (decide (x0≠x0))
abbrev pD fu(x:_):=zO fu x
theorem d66(fu x0):pD fu x0=zO fu x0:=rfl
def B63:=bQ [] Tryz.func238 [i6] [.bool] pD
def tF(fu:Nat)(x0:Int)(x1:Int):Option Int:=Ac (pD fu x0) fun r1=>Ac (pD fu x1) fun r2=>bif r1 then bif r2 then some 0 else some ((-1:Int))else bif r2 then some 1 else bif decide (x0<x1)then some ((-1:Int))else bif decide (x1<x0)then some 1 else some 0
abbrev pC fu(x:_×_):=tF fu x.1 x.2
theorem d67(fu x0 x1):pC fu (x0,x1)=tF fu x0 x1:=rfl
def B64:=bQ [B63] Tryz.func175 [i6,i6] [i6] pC
def tE(fu:Nat)(x0:Int×Int)(x1:Int×Int):Option Int:=Ac (pC fu (x0.1,x1.1)) fun r1=>some r1
abbrev pB fu(x:_×_):=tE fu x.1 x.2
theorem d68(fu x0 x1):pB fu (x0,x1)=tE fu x0 x1:=rfl
def B65:=bQ [B64] Tryz.func174 [D',D'] [i6] pB
def v7(fu:Nat)(x0:Int)(x1:Int)(x2:List (Int×Int)):Option (List (Int×Int)):=Ab .i64 (x0+1)<|Ad fu (fun(z1:List (Int×Int)×Int) nx2=>bif decide (z1.2<x1)then Ad fu (fun(z3:List (Int×Int)×Int) nx4=>bif decide (x0<z3.2)then Ac (idx z3.1 z3.2) fun r5=>Ab .i64 (z3.2-1)<|Ac (idx z3.1 (z3.2-1)) fun r6=>Ac (pB fu (r5,r6)) fun r7=>bif decide (r7<0)then Ab .i64 (z3.2-1)<|Ab .i64 (z3.2-1)<|Ac (idx z3.1 (z3.2-1)) fun r8=>Ac (idx z3.1 z3.2) fun r9=>Ac (idx z3.1 z3.2) fun r10=>Ac (idx (List.set z3.1 (Int.toNat z3.2) r8) (z3.2-1)) fun r11=>Ab .i64 (z3.2-1)<|nx4 (((List.set z3.1 (Int.toNat z3.2) r8).set (Int.toNat (z3.2-1)) r9),(z3.2-1))else Ab .i64 (z1.2+1)<|nx2 (z3.1,(z1.2+1))else Ab .i64 (z1.2+1)<|nx2 ((z3.1,(z1.2+1)))) ((z1.1,z1.2))else some z1.1) ((x2,(x0+1)))
abbrev s_ fu(x:_×_×_):=v7 fu x.1 x.2.1 x.2.2
theorem d69(fu x0 x1 x2):s_ fu (x0,x1,x2)=v7 fu x0 x1 x2:=rfl
def B66:=bP [B65] Tryz.func279 ⟨[.Ae i6, .Ae i6, .Ae BJ],[(0, .Az 0),(1, .v 0 i6),(2, .v 1 i6),(3, .AA 174 [] [])],[(0, .row 68 2)],1⟩ ⟨[.Ae BJ],[],[(0, .row 68 0)],1⟩ 0 [] s_ (la:=lk [(1,⟨[.Ae BJ, .Ae i6],[(0, .Aa),(1, .Aa),(2, .Aa),(3, .Aa),(8, .v 1 i6)],[(0, .row 68 0)],1⟩),(4,⟨[.Ae BJ, .Ae i6],[(0, .Aa),(1, .Aa),(2, .Aa),(3, .Aa),(8, .Aa),(9, .v 1 i6)],[(0, .row 68 0)],1⟩)])
def tD(fu:Nat)(x0:Int)(x1:Int)(x2:Int)(x3:List (Int×Int)):Option (List (Int×Int)):=Ad fu (fun(z1:PUnit) nx2=>Ab .i64 (x1-x0)<|bif decide (x1-x0<=12)then Ac (s_ fu (x0,x1,x3)) fun r3=>some r3 else bif decide (x2=0)then none else none) (())
abbrev s9 fu(x:_×_×_×_):=tD fu x.1 x.2.1 x.2.2.1 x.2.2.2
theorem d70(fu x0 x1 x2 x3):s9 fu (x0,x1,x2,x3)=tD fu x0 x1 x2 x3:=rfl
def B67:=bP [B66] Tryz.func237 ⟨[.Ae i6, .Ae i6, .Ae i6, .Ae BJ],[(0, .Az 0),(1, .v 0 i6),(2, .v 1 i6),(3, .v 2 i6),(4, .AA 174 [] [])],[(0, .row 68 3)],1⟩ ⟨[.Ae BJ],[],[(0, .row 68 0)],1⟩ 0 [] s9 (la:=lk [(2,⟨[],[(0, .Aa),(1, .Aa),(2, .Aa),(3, .Aa),(4, .Aa),(10, .Aa),(11, .Aa)],[(0, .c 0)],1⟩)])
def tC(fu:Nat)(x0:List (Int×Int)):Option (List (Int×Int)):=Ac (dP fu (Int.ofNat (List.length x0 %Int.natAbs (18446744073709551616:Int)))) fun r1=>Ac (s9 fu (0,(x0.length:Int),r1,x0)) fun r2=>some r2
abbrev mQ fu(x:_):=tC fu x
theorem d71(fu x0):mQ fu x0=tC fu x0:=rfl
def zX:=bP [tI,B67] Tryz.func173 ⟨[.Ae BJ],[(0, .Az 0),(1, .AA 174 [] [])],[(0, .row 68 0)],1⟩ ⟨[.Ae BJ],[],[(0, .row 68 0)],1⟩ 0 [] mQ
def tB(fu:Nat)(x0:Int):Option Int:=Ab .i64 (x0+1)<|some ((x0+1))
abbrev Zo fu(x:_):=tB fu x
theorem d72(fu x0):Zo fu x0=tB fu x0:=rfl
def zW:=bQ [] Tryz.func138 [i6] [i6] Zo
end
end Go.GV
namespace Go.GV
open Go Go.GK Go.Proofs
noncomputable section
def tA(fu:Nat)(x0:List (Int×Int)):Option (List (Int×Int)):=Ah (List.length x0<=Ak)<|Ah (min (List.length x0) (List.length (List.replicate (List.length x0) ((0:Int),(0:Int))))<=1099511627776)<|Ac (mQ fu (((List.take (min (List.length x0) (List.length (List.replicate (List.length x0) ((0:Int),(0:Int))))) x0)++(List.drop (min (List.length x0) (List.length (List.replicate (List.length x0) ((0:Int),(0:Int))))) (List.replicate (List.length x0) ((0:Int),(0:Int))))))) fun r1=>Ad fu (fun(z2:List (Int×Int)×Nat) nx3=>bif decide ((z2.2:Int)<r1.length)then Ac (idx r1 z2.2) fun r4=>bif decide ((0:Int)<z2.1.length)then Ab .i64 ((z2.1.length:Int)-1)<|Ac (idx z2.1 ((z2.1.length:Int)-1)) fun r5=>Ac (Zo fu r5.2) fun r6=>bif decide (r4.1<=r6)then Ab .i64 ((z2.1.length:Int)-1)<|Ab .i64 ((z2.1.length:Int)-1)<|Ac (idx z2.1 ((z2.1.length:Int)-1)) fun r7=>Ab .i64 (if r4.2>r7.2 then r4.2 else r7.2)<|Ac (idx z2.1 ((z2.1.length:Int)-1)) fun r8=>nx3 ((z2.1.set (Int.toNat ((z2.1.length:Int)-1)) (r8.1,(if r7.2<r4.2 then r4.2 else r7.2))),z2.2+1)else Ah (List.length z2.1+1<=Ak)<|nx3 ((z2.1++[r4]),z2.2+1)else Ah (List.length z2.1+1<=Ak)<|nx3 ((z2.1++[r4]),z2.2+1)else some z2.1) (([],0))
abbrev pz fu(x:_):=tA fu x
theorem d73(fu x0):pz fu x0=tA fu x0:=rfl
def B70:=bP [zW,zX] Tryz.func137 ⟨[.Ae BJ],[(0, .v 0 BJ),(1, .AA 138 [] [])],[],0⟩ ⟨[.Ae BJ],[(0, .v 0 BJ)],[],0⟩ 1 [] pz (la:=lk [(6,⟨[.Ae BJ, .nat],[(1, .Aa),(6, .Az 1),(18, .Aa),(19, .Aa),(20, .AK 1 601)],[(0, .c 0),(1, .row 68 0)],2⟩)]) (pt:=lg [(5,[.own 6 68 D']),(13,[.fz 4])])
def pS(fu:Nat)(x0:Int):Option Int:=Ab .i64 (x0+1)<|Ah ((10000:Int)≠0)<|Ab .i64 (Int.tmod (x0+1) (10000:Int))<|bif decide (Int.tmod (x0+1) (10000:Int)=0)then Ab .i64 (x0+2)<|some ((x0+2))else Ab .i64 (x0+1)<|some ((x0+1))
abbrev Zn fu(x:_):=pS fu x
theorem d74(fu x0):Zn fu x0=pS fu x0:=rfl
def zV:=bQ [] Tryz.func139 [i6] [i6] Zn
def tz(fu:Nat)(x0:List (Int×Int)):Option (List (Int×Int)):=Ah (List.length x0<=Ak)<|Ah (min (List.length x0) (List.length (List.replicate (List.length x0) ((0:Int),(0:Int))))<=1099511627776)<|Ac (mQ fu (((List.take (min (List.length x0) (List.length (List.replicate (List.length x0) ((0:Int),(0:Int))))) x0)++(List.drop (min (List.length x0) (List.length (List.replicate (List.length x0) ((0:Int),(0:Int))))) (List.replicate (List.length x0) ((0:Int),(0:Int))))))) fun r1=>Ad fu (fun(z2:List (Int×Int)×Nat) nx3=>bif decide ((z2.2:Int)<r1.length)then Ac (idx r1 z2.2) fun r4=>bif decide ((0:Int)<z2.1.length)then Ab .i64 ((z2.1.length:Int)-1)<|Ac (idx z2.1 ((z2.1.length:Int)-1)) fun r5=>Ac (Zn fu r5.2) fun r6=>bif decide (r4.1<=r6)then Ab .i64 ((z2.1.length:Int)-1)<|Ab .i64 ((z2.1.length:Int)-1)<|Ac (idx z2.1 ((z2.1.length:Int)-1)) fun r7=>Ab .i64 (if r4.2>r7.2 then r4.2 else r7.2)<|Ac (idx z2.1 ((z2.1.length:Int)-1)) fun r8=>nx3 ((z2.1.set (Int.toNat ((z2.1.length:Int)-1)) (r8.1,(if r7.2<r4.2 then r4.2 else r7.2))),z2.2+1)else Ah (List.length z2.1+1<=Ak)<|nx3 ((z2.1++[r4]),z2.2+1)else Ah (List.length z2.1+1<=Ak)<|nx3 ((z2.1++[r4]),z2.2+1)else some z2.1) (([],0))
abbrev pw fu(x:_):=tz fu x
theorem d75(fu x0):pw fu x0=tz fu x0:=rfl
def B72:=bP [zV,zX] Tryz.func137 ⟨[.Ae BJ],[(0, .v 0 BJ),(1, .AA 139 [] [])],[],0⟩ ⟨[.Ae BJ],[(0, .v 0 BJ)],[],0⟩ 1 [] pw (la:=lk [(6,⟨[.Ae BJ, .nat],[(1, .Aa),(6, .Az 1),(18, .Aa),(19, .Aa),(20, .AK 1 601)],[(0, .c 0),(1, .row 68 0)],2⟩)]) (pt:=lg [(5,[.own 6 68 D']),(13,[.fz 4])])
def tx(fu:Nat)(x0:CA):Option CA:=Ad fu (fun(z1:List (Int×Int)×Nat) nx2=>bif decide ((z1.2:Int)<x0.1.length)then Ac (idx x0.1 z1.2) fun r3=>Ab .i64 (if(-100000000000:Int)>r3.1 then(-100000000000:Int)else r3.1)<|Ab .i64 (if(100000000000:Int)<r3.2 then(100000000000:Int)else r3.2)<|bif decide ((if r3.1<(-100000000000:Int)then(-100000000000:Int)else r3.1)<=(if(100000000000:Int)<r3.2 then(100000000000:Int)else r3.2))then Ah (List.length z1.1+1<=Ak)<|nx2 ((z1.1++[((if r3.1<(-100000000000:Int)then(-100000000000:Int)else r3.1),(if(100000000000:Int)<r3.2 then(100000000000:Int)else r3.2))]),z1.2+1)else nx2 (z1.1,z1.2+1)else Ad fu (fun(z4:List (Int×Int)×Nat) nx5=>bif decide ((z4.2:Int)<x0.2.length)then Ac (idx x0.2 z4.2) fun r6=>Ab .i64 (if(-1000000000000000:Int)>r6.1 then(-1000000000000000:Int)else r6.1)<|Ab .i64 (if(1000000000000000:Int)<r6.2 then(1000000000000000:Int)else r6.2)<|Ah ((10000:Int)≠0)<|Ab .i64 (Int.tmod ((if r6.1<(-1000000000000000:Int)then(-1000000000000000:Int)else r6.1)) (10000:Int))<|bif decide (Int.tmod ((if r6.1<(-1000000000000000:Int)then(-1000000000000000:Int)else r6.1)) (10000:Int)=0)then Ab .i64 ((if r6.1<(-1000000000000000:Int)then(-1000000000000000:Int)else r6.1)+1)<|Ah ((10000:Int)≠0)<|Ab .i64 (Int.tmod ((if(1000000000000000:Int)<r6.2 then(1000000000000000:Int)else r6.2)) (10000:Int))<|bif decide (Int.tmod ((if(1000000000000000:Int)<r6.2 then(1000000000000000:Int)else r6.2)) (10000:Int)=0)then Ab .i64 ((if(1000000000000000:Int)<r6.2 then(1000000000000000:Int)else r6.2)-1)<|bif decide ((((if r6.1<(-1000000000000000:Int)then(-1000000000000000:Int)else r6.1))+1)<=(((if(1000000000000000:Int)<r6.2 then(1000000000000000:Int)else r6.2))-1))then Ah (List.length z4.1+1<=Ak)<|nx5 ((z4.1++[((((if r6.1<(-1000000000000000:Int)then(-1000000000000000:Int)else r6.1))+1),(((if(1000000000000000:Int)<r6.2 then(1000000000000000:Int)else r6.2))-1))]),z4.2+1)else nx5 (z4.1,z4.2+1)else bif decide ((((if r6.1<(-1000000000000000:Int)then(-1000000000000000:Int)else r6.1))+1)<=(if(1000000000000000:Int)<r6.2 then(1000000000000000:Int)else r6.2))then Ah (List.length z4.1+1<=Ak)<|nx5 ((z4.1++[((((if r6.1<(-1000000000000000:Int)then(-1000000000000000:Int)else r6.1))+1),(if(1000000000000000:Int)<r6.2 then(1000000000000000:Int)else r6.2))]),z4.2+1)else nx5 (z4.1,z4.2+1)else Ah ((10000:Int)≠0)<|Ab .i64 (Int.tmod ((if(1000000000000000:Int)<r6.2 then(1000000000000000:Int)else r6.2)) (10000:Int))<|bif decide (Int.tmod ((if(1000000000000000:Int)<r6.2 then(1000000000000000:Int)else r6.2)) (10000:Int)=0)then Ab .i64 ((if(1000000000000000:Int)<r6.2 then(1000000000000000:Int)else r6.2)-1)<|bif decide ((if r6.1<(-1000000000000000:Int)then(-1000000000000000:Int)else r6.1)<=(((if(1000000000000000:Int)<r6.2 then(1000000000000000:Int)else r6.2))-1))then Ah (List.length z4.1+1<=Ak)<|nx5 ((z4.1++[((if r6.1<(-1000000000000000:Int)then(-1000000000000000:Int)else r6.1),(((if(1000000000000000:Int)<r6.2 then(1000000000000000:Int)else r6.2))-1))]),z4.2+1)else nx5 (z4.1,z4.2+1)else bif decide ((if r6.1<(-1000000000000000:Int)then(-1000000000000000:Int)else r6.1)<=(if(1000000000000000:Int)<r6.2 then(1000000000000000:Int)else r6.2))then Ah (List.length z4.1+1<=Ak)<|nx5 ((z4.1++[((if r6.1<(-1000000000000000:Int)then(-1000000000000000:Int)else r6.1),(if(1000000000000000:Int)<r6.2 then(1000000000000000:Int)else r6.2))]),z4.2+1)else nx5 (z4.1,z4.2+1)else Ac (pz fu z1.1) fun r7=>Ac (pw fu z4.1) fun r8=>some ((r7,r8))) (([],0))) (([],0))
abbrev RM fu(x:_):=tx fu x
theorem d76(fu x0):RM fu x0=tx fu x0:=rfl
def rp:=bQ [B70,B72] Tryz.func90 [K7] [K7] RM (la:=lk [(3,⟨[.Ae BJ, .nat],[(1, .Aa),(2, .Aa),(3, .Az 2),(4, .Aa),(10, .Aa),(11, .Aa),(12, .AK 1 301)],[(1, .c 0),(0, .c 0),(2, .row 68 0)],3⟩),(10,⟨[.Ae BJ, .nat],[(2, .Aa),(3, .Aa),(4, .Az 3),(34, .Aa),(35, .Aa),(36, .AK 1 1001)],[(2, .c 0),(1, .c 0),(3, .row 68 0)],4⟩)]) (pr:=lg [(20,[.fz 3, .fz 4])]) (pt:=lg [(2,[.own 3 68 D']),(9,[.own 4 68 D'])])
def tw(fu:Nat)(x0:List (Int×Int))(x1:List (Int×Int)):Option Bool:=bif decide ((x0.length:Int)≠x1.length)then some false else Ad fu (fun(z1:Nat) nx2=>bif decide ((z1:Int)<x0.length)then Ac (idx x0 z1) fun r3=>Ac (idx x1 z1) fun r4=>bif !decide (r3.1::[r3.2]=r4.1::[r4.2])then some false else nx2 (z1+1)else some true) (0)
abbrev jI fu(x:_×_):=tw fu x.1 x.2
theorem d77(fu x0 x1):jI fu (x0,x1)=tw fu x0 x1:=rfl
def zU:=bQ [] Tryz.func68 [BJ,BJ] [.bool] jI (la:=lk [(4,⟨[.nat],[(0, .Aa),(1, .Aa),(12, .Aa),(13, .AK 0 400)],[],0⟩)])
def vZ(fu:Nat)(x0:CA)(x1:CA):Option Bool:=Ac (jI fu (x0.1,x1.1)) fun r1=>bif r1 then Ac (jI fu (x0.2,x1.2)) fun r2=>some r2 else some false
abbrev s7 fu(x:_×_):=vZ fu x.1 x.2
theorem d78(fu x0 x1):s7 fu (x0,x1)=vZ fu x0 x1:=rfl
def B75:=bQ [zU] Tryz.func171 [K7,K7] [.bool] s7
def vY(fu:Nat)(x0:CA):Option Bool:=Ac (RM fu x0) fun r1=>Ac (s7 fu (x0,r1)) fun r2=>some r2
abbrev s6 fu(x:_):=vY fu x
theorem d79(fu x0):s6 fu x0=vY fu x0:=rfl
def B76:=bQ [rp,B75] Tryz.func135 [K7] [.bool] s6
def vX(fu:Nat)(x0:Gy):Option Bool:=Ac (s6 fu x0.2.2.2.1) fun r1=>bif r1 then Ac (mU fu x0.2.2.2.2) fun r2=>some r2 else some false
abbrev dO fu(x:_):=vX fu x
theorem d80(fu x0):dO fu x0=vX fu x0:=rfl
def wT:=bQ [B76,wU] Tryz.func89 [y8] [.bool] dO
def vW(fu:Nat)(x0:Vl):Option Bool:=bif Vl.any x0 then Ac (pK fu (Vl.sc x0)) fun r1=>bif r1 then Ab .i64 (((Vl.lists x0).length:Int)+((Vl.structs x0).length:Int))<|some (decide ((((Vl.lists x0).length:Int)+((Vl.structs x0).length:Int))=0))else some false else Ad fu (fun(z2:Nat) nx3=>bif decide ((z2:Int)<(Vl.lists x0).length)then Ac (idx (Vl.lists x0) (z2:Int)) fun r4=>bif decide ((1:Int)<r4.2.length)then some false else nx3 (z2+1)else Ad fu (fun(z5:Nat) nx6=>bif decide ((z5:Int)<(Vl.structs x0).length)then Ac (idx (Vl.structs x0) (z5:Int)) fun r7=>Ac (tu fu r7.1) fun r8=>bif !r8 then some false else Ac (ta fu r7) fun r9=>bif !r9 then some false else nx6 (z5+1)else Ac (dO fu (Vl.sc x0)) fun r10=>some r10) (0)) (0)
abbrev pv fu(x:_):=vW fu x
theorem d81(fu x0):pv fu x0=vW fu x0:=rfl
def zT:=bQ [zZ,wT,B36,B60] Tryz.func109 [(.nm 0)] [.bool] pv (la:=lk [(4,⟨[.nat],[(1, .Aa),(23, .Aa),(24, .Aa),(25, .AK 0 400)],[(0, .c 0)],1⟩),(10,⟨[.nat],[(1, .Aa),(35, .Aa),(36, .Aa),(37, .AK 0 1000)],[(0, .c 0)],1⟩)])
def vV(fu:Nat)(x0:Int):Option (List AD):=bif decide (x0<0)then none else Ab .i64 ((↑0:Int)-(↑0:Int))<|Ab .i64 (x0-((↑0:Int)-(↑0:Int)))<|bif decide ((0:Int)<x0-((↑0:Int)-(↑0:Int)))then Ah ((0:Int)<=x0-((↑0:Int)-(↑0:Int)))<|XT (Int.toNat (x0-((↑0:Int)-(↑0:Int)))) (none) fun n1=>Ah (n1+1<=4294967296)<|Ah ((0:Int)<= ↑0/\(↑0:Int)<=((List.replicate (n1+1) (Vl.mk false (false,false,false,([],[]),[]) [] [],Vl.mk false (false,false,false,([],[]),[]) [] [])).length:Int))<|some []else some []
abbrev s5 fu(x:_):=vV fu x
theorem d82(fu x0):s5 fu x0=vV fu x0:=rfl
def B79:=bP [] Tryz.func107 ⟨[.Ae i6],[(0, .nl),(1, .v 0 i6)],[],0⟩ ⟨[.Ae Jf],[(0, .Az 0)],[(0, .row 35 0)],1⟩ 1 [] s5 (pt:=lg [(6,[.own 4 35 BD])])
def vU(fu:Nat)(x0:List (List AD)):Option (List AD):=Ad fu (fun(z1:Int×Nat) nx2=>bif decide ((z1.2:Int)<x0.length)then Ac (idx x0 z1.2) fun r3=>Ab .i64 (z1.1+(r3.length:Int))<|bif decide (z1.1+(r3.length:Int)<0)then none else nx2 ((z1.1+(r3.length:Int)),z1.2+1)else Ac (s5 fu z1.1) fun r4=>Ad fu (fun(z5:List AD×Nat) nx6=>bif decide ((z5.2:Int)<x0.length)then Ac (idx x0 z5.2) fun r7=>Ah (List.length z5.1+List.length r7<=4294967296)<|nx6 ((z5.1++r7),z5.2+1)else some z5.1) ((r4,0))) ((0,0))
abbrev pq fu(x:_):=vU fu x
theorem d83(fu x0):pq fu x0=vU fu x0:=rfl
def B80:=bQ [B79] Tryz.func70 [y21] [Jf] pq (la:=lk [(3,⟨[.Ae i6, .nat],[(0, .Aa),(3, .v 0 i6),(9, .Aa),(10, .Aa),(11, .AK 1 301)],[],0⟩),(11,⟨[.Ae Jf, .nat],[(6, .Az 0),(25, .Aa),(26, .Aa),(27, .AK 1 1101)],[(0, .row 35 0)],1⟩)]) (pt:=lg [(15,[.fz 2])])
def vT(fu:Nat)(x0:BK):Option (List AD):=Ac (pq fu [x0.1,x0.2]) fun r1=>some r1
abbrev Wr fu(x:_):=vT fu x
theorem d84(fu x0):Wr fu x0=vT fu x0:=rfl
def wS:=bQ [B80] Tryz.func52 [Cn] [Jf] Wr
def vS(fu:Nat)(x0:Bp):Option (List AD):=Ad fu (fun(z1:List AD×Nat) nx2=>bif decide ((z1.2:Int)<x0.1.length)then Ac (idx x0.1 z1.2) fun r3=>Ah (List.length z1.1+1<=4294967296)<|nx2 ((z1.1++[r3.2.2]),z1.2+1)else Ad fu (fun(z4:List AD×Nat) nx5=>bif decide ((z4.2:Int)<x0.2.length)then Ac (idx x0.2 z4.2) fun r6=>Ah (List.length z4.1+1<=4294967296)<|nx5 ((z4.1++[r6.2]),z4.2+1)else some z4.1) ((z1.1,0))) (([],0))
abbrev pn fu(x:_):=vS fu x
theorem d85(fu x0):pn fu x0=vS fu x0:=rfl
def B82:=bQ [] Tryz.func146 [q8] [Jf] pn (la:=lk [(3,⟨[.Ae Jf, .nat],[(1, .Aa),(3, .Az 1),(9, .Aa),(10, .Aa),(11, .AK 1 301)],[(0, .c 0),(1, .row 35 0)],2⟩),(8,⟨[.Ae Jf, .nat],[(3, .Az 1),(22, .Aa),(23, .Aa),(24, .AK 1 801)],[(1, .row 35 0)],2⟩)]) (pt:=lg [(2,[.own 3 35 BD]),(12,[.fz 2])])
def vR(fu:Nat)(x0:Vl):Option (List AD):=Ad fu (fun(z1:List AD×Nat) nx2=>bif decide ((z1.2:Int)<(Vl.lists x0).length)then Ac (idx (Vl.lists x0) (z1.2:Int)) fun r3=>Ac (Wr fu r3) fun r4=>Ah (List.length z1.1+List.length r4<=4294967296)<|nx2 ((z1.1++r4),z1.2+1)else Ad fu (fun(z5:List AD×Nat) nx6=>bif decide ((z5.2:Int)<(Vl.structs x0).length)then Ac (idx (Vl.structs x0) (z5.2:Int)) fun r7=>Ac (pn fu r7) fun r8=>Ah (List.length z5.1+List.length r8<=4294967296)<|nx6 ((z5.1++r8),z5.2+1)else some z5.1) ((z1.1,0))) (([],0))
abbrev pk fu(x:_):=vR fu x
theorem d86(fu x0):pk fu x0=vR fu x0:=rfl
def zS:=bQ [wS,B82] Tryz.func110 [(.nm 0)] [Jf] pk (la:=lk [(3,⟨[.Ae Jf, .nat],[(1, .Aa),(3, .Az 1),(9, .Aa),(10, .Aa),(11, .AK 1 301)],[(0, .c 0),(1, .row 35 0)],2⟩),(8,⟨[.Ae Jf, .nat],[(3, .Az 1),(21, .Aa),(22, .Aa),(23, .AK 1 801)],[(1, .row 35 0)],2⟩)]) (pt:=lg [(2,[.own 3 35 BD]),(12,[.fz 2])])
def vQ(fu:Nat)(x0:Int)(x1:Int)(x2:Int)(x3:Bool):Option (Int×Int×Bool):=Ab .i64 (x1+1)<|Ab .i64 (if x0>x2 then x0 else x2)<|some (((x1+1),(if x2<x0 then x0 else x2),x3))
abbrev s4 fu(x:_×_×_×_):=vQ fu x.1 x.2.1 x.2.2.1 x.2.2.2
theorem d87(fu x0 x1 x2 x3):s4 fu (x0,x1,x2,x3)=vQ fu x0 x1 x2 x3:=rfl
def B84:=bP [] Tryz.func108 ⟨[.Ae i6, .Ae i6, .Ae i6, .Ae .bool],[(0, .loc 0 0),(1, .v 0 i6)],[(0, .Af 116 [(1, .v 1 i6),(1, .v 2 i6),(1, .v 3 .bool)])],1⟩ ⟨[.Ae i6, .Ae i6, .Ae .bool],[],[(0, .Af 116 [(1, .v 0 i6),(1, .v 1 i6),(1, .v 2 .bool)])],1⟩ 0 [] s4
def nH:AY:=⟨[.Ae (.nm 0), .Ae i6, .Ae i6, .Ae i6, .Ae .bool],[(0, .loc 0 0),(1, .v 0 (.nm 0)),(2, .v 1 i6)],[(0, .Af 116 [(1, .v 2 i6),(1, .v 3 i6),(1, .v 4 .bool)])],1⟩
def nD:AY:=⟨[.Ae i6, .Ae i6, .Ae .bool],[],[(0, .Af 116 [(1, .v 0 i6),(1, .v 1 i6),(1, .v 2 .bool)])],1⟩
abbrev pf:Type:=FP 75 nH nD 0 []
def zu(n:Nat):pf:=Nat.rec (motive:=fun _=>pf) (tP Tryz.func75) (fun fu g=>sP (Cu (g)::bs [B84,zT,zS] fu) fu Tryz.func75 nH nD 0 [] (la:=lk [(5,⟨[.Ae i6, .Ae i6, .Ae .bool, .nat],[(0, .Aa),(2, .Aa),(24, .Aa),(25, .Aa),(26, .AK 3 503)],[(0, .Af 116 [(1, .v 0 i6),(1, .v 1 i6),(1, .v 2 .bool)])],2⟩)])) n
def B85(fu:Nat):=Cu (zu fu)
abbrev jH(fu:Nat)(x:(Vl)×(Int)×(Int)×(Int)×(Bool)):Option (Int×Int×Bool):=(zu fu).1 x
def zN(fu:Nat)(x0:Vl)(x1:Int)(x2:Int)(x3:Int)(x4:Bool):Option (Int×Int×Bool):=Ac (s4 fu (x1,x2,x3,x4)) fun r1=>bif decide ((16:Int)<x1)then some ((r1.1,r1.2.1,true))else Ac (pv fu x0) fun r2=>bif !r2 then some ((r1.1,r1.2.1,true))else Ac (pk fu x0) fun r3=>Ad fu (fun(z4:Int×Int×Bool×Nat) nx5=>bif decide ((z4.2.2.2:Int)<r3.length)then Ac (idx r3 z4.2.2.2) fun r6=>Ab .i64 (x1+1)<|Ac (jH fu (r6.1,(x1+1),z4.1,z4.2.1,z4.2.2.1)) fun r7=>Ab .i64 (x1+1)<|Ac (jH fu (r6.2,(x1+1),r7.1,r7.2.1,r7.2.2)) fun r8=>nx5 (r8.1,r8.2.1,r8.2.2,z4.2.2.2+1)else some ((z4.1,z4.2.1,z4.2.2.1))) ((r1.1,r1.2.1,r1.2.2,0))
theorem d88(fu x0 x1 x2 x3 x4):jH (fu+1) (x0,x1,x2,x3,x4)=zN fu x0 x1 x2 x3 x4:=by kernel_rfl
def vP(fu:Nat)(x0:Vl)(x1:Int)(x2:(Int×Int)×Bool):Option (Int×Int×Bool):=Ac (tv fu (x1,x2)) fun r1=>bif decide ((16:Int)<x1)then some ((r1.1,r1.2.1,true))else Ac (pv fu x0) fun r2=>bif !r2 then some ((r1.1,r1.2.1,true))else Ac (pk fu x0) fun r3=>Ad fu (fun(z4:Int×Int×Bool×Nat) nx5=>bif decide ((z4.2.2.2:Int)<r3.length)then Ac (idx r3 z4.2.2.2) fun r6=>Ab .i64 (x1+1)<|Ac (jH fu (r6.1,(x1+1),z4.1,z4.2.1,z4.2.2.1)) fun r7=>Ab .i64 (x1+1)<|Ac (jH fu (r6.2,(x1+1),r7.1,r7.2.1,r7.2.2)) fun r8=>nx5 (r8.1,r8.2.1,r8.2.2,z4.2.2.2+1)else some ((z4.1,z4.2.1,z4.2.2.1))) ((r1.1,r1.2.1,r1.2.2,0))
abbrev pj fu(x:_×_×_):=vP fu x.1 x.2.1 x.2.2
theorem d89(fu x0 x1 x2):pj fu (x0,x1,x2)=vP fu x0 x1 x2:=rfl
def B86:=bP [B85,B34,zT,zS] Tryz.func75 ⟨[.Ae (.nm 0), .Ae i6, .Ae (.st rP)],[(0, .loc 0 0),(1, .v 0 (.nm 0)),(2, .v 1 i6)],[(0, .Af 116 [(3, .v 2 (.st rP))])],1⟩ ⟨[.Ae i6, .Ae i6, .Ae .bool],[],[(0, .Af 116 [(1, .v 0 i6),(1, .v 1 i6),(1, .v 2 .bool)])],1⟩ 0 [] pj (la:=lk [(5,⟨[.Ae i6, .Ae i6, .Ae .bool, .nat],[(0, .Aa),(2, .Aa),(24, .Aa),(25, .Aa),(26, .AK 3 503)],[(0, .Af 116 [(1, .v 0 i6),(1, .v 1 i6),(1, .v 2 .bool)])],2⟩)])
def vO(fu:Nat)(x0:Vl):Option (Int×Int×Bool):=Ac (pj fu (x0,1,(0,0),false)) fun r1=>some ((r1.1,r1.2.1,r1.2.2))
abbrev sZ fu(x:_):=vO fu x
theorem d90(fu x0):sZ fu x0=vO fu x0:=rfl
def B87:=bP [B86] Tryz.func54 ⟨[.Ae (.nm 0)],[(0, .v 0 (.nm 0))],[],0⟩ ⟨[.Ae i6, .Ae i6, .Ae .bool],[(0, .loc 0 0)],[(0, .Af 116 [(1, .v 0 i6),(1, .v 1 i6),(1, .v 2 .bool)])],1⟩ 1 [] sZ
def vN(fu:Nat)(x0:Vl):Option Bool:=Ac (sZ fu x0) fun r1=>some ((!r1.2.2))
abbrev jG fu(x:_):=vN fu x
theorem d91(fu x0):jG fu x0=vN fu x0:=rfl
def zR:=bQ [B87] Tryz.func43 [(.nm 0)] [.bool] jG
def vM(fu:Nat)(x0:AD):Option Bool:=Ac (jG fu x0.1) fun r1=>bif r1 then Ac (jG fu x0.2) fun r2=>some r2 else some false
abbrev ph fu(x:_):=vM fu x
theorem d92(fu x0):ph fu x0=vM fu x0:=rfl
def zQ:=bQ [zR] Tryz.func28 [BD] [.bool] ph
def vL(fu:Nat)(x0:Gy):Option Gy:=Ac (dO fu x0) fun r1=>bif !r1 then some ((false,false,false,([],[]),[]))else some x0
abbrev Zm fu(x:_):=vL fu x
theorem d93(fu x0):Zm fu x0=vL fu x0:=rfl
def wR:=bQ [wT] Tryz.func57 [y8] [y8] Zm
def vK(fu:Nat)(x0:Bool)(x1:Bool):Option Bool:=bif x0 then some true else some x1
abbrev mP fu(x:_×_):=vK fu x.1 x.2
theorem d94(fu x0 x1):mP fu (x0,x1)=vK fu x0 x1:=rfl
def B91:=bQ [] Tryz.func148 [.bool, .bool] [.bool] mP
def vJ(fu:Nat)(x0:Int):Option (List (Int×Int)):=bif decide (x0<0)then none else Ab .i64 ((↑0:Int)-(↑0:Int))<|Ab .i64 (x0-((↑0:Int)-(↑0:Int)))<|bif decide ((0:Int)<x0-((↑0:Int)-(↑0:Int)))then Ah ((0:Int)<=x0-((↑0:Int)-(↑0:Int)))<|XT (Int.toNat (x0-((↑0:Int)-(↑0:Int)))) (none) fun n1=>Ah (n1+1<=Ak)<|Ah ((0:Int)<= ↑0/\(↑0:Int)<=((List.replicate (n1+1) ((0:Int),(0:Int))).length:Int))<|some []else some []
abbrev sY fu(x:_):=vJ fu x
theorem d95(fu x0):sY fu x0=vJ fu x0:=rfl
def B92:=bP [] Tryz.func242 ⟨[.Ae i6],[(0, .nl),(1, .v 0 i6)],[],0⟩ ⟨[.Ae BJ],[(0, .Az 0)],[(0, .row 68 0)],1⟩ 1 [] sY (pt:=lg [(6,[.own 4 68 D'])])
def vI(fu:Nat)(x0:List (List (Int×Int))):Option (List (Int×Int)):=Ad fu (fun(z1:Int×Nat) nx2=>bif decide ((z1.2:Int)<x0.length)then Ac (idx x0 z1.2) fun r3=>Ab .i64 (z1.1+(r3.length:Int))<|bif decide (z1.1+(r3.length:Int)<0)then none else nx2 ((z1.1+(r3.length:Int)),z1.2+1)else Ac (sY fu z1.1) fun r4=>Ad fu (fun(z5:List (Int×Int)×Nat) nx6=>bif decide ((z5.2:Int)<x0.length)then Ac (idx x0 z5.2) fun r7=>Ah (List.length z5.1+List.length r7<=Ak)<|nx6 ((z5.1++r7),z5.2+1)else some z5.1) ((r4,0))) ((0,0))
abbrev jF fu(x:_):=vI fu x
theorem d96(fu x0):jF fu x0=vI fu x0:=rfl
def B93:=bQ [B92] Tryz.func185 [y23] [BJ] jF (la:=lk [(3,⟨[.Ae i6, .nat],[(0, .Aa),(3, .v 0 i6),(9, .Aa),(10, .Aa),(11, .AK 1 301)],[],0⟩),(11,⟨[.Ae BJ, .nat],[(6, .Az 0),(25, .Aa),(26, .Aa),(27, .AK 1 1101)],[(0, .row 68 0)],1⟩)]) (pt:=lg [(15,[.fz 2])])
def vH(fu:Nat)(x0:CA)(x1:CA):Option CA:=Ac (jF fu [x0.1,x1.1]) fun r1=>Ac (jF fu [x0.2,x1.2]) fun r2=>Ac (RM fu (r1,r2)) fun r3=>some r3
abbrev sX fu(x:_×_):=vH fu x.1 x.2
theorem d97(fu x0 x1):sX fu (x0,x1)=vH fu x0 x1:=rfl
def B94:=bQ [rp,B93] Tryz.func149 [K7,K7] [K7] sX
def vG(fu:Nat)(x0:AW):Option AW:=Ac (mU fu x0) fun r1=>bif !r1 then some []else some x0
abbrev I8 fu(x:_):=vG fu x
theorem d98(fu x0):I8 fu x0=vG fu x0:=rfl
def mh:=bQ [wU] Tryz.func141 [y3] [y3] I8
def zo(fu:Nat):=sP (bs [] fu) fu Tryz.func186 ⟨[.Ae Si],[(0, .v 0 Si)],[],0⟩ ⟨[.Ae Si],[(0, .Az 0)],[(0, .row 92 0)],1⟩ 1 [] (pt:=lg [(2,[.own 2 92 q6])])
def B96(fu:Nat):=Cu (zo fu)
abbrev sW(fu:Nat)(x:List (Int×Int×Int)):Option (List (Int×Int×Int)):=(zo fu).1 x
theorem uQ(fu:Nat):sW fu []=some []:=by kernel_rfl
theorem uR(fu:Nat)(x:Int×Int×Int)(l:List (Int×Int×Int)):sW fu (x::l)=Ah (0+(x::l).length<=Ak) (some (x::l)):=by kernel_rfl
def mg(fu:Nat)(x0:AW):Option AW:=Ad fu (fun(z1:AW×Nat) nx2=>bif decide ((z1.2:Int)<x0.length)then Ac (idx x0 z1.2) fun r3=>Ac (sW fu r3.2) fun r4=>Ah (List.length z1.1+1<=Ak)<|nx2 ((z1.1++[(r3.1,r4)]),z1.2+1)else some z1.1) (([],0))
abbrev Qh fu(x:_):=mg fu x
theorem d100(fu x0):Qh fu x0=mg fu x0:=rfl
def zP:=bQ [B96] Tryz.func150 [y3] [y3] Qh (la:=lk [(3,⟨[.Ae Hb, .nat],[(2, .Aa),(3, .Aa),(7, .Aa),(8, .Aa),(9, .AK 1 301)],[(2, .Af 27 [(1, .Az 3)]),(1, .c 0),(3, .row 95 0)],4⟩)]) (pt:=lg [(2,[.DD 3 0 95 q9]),(7,[.Nd 2 0])])
def mf(fu:Nat)(x0:AW)(x1:Int):Option Bool:=bif decide ((0:Int)<=x1)then bif decide (x1<(x0.length:Int))then Ac (idx x0 x1) fun r1=>some r1.1 else some false else some false
abbrev KY fu(x:_×_):=mf fu x.1 x.2
theorem d101(fu x0 x1):KY fu (x0,x1)=mf fu x0 x1:=rfl
def wP:=bQ [] Tryz.func189 [y3,i6] [.bool] KY
def me(fu:Nat)(x0:Bool)(x1:Bool):Option Bool:=bif x0 then some true else some x1
abbrev aD fu(x:_×_):=me fu x.1 x.2
theorem d102(fu x0 x1):aD fu (x0,x1)=me fu x0 x1:=rfl
def B99:=bQ [] Tryz.func152 [.bool, .bool] [.bool] aD
def mc(fu:Nat)(x0:AW)(x1:Int)(x2:List Bool):Option (List Bool):=bif decide (x1<0)then some x2 else bif decide ((x0.length:Int)<=x1)then some x2 else Ac (idx x0 x1) fun r1=>Ad fu (fun(z2:List Bool×Nat) nx3=>bif decide ((z2.2:Int)<r1.2.length)then Ac (idx r1.2 z2.2) fun r4=>Ah ((0:Int)<=r4.1/\r4.1<(↑256:Int))<|Ah (0+Int.toNat r4.1*1<256)<|bif decide (r4.2.1<255)then Ab .u8 (r4.2.1+1)<|Ah ((0:Int)<=r4.2.1+1/\r4.2.1+1< ↑256)<|Ah (0+Int.toNat (r4.2.1+1)*1<256)<|nx3 (((List.set z2.1 (0+Int.toNat r4.1*1) true).set (0+Int.toNat (r4.2.1+1)*1) true),z2.2+1)else nx3 ((z2.1.set (0+Int.toNat r4.1*1) true),z2.2+1)else some z2.1) ((x2,0))
abbrev I_ fu(x:_×_×_):=mc fu x.1 x.2.1 x.2.2
theorem d103(fu x0 x1 x2):I_ fu (x0,x1,x2)=mc fu x0 x1 x2:=rfl
def my:=bP [] Tryz.func190 ⟨[.Ae y3, .Ae i6, .Ae (.ar 256 .bool)],[(0, .v 0 y3),(1, .v 1 i6),(2, .loc 0 0)],[(0, .Af 248 [(256, .v 2 (.ar 256 .bool))])],1⟩ ⟨[.Ae (.ar 256 .bool)],[],[(0, .Af 248 [(256, .v 0 (.ar 256 .bool))])],1⟩ 0 [] I_ (la:=lk [(3,⟨[.Ae (.ar 256 .bool), .nat],[(2, .Aa),(22, .Aa),(23, .Aa),(24, .AK 1 301)],[(0, .Af 248 [(256, .v 0 (.ar 256 .bool))])],2⟩)])
def mb(fu:Nat)(x0:AW)(x1:Int)(x2:Int):Option Int:=bif decide (x1<0)then some ((-1:Int))else bif decide ((x0.length:Int)<=x1)then some ((-1:Int))else Ac (idx x0 x1) fun r1=>Ad fu (fun(z2:Nat) nx3=>bif decide ((z2:Int)<r1.2.length)then Ac (idx r1.2 z2) fun r4=>bif decide (r4.1<=x2)then bif decide (x2<=r4.2.1)then some r4.2.2 else nx3 (z2+1)else nx3 (z2+1)else some ((-1:Int))) (0)
abbrev KX fu(x:_×_×_):=mb fu x.1 x.2.1 x.2.2
theorem d104(fu x0 x1 x2):KX fu (x0,x1,x2)=mb fu x0 x1 x2:=rfl
def mw:=bQ [] Tryz.func191 [y3,i6,u8] [i6] KX (la:=lk [(4,⟨[.nat],[(2, .Aa),(23, .Aa),(24, .Aa),(25, .AK 0 400)],[],1⟩)])
def ma(fu:Nat)(x0:List (Int×Int))(x1:Int×Int):Option Int:=Ad fu (fun(z1:Nat) nx2=>bif decide ((z1:Int)<x0.length)then Ac (idx x0 z1) fun r3=>bif decide (x1.1::[x1.2]=r3.1::[r3.2])then some ((z1:Int))else nx2 (z1+1)else some ((-1:Int))) (0)
abbrev aC fu(x:_×_):=ma fu x.1 x.2
theorem d105(fu x0 x1):aC fu (x0,x1)=ma fu x0 x1:=rfl
def yG:=bQ [] Tryz.func188 [BJ,D'] [i6] aC (la:=lk [(2,⟨[.nat],[(0, .Aa),(3, .Aa),(7, .Aa),(8, .AK 0 200)],[(0, .c 0)],1⟩)])
def l_(fu:Nat)(x0:Int×Int)(x1:List (Int×Int)):Option (Int×List (Int×Int)):=Ac (aC fu (x1,x0)) fun r1=>bif decide (r1<0)then Ah (List.length x1+1<=Ak)<|some (((x1.length:Int),(x1++[x0])))else some ((r1,x1))
abbrev Qg fu(x:_×_):=l_ fu x.1 x.2
theorem d106(fu x0 x1):Qg fu (x0,x1)=l_ fu x0 x1:=rfl
def mv:=bP [yG] Tryz.func187 ⟨[.Ae D', .Ae BJ],[(0, .v 0 D'),(1, .loc 0 0)],[(0, .Af 245 [(1, .Az 1)]),(1, .row 244 1)],2⟩ ⟨[.Ae i6, .Ae BJ],[(0, .v 0 i6)],[(0, .Af 245 [(1, .Az 2)]),(2, .row 244 1)],3⟩ 1 [1] Qg
def rm(fu:Nat)(x0:AW)(x1:AW):Option AW:=Ac (I8 fu x0) fun r1=>Ac (I8 fu x1) fun r2=>Ad fu (fun(z3:List (Int×Int)×AW×Nat) nx4=>bif decide ((z3.2.2:Int)<z3.1.length)then Ac (idx z3.1 z3.2.2) fun r5=>Ac (KY fu (r1,r5.1)) fun r6=>Ac (KY fu (r2,r5.2)) fun r7=>Ac (aD fu (r6,r7)) fun r8=>Ac (I_ fu (r1,r5.1,(List.set (List.replicate 256 false) 0 true))) fun r9=>Ac (I_ fu (r2,r5.2,r9)) fun r10=>Ad fu (fun(z11:List (Int×Int)×List (Int×Int×Int)×Int) nx12=>bif decide (z11.2.2<256)then Ah ((0:Int)<=z11.2.2/\z11.2.2<(↑256:Int))<|Ac (idx r10 (↑(0+Int.toNat z11.2.2*1):Int)) fun r13=>bif r13 then Ab .u8 (z11.2.2)<|Ab .u8 (z11.2.2)<|Ac (KX fu (r1,r5.1,z11.2.2)) fun r14=>Ab .u8 (z11.2.2)<|Ac (KX fu (r2,r5.2,z11.2.2)) fun r15=>Ac (Qg fu ((r14,r15),z11.1)) fun r16=>Ah (List.length z11.2.1+1<=Ak)<|Ab .i64 (((z11.2.1++[(z11.2.2,0,r16.1)]).length:Int)-1)<|Ab .u8 (z11.2.2)<|Ac (idx (z11.2.1++[(z11.2.2,0,r16.1)]) (((z11.2.1++[(z11.2.2,0,r16.1)]).length:Int)-1)) fun r17=>Ab .i64 (z11.2.2+1)<|nx12 (r16.2,((z11.2.1++[(z11.2.2,0,r16.1)]).set (Int.toNat (((z11.2.1++[(z11.2.2,0,r16.1)]).length:Int)-1)) (r17.1,z11.2.2,r17.2.2)),(z11.2.2+1))else Ab .i64 ((z11.2.1.length:Int)-1)<|Ab .u8 (z11.2.2)<|Ac (idx z11.2.1 ((z11.2.1.length:Int)-1)) fun r18=>Ab .i64 (z11.2.2+1)<|nx12 (z11.1,(z11.2.1.set (Int.toNat ((z11.2.1.length:Int)-1)) (r18.1,z11.2.2,r18.2.2)),(z11.2.2+1))else Ah (List.length z3.2.1+1<=Ak)<|nx4 ((z11.1,(z3.2.1++[(r8,z11.2.1)]),z3.2.2+1))) ((z3.1,[],0))else Ac (dQ fu z3.2.1) fun r19=>some r19.1) (([(0,0)],[],0))
abbrev aB fu(x:_×_):=rm fu x.1 x.2
theorem d107(fu x0 x1):aB fu (x0,x1)=rm fu x0 x1:=rfl
def yF:=bP [mh,B99,tK,mv,wP,my,mw] Tryz.func151 ⟨[.Ae y3, .Ae y3],[(0, .v 0 y3),(1, .v 1 y3),(2, .AA 152 [] [])],[],0⟩ ⟨[.Ae y3],[(0, .v 0 y3)],[],0⟩ 1 [] aB (la:=lk [(6,⟨[.Ae BJ, .Ae Hb, .nat],[(2, .Aa),(3, .Aa),(4, .Aa),(6, .Aa),(7, .Aa),(8, .Aa),(9, .Az 5),(10, .AK 2 602)],[(4, .Af 245 [(1, .Az 3)]),(3, .row 244 0),(2, .c 0),(1, .c 0),(0, .c 0),(5, .row 95 1)],6⟩),(14,⟨[.Ae BJ, .Ae Si, .Ae i6],[(2, .Aa),(3, .Aa),(4, .Aa),(6, .Aa),(7, .Aa),(8, .Aa),(9, .Aa),(10, .Aa),(11, .Aa),(12, .Aa),(13, .Aa),(54, .v 2 i6)],[(8, .c 0),(7, .Af 95 [(1, .Aa),(1, .Az 9)]),(6, .c 0),(5, .c 0),(4, .Af 245 [(1, .Az 3)]),(3, .row 244 0),(2, .c 0),(1, .c 0),(0, .c 0),(9, .row 92 1)],10⟩)]) (pr:=lg [(21,[.fz 9])]) (pt:=lg [(5,[.own 9 95 q9]),(13,[.DD 12 1 92 q6])])
def l9(fu:Nat)(x0:AW)(x1:AW):Option AW:=bif decide ((x0.length:Int)=0)then Ac (I8 fu x1) fun r1=>Ac (Qh fu r1) fun r2=>some r2 else bif decide ((x1.length:Int)=0)then Ac (I8 fu x0) fun r3=>Ac (Qh fu r3) fun r4=>some r4 else Ac (aB fu (x0,x1)) fun r5=>some r5
abbrev Na fu(x:_×_):=l9 fu x.1 x.2
theorem d108(fu x0 x1):Na fu (x0,x1)=l9 fu x0 x1:=rfl
def rO:=bQ [mh,zP,yF] Tryz.func114 [y3,y3] [y3] Na
def lZ(fu:Nat)(x0:Gy)(x1:Gy):Option Gy:=Ac (Zm fu x0) fun r1=>Ac (Zm fu x1) fun r2=>Ac (mP fu (r1.1,r2.1)) fun r3=>Ac (mP fu (r1.2.1,r2.2.1)) fun r4=>Ac (mP fu (r1.2.2.1,r2.2.2.1)) fun r5=>Ac (sX fu (r1.2.2.2.1,r2.2.2.2.1)) fun r6=>Ac (Na fu (r1.2.2.2.2,r2.2.2.2.2)) fun r7=>some ((r3,r4,r5,r6,r7))
abbrev aA fu(x:_×_):=lZ fu x.1 x.2
theorem d109(fu x0 x1):aA fu (x0,x1)=lZ fu x0 x1:=rfl
def yE:=bP [wR,rO,B91,B94] Tryz.func147 ⟨[.Ae y8, .Ae y8],[(0, .v 0 y8),(1, .v 1 y8),(2, .AA 148 [] []),(3, .AA 149 [] []),(4, .AA 114 [] [])],[],0⟩ ⟨[.Ae y8],[(0, .v 0 y8)],[],0⟩ 1 [] aA
def lY(fu:Nat)(x0:Gy)(x1:Gy):Option Gy:=Ac (aA fu (x0,x1)) fun r1=>some r1
abbrev ay fu(x:_×_):=lY fu x.1 x.2
theorem d110(fu x0 x1):ay fu (x0,x1)=lY fu x0 x1:=rfl
def yD:=bQ [yE] Tryz.func111 [y8,y8] [y8] ay
def lX(fu:Nat)(x0:Gy):Option Gy:=Ac (ay fu (x0,false,false,false,([],[]),[])) fun r1=>some r1
abbrev aw fu(x:_):=lX fu x
theorem d111(fu x0):aw fu x0=lX fu x0:=rfl
def yC:=bQ [yD] Tryz.func76 [y8] [y8] aw
def lW(fu:Nat)(x0:Int×Int)(x1:Int):Option Int:=bif decide ((0:Int)<x0.1)then some x0.1 else bif decide (x0.2<0)then some x0.2 else some x1
abbrev WW fu(x:_×_):=lW fu x.1 x.2
theorem d112(fu x0 x1):WW fu (x0,x1)=lW fu x0 x1:=rfl
def yB:=bQ [] Tryz.func93 [D',i6] [i6] WW
def aW(fu:Nat)(x0:Int)(x1:Int):Option Bool:=Ab .i64 ((0:Int)-x0)<|Ab .i64 (if(0:Int)-x0>x0 then(0:Int)-x0 else x0)<|Ab .i64 ((0:Int)-x1)<|Ab .i64 (if(0:Int)-x1>x1 then(0:Int)-x1 else x1)<|bif decide ((if(0:Int)-x0>x0 then(0:Int)-x0 else x0)<if(0:Int)-x1>x1 then(0:Int)-x1 else x1)then some true else bif decide ((if(0:Int)-x0>x0 then(0:Int)-x0 else x0)=if(0:Int)-x1>x1 then(0:Int)-x1 else x1)then some (decide (x1<x0))else some false
abbrev TD fu(x:_×_):=aW fu x.1 x.2
theorem d113(fu x0 x1):TD fu (x0,x1)=aW fu x0 x1:=rfl
def rN:=bQ [] Tryz.func92 [i6,i6] [.bool] TD
def lV(fu:Nat)(x0:Int)(x1:Bool)(x2:Int):Option (Bool×Int):=bif !x1 then some ((true,x0))else Ac (TD fu (x0,x2)) fun r1=>bif r1 then some ((true,x0))else some ((x1,x2))
abbrev WV fu(x:_×_×_):=lV fu x.1 x.2.1 x.2.2
theorem d114(fu x0 x1 x2):WV fu (x0,x1,x2)=lV fu x0 x1 x2:=rfl
def yA:=bP [rN] Tryz.func91 ⟨[.Ae i6, .Ae .bool, .Ae i6],[(0, .v 0 i6),(1, .loc 0 0),(2, .loc 1 0)],[(0, .Af 4 [(1, .v 1 .bool)]),(1, .Af 2 [(1, .v 2 i6)])],2⟩ ⟨[.Ae .bool, .Ae i6],[],[(0, .Af 4 [(1, .v 0 .bool)]),(1, .Af 2 [(1, .v 1 i6)])],2⟩ 0 [] WV
def lU(fu:Nat)(x0:CA):Option (Int×Bool):=Ac (RM fu x0) fun r1=>Ad fu (fun(z2:Int×Bool×Nat) nx3=>bif decide ((z2.2.2:Int)<r1.1.length)then Ac (idx r1.1 z2.2.2) fun r4=>Ac (WW fu (r4,0)) fun r5=>Ab .i64 (r5*10000)<|Ac (WV fu ((r5*10000),z2.2.1,z2.1)) fun r6=>nx3 (r6.2,r6.1,z2.2.2+1)else Ad fu (fun(z7:Int×Bool×Nat) nx8=>bif decide ((z7.2.2:Int)<r1.2.length)then Ac (idx r1.2 z7.2.2) fun r9=>Ac (WW fu (r9,1)) fun r10=>Ac (WV fu (r10,z7.2.1,z7.1)) fun r11=>nx8 (r11.2,r11.1,z7.2.2+1)else some ((z7.1,z7.2.1))) ((z2.1,z2.2.1,0))) ((0,false,0))
abbrev Qf fu(x:_):=lU fu x
theorem d115(fu x0):Qf fu x0=lU fu x0:=rfl
def rM:=bQ [rp,yA,yB] Tryz.func58 [K7] [i6, .bool] Qf (la:=lk [(5,⟨[.Ae i6, .Ae .bool, .nat],[(4, .Aa),(5, .Aa),(6, .Aa),(7, .Aa),(16, .Aa),(17, .Aa),(18, .AK 2 502)],[(2, .Af 2 [(1, .v 0 i6)]),(3, .Af 4 [(1, .v 1 .bool)]),(1, .c 0)],4⟩),(10,⟨[.Ae i6, .Ae .bool, .nat],[(5, .Aa),(6, .Aa),(7, .Aa),(29, .Aa),(30, .Aa),(31, .AK 2 1002)],[(2, .Af 2 [(1, .v 0 i6)]),(3, .Af 4 [(1, .v 1 .bool)])],4⟩)])
def rl(fu:Nat)(x0:AW):Option AW:=some x0
abbrev j8 fu(x:_):=rl fu x
theorem d116(fu x0):j8 fu x0=rl fu x0:=rfl
def yz:=bP [] Tryz.func140 ⟨[.Ae y3],[(0, .v 0 y3)],[],0⟩ ⟨[.Ae y3],[(0, .AA 176 [] [0])],[(0, .Af 27 [(1, .v 0 y3)])],1⟩ 1 [] j8
def lT(fu:Nat)(x0:AW)(x1:List Bool):Option (List Bool):=Ah (List.length x0<=Ak)<|Ad fu (fun(z1:List Bool×Nat) nx2=>bif decide ((z1.2:Int)<x0.length)then Ac (idx x0 z1.2) fun r3=>Ad fu (fun(z4:List Bool×Nat) nx5=>bif decide ((z4.2:Int)<r3.2.length)then Ac (idx r3.2 z4.2) fun r6=>Ac (idx z4.1 z1.2) fun r7=>bif r7 then Ac (idx z4.1 z1.2) fun r8=>nx5 ((z4.1.set z1.2 true),z4.2+1)else Ac (idx x1 r6.2.2) fun r9=>Ac (idx z4.1 z1.2) fun r10=>nx5 ((z4.1.set z1.2 r9),z4.2+1)else nx2 ((z4.1,z1.2+1))) ((z1.1,0))else some z1.1) (((List.replicate (List.length x0) false),0))
abbrev av fu(x:_×_):=lT fu x.1 x.2
theorem d117(fu x0 x1):av fu (x0,x1)=lT fu x0 x1:=rfl
def yy:=bQ [] Tryz.func177 [y3,q0] [q0] av (la:=lk [(3,⟨[.Ae q0, .nat],[(1, .Aa),(2, .Aa),(5, .Aa),(15, .Aa),(16, .AK 1 301)],[(1, .row 4 0),(0, .c 0)],2⟩),(6,⟨[.Ae q0, .nat],[(1, .Aa),(2, .Aa),(5, .Aa),(6, .Aa),(15, .Aa),(16, .Aa),(24, .Aa),(25, .Aa),(26, .AK 1 601)],[(1, .row 4 0),(0, .c 0)],2⟩)]) (pt:=lg [(11,[.fz 4])])
def lS(fu:Nat)(x0:List Bool)(x1:Bool):Option Int:=Ad fu (fun(z1:Nat) nx2=>bif decide ((z1:Int)<x0.length)then Ac (idx x0 z1) fun r3=>bif x1==r3 then some ((z1:Int))else nx2 (z1+1)else some ((-1:Int))) (0)
abbrev WU fu(x:_×_):=lS fu x.1 x.2
theorem d118(fu x0 x1):WU fu (x0,x1)=lS fu x0 x1:=rfl
def yx:=bQ [] Tryz.func239 [q0, .bool] [i6] WU (la:=lk [(2,⟨[.nat],[(0, .Aa),(1, .Aa),(7, .Aa),(8, .AK 0 200)],[],0⟩)])
def lR(fu:Nat)(x0:List Bool)(x1:Bool):Option Bool:=Ac (WU fu (x0,x1)) fun r1=>some (decide ((0:Int)<=r1))
abbrev WT fu(x:_×_):=lR fu x.1 x.2
theorem d119(fu x0 x1):WT fu (x0,x1)=lR fu x0 x1:=rfl
def yw:=bQ [yx] Tryz.func178 [q0, .bool] [.bool] WT
def c9:AY:=⟨[.Ae i6, .Ae i6, .Ae q3, .Ae y3, .Ae yL],[(0, .v 0 i6),(1, .v 1 i6),(2, .v 2 q3),(3, .loc 0 0),(4, .loc 1 0),(5, .loc 2 0),(6, .loc 3 0)],[(0, .Af 77 [(1, .mp 4)]),(1, .Af 27 [(1, .v 3 y3)]),(2, .Af 228 [(1, .Az 5)]),(3, .Af 284 [(1, .AA 240 [] [0,1,2,3])]),(5, .row 162 4)],6⟩
abbrev dN:Type:=sR 240 c9 4 [.str] true
def pc(n:Nat):dN:=Nat.rec (motive:=fun _=>dN) (tJ Tryz.func240) (fun fu g=>sJ [oX (g)] fu Tryz.func240 c9 4 [.str] true (la:=lk [(4,⟨[.nat],[(1, .Aa),(2, .Aa),(5, .Aa),(6, .Aa),(25, .Aa),(26, .Aa),(27, .AK 0 400)],[(3, .c 0),(2, .c 0),(5, .c 0),(1, .c 0),(0, .c 0)],6⟩),(7,⟨[.Ae i6],[(1, .Aa),(2, .Aa),(5, .Aa),(6, .Aa),(12, .Aa),(13, .v 0 i6),(25, .Aa),(26, .Aa),(27, .Aa)],[(6, .c 0),(3, .c 0),(2, .c 0),(5, .c 0),(1, .c 0),(0, .c 0)],7⟩)]) (ct:=lz [(9,15)])) n
def yu(fu:Nat):=oX (pc fu)
abbrev TC(fu:Nat)(x:(Int)×(Int)×(List Int)×AW×(List (List Bool))):Option (List Ax×Option Bool):=(pc fu).1 x
def lQ(fu:Nat)(x0:Int)(x1:Int)(x2:List Int)(x3:AW)(x4:List (List Bool)):Option (List Ax×Option Bool):=bif decide (x1=0)then some (([(List.map (fun n=>UInt8.ofNat (Int.toNat n)) x2)],some true))else Ac (idx x3 x0) fun r1=>Ad fu (fun(z2:Nat) nx3=>bif decide ((z2:Int)<r1.2.length)then Ac (idx r1.2 z2) fun r4=>Ad fu (fun(z5:Int) nx6=>bif decide (z5<=r4.2.1)then Ab .i64 (x1-1)<|Ac (idx x4 (x1-1)) fun r7=>Ac (idx r7 r4.2.2) fun r8=>bif r8 then Ab .i64 (x1-1)<|Ah ((x2.length:Int)=x2.length/\(x2.length:Int)=x2.length)<|Ab .u8 (z5)<|Ah (List.length x2+1<=Ak/\0<1)<|Ac (TC fu (r4.2.2,(x1-1),(x2++[z5]),x3,x4)) fun r9=>oI (fun b10=>bif !b10 then some (([],some false))else Ab .i64 (z5+1)<|nx6 ((z5+1))) (r9.1) (r9.2)else nx3 (z2+1)else nx3 (z2+1)) (r4.1)else some (([],some true))) (0)
theorem d120(fu x0 x1 x2 x3 x4):TC (fu+1) (x0,x1,x2,x3,x4)=lQ fu x0 x1 x2 x3 x4:=by kernel_rfl
def lP(fu:Nat)(x0:AW)(x1:Nat)(x2:Nat)(x3:Int)(x4:List (List Bool)):Option (List Ax×Option Bool):=Ah ((0:Int)<=0/\(0:Int)<x2)<|Ac (idx x4 ((x1:Int)+0)) fun r1=>Ac (idx r1 (0:Int)) fun r2=>bif !r2 then some (([],some true))else Ac (TC fu (0,x3,[],x0,x4)) fun r3=>oI (fun b4=>some (([],some b4))) (r3.1) (r3.2)
abbrev Qe fu(x:_×_×_×_×_):=lP fu x.1 x.2.1 x.2.2.1 x.2.2.2.1 x.2.2.2.2
theorem d121(fu x0 x1 x2 x3 x4):Qe fu (x0,x1,x2,x3,x4)=lP fu x0 x1 x2 x3 x4:=rfl
def yt:=bJ [yu] Tryz.func179 ⟨[.Ae y3, .nat, .nat, .Ae i6, .Ae yL],[(0, .v 0 y3),(1, .px [0] (.sub 1 2 q0)),(2, .v 3 i6),(3, .mp 1),(4, .Az 0)],[(0, .row 162 4)],2⟩ 1 [.str] true Qe
end
end Go.GV
namespace Go.GV
open Go Go.GK Go.Proofs
noncomputable section
def aV(fu:Nat)(x0:AW):Option (List Ax×Bool):=Ad fu (fun(z1:List Bool×Nat) nx2=>bif decide ((z1.2:Int)<x0.length)then Ac (idx x0 z1.2) fun r3=>Ah (List.length z1.1+1<=Ak)<|nx2 ((z1.1++[r3.1]),z1.2+1)else Ah (0+1<=Ak)<|Ad fu (fun(z4:List (List Bool)×Int) nx5=>bif decide ((0:Int)<x0.length)then bif decide ((0:Int)<z4.2)then Ab .i64 (z4.2-1)<|Ac (idx z4.1 (z4.2-1)) fun r6=>Ac (av fu (x0,r6)) fun r7=>Ah (List.length z4.1+1<=Ak)<|Ac (idx (z4.1++[r7]) z4.2) fun r8=>Ac (WT fu (r8,true)) fun r9=>bif !r9 then some (([],true))else Ab .i64 (z4.2+1)<|Ab .i64 (z4.2+1)<|Ah (((0:Int)<=z4.2/\z4.2<z4.2+1)/\z4.2+1=z4.2+1/\z4.2+1<=(z4.1++[r7]).length)<|Ac (Qe fu (x0,Int.toNat z4.2,Int.toNat (z4.2+1-z4.2),z4.2,(z4.1++[r7]))) fun r10=>iC (fun b11=>bif !b11 then some (([],true))else Ab .i64 (z4.2+1)<|nx5 (((z4.1++[r7]),(z4.2+1)))) (r10.1) (r10.2)else Ac (idx z4.1 z4.2) fun r12=>Ac (WT fu (r12,true)) fun r13=>bif !r13 then some (([],true))else Ab .i64 (z4.2+1)<|Ab .i64 (z4.2+1)<|Ah (((0:Int)<=z4.2/\z4.2<z4.2+1)/\z4.2+1=z4.2+1/\z4.2+1<=z4.1.length)<|Ac (Qe fu (x0,Int.toNat z4.2,Int.toNat (z4.2+1-z4.2),z4.2,z4.1)) fun r14=>iC (fun b15=>bif !b15 then some (([],true))else Ab .i64 (z4.2+1)<|nx5 ((z4.1,(z4.2+1)))) (r14.1) (r14.2)else some (([],true))) (([z1.1],0))) (([],0))
abbrev WS fu(x:_):=aV fu x
theorem d122(fu x0):WS fu x0=aV fu x0:=rfl
def yr:=bI [yy,yw,yt] Tryz.func176 ⟨[.Ae y3],[(0, .Aa),(1, .loc 0 0)],[(0, .Af 27 [(1, .v 0 y3)])],1⟩ 0 [.str] WS (la:=lk [(3,⟨[.Ae q0, .nat],[(0, .Aa),(1, .Aa),(3, .Aa),(4, .Az 2),(9, .Aa),(10, .AK 1 301)],[(0, .c 0),(2, .row 4 0)],3⟩),(9,⟨[.Ae (.sl q0), .Ae i6],[(0, .Aa),(1, .Aa),(3, .Az 4),(6, .v 1 i6)],[(4, .row 162 0),(0, .c 0)],5⟩)]) (pr:=lg [(7,[.fz 4])]) (pt:=lg [(2,[.own 4 4 .bool])]) (ct:=lz [(13,18)])
def lO(fu:Nat)(x0:AW)(x1:Int):Option (List Ax):=bif decide (x1<1)then some []else Ac (I8 fu x0) fun r1=>Ac (j8 fu r1) fun r2=>Ac (WS fu r2) fun r3=>E_ (fun(y4:Ax) (z5:List Ax) nx6=>Ah (List.length z5+1<=Ak)<|Ab .i64 (if(1000:Int)<x1 then(1000:Int)else x1)<|bif decide (((z5++[y4]).length:Int)=if(1000:Int)<x1 then(1000:Int)else x1)then some ((z5++[y4]))else nx6 ((z5++[y4]))) (fun z7=>Ma (r3.2)<|some z7) (r3.1) ([])
abbrev WR fu(x:_×_):=lO fu x.1 x.2
theorem d123(fu x0 x1):WR fu (x0,x1)=lO fu x0 x1:=rfl
def yq:=bQ [yz,mh,yr] Tryz.func94 [y3,i6] [q1] WR (la:=lk [(5,⟨[.Ae q1],[(3, .Aa),(4, .Aa),(5, .Aa),(12, .Aa)],[(0, .c 0),(1, .c 0),(2, .Af 38 [(1, .Az 5)]),(5, .row 9 0)],6⟩)]) (pt:=lg [(4,[.DD 5 0 9 .str]),(8,[.fz 4])])
def lN(fu:Nat)(x0:AW):Option (Ax×Bool):=Ac (WR fu (x0,1)) fun r1=>bif decide ((r1.length:Int)=0)then some (([],false))else Ac (idx r1 (0:Int)) fun r2=>some ((r2,true))
abbrev TB fu(x:_):=lN fu x
theorem d124(fu x0):TB fu x0=lN fu x0:=rfl
def rL:=bQ [yq] Tryz.func59 [y3] [.str, .bool] TB
def lM(fu:Nat)(x0:Gy):Option (Int×Int×Ax×List Empty×List (Ax×Empty)×Bool):=Ac (Zm fu x0) fun r1=>Ac (Qf fu r1.2.2.2.1) fun r2=>Ac (TB fu r1.2.2.2.2) fun r3=>bif r1.1 then some ((1,0,[],[],[],true))else bif r1.2.1 then some ((2,0,[],[],[],true))else bif r1.2.2.1 then some ((2,1,[],[],[],true))else bif r2.2 then some ((3,r2.1,[],[],[],true))else bif r3.2 then some ((4,0,r3.1,[],[],true))else some ((0,0,[],[],[],false))
abbrev au fu(x:_):=lM fu x
theorem d125(fu x0):au fu x0=lM fu x0:=rfl
def yp:=bP [wR,rM,rL] Tryz.func48 ⟨[.Ae y8],[(0, .v 0 y8)],[],0⟩ ⟨[.Ae i6, .Ae i6, .Ae .str, .Ae (.sl (.nm 1)), .Ae (.sl (.st yK)), .Ae .bool],[(0, .sv [(1,0,i6),(1,1,i6),(1,2, .str),(1,3,(.sl (.nm 1))),(1,4,(.sl (.st yK)))]),(1, .v 5 .bool)],[],0⟩ 2 [] au
def lL(fu:Nat)(x0:Gy):Option Bool:=Ac (au fu x0) fun r1=>some ((!r1.2.2.2.2.2))
abbrev TA fu(x:_):=lL fu x
theorem d126(fu x0):TA fu x0=lL fu x0:=rfl
def mu:=bQ [yp] Tryz.func37 [y8] [.bool] TA
def lK(fu:Nat)(x0:Vl):Option Bool:=bif !Vl.any x0 then Ab .i64 (((Vl.lists x0).length:Int)+((Vl.structs x0).length:Int))<|bif decide (((Vl.lists x0).length:Int)+((Vl.structs x0).length:Int)=0)then Ac (pK fu (Vl.sc x0)) fun r1=>bif r1 then some true else Ac (TA fu (Vl.sc x0)) fun r2=>some r2 else some false else some false
abbrev M' fu(x:_):=lK fu x
theorem d127(fu x0):M' fu x0=lK fu x0:=rfl
def WY:=bQ [zZ,mu] Tryz.func22 [(.nm 0)] [.bool] M'
def lJ(fu:Nat)(x0:Gy)(x1:Gy):Option Bool:=bif x0.1==x1.1 then bif x0.2.1==x1.2.1 then bif x0.2.2.1==x1.2.2.1 then Ac (jI fu (x0.2.2.2.1.1,x1.2.2.2.1.1)) fun r1=>bif r1 then Ac (jI fu (x0.2.2.2.1.2,x1.2.2.2.1.2)) fun r2=>bif r2 then Ac (mV fu (x0.2.2.2.2,x1.2.2.2.2)) fun r3=>some r3 else some false else some false else some false else some false else some false
abbrev WQ fu(x:_×_):=lJ fu x.1 x.2
theorem d128(fu x0 x1):WQ fu (x0,x1)=lJ fu x0 x1:=rfl
def yo:=bQ [zU,wV] Tryz.func50 [y8,y8] [.bool] WQ
def c8:AY:=⟨[.Ae Jf, .Ae Jf],[(0, .v 0 Jf),(1, .v 1 Jf),(2, .AA 27 [] [])],[],0⟩
def b9:AY:=⟨[.Ae .bool],[(0, .v 0 .bool)],[],0⟩
def cZ:AY:=⟨[.Ae q5, .Ae q5],[(0, .v 0 q5),(1, .v 1 q5),(2, .AA 72 [] [])],[],0⟩
def bZ:AY:=⟨[.Ae .bool],[(0, .v 0 .bool)],[],0⟩
def cY:AY:=⟨[.Ae Mi, .Ae Mi],[(0, .v 0 Mi),(1, .v 1 Mi),(2, .AA 74 [] [])],[],0⟩
def bY:AY:=⟨[.Ae .bool],[(0, .v 0 .bool)],[],0⟩
abbrev dM:Type:=FP 51 c8 b9 1 []×Jz 72 [Ek,Ek] [.bool]×FP 71 cZ bZ 1 []×Jz 74 [q7,q7] [.bool]×FP 73 cY bY 1 []×Jz 53 [q8,q8] [.bool]×Jz 42 [(.nm 0),(.nm 0)] [.bool]×Jz 27 [BD,BD] [.bool]
def M_(n:Nat):dM:=Nat.rec (motive:=fun _=>dM) (tP Tryz.func51,tQ Tryz.func72,tP Tryz.func71,tQ Tryz.func74,tP Tryz.func73,tQ Tryz.func53,tQ Tryz.func42,tQ Tryz.func27) (fun fu g=>(sP [Fh (g.2.2.2.2.2.2.2)] fu Tryz.func51 c8 b9 1 [] (la:=lk [(4,⟨[.nat],[(1, .Aa),(2, .Aa),(15, .Aa),(16, .Aa),(17, .AK 0 400)],[],0⟩)]),sQ [Fh (g.2.2.2.2.2.2.2)] fu Tryz.func72 [Ek,Ek] [.bool],sP [Fh (g.2.1)] fu Tryz.func71 cZ bZ 1 [] (la:=lk [(4,⟨[.nat],[(1, .Aa),(2, .Aa),(15, .Aa),(16, .Aa),(17, .AK 0 400)],[],0⟩)]),sQ (Fh (g.2.2.2.2.2.2.2)::bs [wV] fu) fu Tryz.func74 [q7,q7] [.bool],sP [Fh (g.2.2.2.1)] fu Tryz.func73 cY bY 1 [] (la:=lk [(4,⟨[.nat],[(1, .Aa),(2, .Aa),(15, .Aa),(16, .Aa),(17, .AK 0 400)],[],0⟩)]),sQ [Cu (g.2.2.1),Cu (g.2.2.2.2.1)] fu Tryz.func53 [q8,q8] [.bool],sQ (Cu (g.1)::Fh (g.2.2.2.2.2.1)::bs [yo,wS] fu) fu Tryz.func42 [(.nm 0),(.nm 0)] [.bool] (la:=lk [(4,⟨[.nat],[(2, .Aa),(3, .Aa),(42, .Aa),(43, .AK 0 400)],[(1, .c 0),(0, .c 0)],2⟩),(11,⟨[.nat],[(2, .Aa),(3, .Aa),(74, .Aa),(75, .AK 0 1100)],[(1, .c 0),(0, .c 0)],2⟩)]),sQ [Fh (g.2.2.2.2.2.2.1)] fu Tryz.func27 [BD,BD] [.bool])) n
abbrev j7(fu:Nat)(x:(List AD)×(List AD)):Option Bool:=(M_ fu).1.1 x
abbrev aq(fu:Nat)(x:(Ax×Int×AD)×(Ax×Int×AD)):Option Bool:=(M_ fu).2.1.1 x
abbrev j6(fu:Nat)(x:(List (Ax×Int×AD))×(List (Ax×Int×AD))):Option Bool:=(M_ fu).2.2.1.1 x
abbrev ao(fu:Nat)(x:(AW×AD)×(AW×AD)):Option Bool:=(M_ fu).2.2.2.1.1 x
abbrev j0(fu:Nat)(x:(List (AW×AD))×(List (AW×AD))):Option Bool:=(M_ fu).2.2.2.2.1.1 x
abbrev jZ(fu:Nat)(x:Bp×Bp):Option Bool:=(M_ fu).2.2.2.2.2.1.1 x
abbrev WO(fu:Nat)(x:(Vl)×(Vl)):Option Bool:=(M_ fu).2.2.2.2.2.2.1.1 x
def rK(fu:Nat):=Fh (M_ fu).2.2.2.2.2.2.2
abbrev KW(fu:Nat)(x:AD×AD):Option Bool:=(M_ fu).2.2.2.2.2.2.2.1 x
def rj(fu:Nat)(x0:List AD)(x1:List AD):Option Bool:=bif decide ((x0.length:Int)≠x1.length)then some false else Ad fu (fun(z1:Nat) nx2=>bif decide ((z1:Int)<x0.length)then Ac (idx x0 z1) fun r3=>Ac (idx x1 z1) fun r4=>Ac (KW fu (r3,r4)) fun r5=>bif !r5 then some false else nx2 (z1+1)else some true) (0)
theorem d129(fu x0 x1):j7 (fu+1) (x0,x1)=rj fu x0 x1:=by kernel_rfl
def ri(fu:Nat)(x0:Ax×Int×AD)(x1:Ax×Int×AD):Option Bool:=bif decide (x0.1=x1.1)then bif decide (x0.2.1=x1.2.1)then Ac (KW fu (x0.2.2,x1.2.2)) fun r1=>some r1 else some false else some false
theorem d130(fu x0 x1):aq (fu+1) (x0,x1)=ri fu x0 x1:=by kernel_rfl
def rh(fu:Nat)(x0:List (Ax×Int×AD))(x1:List (Ax×Int×AD)):Option Bool:=bif decide ((x0.length:Int)≠x1.length)then some false else Ad fu (fun(z1:Nat) nx2=>bif decide ((z1:Int)<x0.length)then Ac (idx x0 z1) fun r3=>Ac (idx x1 z1) fun r4=>Ac (aq fu (r3,r4)) fun r5=>bif !r5 then some false else nx2 (z1+1)else some true) (0)
theorem d131(fu x0 x1):j6 (fu+1) (x0,x1)=rh fu x0 x1:=by kernel_rfl
def ra(fu:Nat)(x0:AW×AD)(x1:AW×AD):Option Bool:=Ac (mV fu (x0.1,x1.1)) fun r1=>bif r1 then Ac (KW fu (x0.2,x1.2)) fun r2=>some r2 else some false
theorem d132(fu x0 x1):ao (fu+1) (x0,x1)=ra fu x0 x1:=by kernel_rfl
def q_(fu:Nat)(x0:List (AW×AD))(x1:List (AW×AD)):Option Bool:=bif decide ((x0.length:Int)≠x1.length)then some false else Ad fu (fun(z1:Nat) nx2=>bif decide ((z1:Int)<x0.length)then Ac (idx x0 z1) fun r3=>Ac (idx x1 z1) fun r4=>Ac (ao fu (r3,r4)) fun r5=>bif !r5 then some false else nx2 (z1+1)else some true) (0)
theorem d133(fu x0 x1):j0 (fu+1) (x0,x1)=q_ fu x0 x1:=by kernel_rfl
def qZ(fu:Nat)(x0:Bp)(x1:Bp):Option Bool:=Ac (j6 fu (x0.1,x1.1)) fun r1=>bif r1 then Ac (j0 fu (x0.2,x1.2)) fun r2=>some r2 else some false
theorem d134(fu x0 x1):jZ (fu+1) (x0,x1)=qZ fu x0 x1:=by kernel_rfl
def qY(fu:Nat)(x0:Vl)(x1:Vl):Option Bool:=bif !Vl.any x0==Vl.any x1 then some false else Ac (WQ fu (Vl.sc x0,Vl.sc x1)) fun r1=>bif !r1 then some false else bif decide (((Vl.lists x0).length:Int)≠((Vl.lists x1).length:Int))then some false else bif decide (((Vl.structs x0).length:Int)≠((Vl.structs x1).length:Int))then some false else Ad fu (fun(z2:Nat) nx3=>bif decide ((z2:Int)<(Vl.lists x0).length)then Ac (idx (Vl.lists x0) (z2:Int)) fun r4=>Ac (idx (Vl.lists x1) (z2:Int)) fun r5=>bif decide ((r4.1.length:Int)≠r5.1.length)then some false else Ac (Wr fu r4) fun r6=>Ac (Wr fu r5) fun r7=>Ac (j7 fu (r6,r7)) fun r8=>bif !r8 then some false else nx3 (z2+1)else Ad fu (fun(z9:Nat) nx10=>bif decide ((z9:Int)<(Vl.structs x0).length)then Ac (idx (Vl.structs x0) (z9:Int)) fun r11=>Ac (idx (Vl.structs x1) (z9:Int)) fun r12=>Ac (jZ fu (r11,r12)) fun r13=>bif !r13 then some false else nx10 (z9+1)else some true) (0)) (0)
theorem d135(fu x0 x1):WO (fu+1) (x0,x1)=qY fu x0 x1:=by kernel_rfl
def lI(fu:Nat)(x0:AD)(x1:AD):Option Bool:=Ac (WO fu (x0.1,x1.1)) fun r1=>bif r1 then Ac (WO fu (x0.2,x1.2)) fun r2=>some r2 else some false
theorem d136(fu x0 x1):KW (fu+1) (x0,x1)=lI fu x0 x1:=by kernel_rfl
def lH(fu:Nat)(x0:AD)(x1:AD):Option Bool:=Ac (KW fu (x0,x1)) fun r1=>some r1
abbrev Qd fu(x:_×_):=lH fu x.1 x.2
theorem d137(fu x0 x1):Qd fu (x0,x1)=lH fu x0 x1:=rfl
def mq:=bQ [rK] Tryz.func34 [BD,BD] [.bool] Qd
def aU(fu:Nat)(x0:AW×AD)(x1:AD):Option (Bool×AD):=Ac (Qd fu (x0.2,x1)) fun r1=>some ((r1,x1))
abbrev WN fu(x:_×_):=aU fu x.1 x.2
theorem d138(fu x0 x1):WN fu (x0,x1)=aU fu x0 x1:=rfl
def yn:=bP [mq] Tryz.func113 ⟨[.Ae q7, .Ae BD],[(0, .v 0 q7),(1, .loc 0 0)],[(0, .Af 35 [(18, .v 1 BD)])],1⟩ ⟨[.Ae .bool, .Ae BD],[(0, .v 0 .bool)],[(0, .Af 35 [(18, .v 1 BD)])],1⟩ 1 [] WN
def aT(fu:Nat)(x0:List (AW×AD))(x1:AD):Option (Int×List (AW×AD)×AD):=Ad fu (fun(z1:AD×Nat) nx2=>bif decide ((z1.2:Int)<x0.length)then Ac (idx x0 z1.2) fun r3=>Ac (WN fu (r3,z1.1)) fun r4=>bif r4.1 then some (((z1.2:Int),x0,r4.2))else nx2 (r4.2,z1.2+1)else some (((-1:Int),x0,z1.1))) ((x1,0))
abbrev WM fu(x:_×_):=aT fu x.1 x.2
theorem d139(fu x0 x1):WM fu (x0,x1)=aT fu x0 x1:=rfl
def ym:=bP [yn] Tryz.func112 ⟨[.Ae Mi, .Ae BD],[(0, .Az 0),(1, .AA 113 [] [1])],[(0, .row 72 0),(1, .Af 35 [(18, .v 1 BD)])],2⟩ ⟨[.Ae i6, .Ae Mi, .Ae BD],[(0, .v 0 i6)],[(0, .row 72 1),(1, .Af 35 [(18, .v 2 BD)])],2⟩ 1 [] WM (la:=lk [(2,⟨[.Ae BD, .nat],[(0, .Aa),(1, .Aa),(7, .Aa),(8, .AK 1 201)],[(1, .Af 35 [(18, .v 0 BD)]),(0, .c 0)],2⟩)])
def lG(fu:Nat)(x0:Bool)(x1:Bool):Option Bool:=bif x0 then some ((!x1))else some false
abbrev ak fu(x:_×_):=lG fu x.1 x.2
theorem d140(fu x0 x1):ak fu (x0,x1)=lG fu x0 x1:=rfl
def yk:=bQ [] Tryz.func202 [.bool, .bool] [.bool] ak
def qX(fu:Nat)(x0:AW)(x1:AW):Option AW:=Ac (I8 fu x0) fun r1=>Ac (I8 fu x1) fun r2=>Ad fu (fun(z3:List (Int×Int)×AW×Nat) nx4=>bif decide ((z3.2.2:Int)<z3.1.length)then Ac (idx z3.1 z3.2.2) fun r5=>Ac (KY fu (r1,r5.1)) fun r6=>Ac (KY fu (r2,r5.2)) fun r7=>Ac (ak fu (r6,r7)) fun r8=>Ac (I_ fu (r1,r5.1,(List.set (List.replicate 256 false) 0 true))) fun r9=>Ac (I_ fu (r2,r5.2,r9)) fun r10=>Ad fu (fun(z11:List (Int×Int)×List (Int×Int×Int)×Int) nx12=>bif decide (z11.2.2<256)then Ah ((0:Int)<=z11.2.2/\z11.2.2<(↑256:Int))<|Ac (idx r10 (↑(0+Int.toNat z11.2.2*1):Int)) fun r13=>bif r13 then Ab .u8 (z11.2.2)<|Ab .u8 (z11.2.2)<|Ac (KX fu (r1,r5.1,z11.2.2)) fun r14=>Ab .u8 (z11.2.2)<|Ac (KX fu (r2,r5.2,z11.2.2)) fun r15=>Ac (Qg fu ((r14,r15),z11.1)) fun r16=>Ah (List.length z11.2.1+1<=Ak)<|Ab .i64 (((z11.2.1++[(z11.2.2,0,r16.1)]).length:Int)-1)<|Ab .u8 (z11.2.2)<|Ac (idx (z11.2.1++[(z11.2.2,0,r16.1)]) (((z11.2.1++[(z11.2.2,0,r16.1)]).length:Int)-1)) fun r17=>Ab .i64 (z11.2.2+1)<|nx12 (r16.2,((z11.2.1++[(z11.2.2,0,r16.1)]).set (Int.toNat (((z11.2.1++[(z11.2.2,0,r16.1)]).length:Int)-1)) (r17.1,z11.2.2,r17.2.2)),(z11.2.2+1))else Ab .i64 ((z11.2.1.length:Int)-1)<|Ab .u8 (z11.2.2)<|Ac (idx z11.2.1 ((z11.2.1.length:Int)-1)) fun r18=>Ab .i64 (z11.2.2+1)<|nx12 (z11.1,(z11.2.1.set (Int.toNat ((z11.2.1.length:Int)-1)) (r18.1,z11.2.2,r18.2.2)),(z11.2.2+1))else Ah (List.length z3.2.1+1<=Ak)<|nx4 ((z11.1,(z3.2.1++[(r8,z11.2.1)]),z3.2.2+1))) ((z3.1,[],0))else Ac (dQ fu z3.2.1) fun r19=>some r19.1) (([(0,0)],[],0))
abbrev aj fu(x:_×_):=qX fu x.1 x.2
theorem d141(fu x0 x1):aj fu (x0,x1)=qX fu x0 x1:=rfl
def yj:=bP [mh,tK,mv,wP,my,mw,yk] Tryz.func151 ⟨[.Ae y3, .Ae y3],[(0, .v 0 y3),(1, .v 1 y3),(2, .AA 202 [] [])],[],0⟩ ⟨[.Ae y3],[(0, .v 0 y3)],[],0⟩ 1 [] aj (la:=lk [(6,⟨[.Ae BJ, .Ae Hb, .nat],[(2, .Aa),(3, .Aa),(4, .Aa),(6, .Aa),(7, .Aa),(8, .Aa),(9, .Az 5),(10, .AK 2 602)],[(4, .Af 245 [(1, .Az 3)]),(3, .row 244 0),(2, .c 0),(1, .c 0),(0, .c 0),(5, .row 95 1)],6⟩),(14,⟨[.Ae BJ, .Ae Si, .Ae i6],[(2, .Aa),(3, .Aa),(4, .Aa),(6, .Aa),(7, .Aa),(8, .Aa),(9, .Aa),(10, .Aa),(11, .Aa),(12, .Aa),(13, .Aa),(54, .v 2 i6)],[(8, .c 0),(7, .Af 95 [(1, .Aa),(1, .Az 9)]),(6, .c 0),(5, .c 0),(4, .Af 245 [(1, .Az 3)]),(3, .row 244 0),(2, .c 0),(1, .c 0),(0, .c 0),(9, .row 92 1)],10⟩)]) (pr:=lg [(21,[.fz 9])]) (pt:=lg [(5,[.own 9 95 q9]),(13,[.DD 12 1 92 q6])])
def lF(fu:Nat)(x0:AW)(x1:AW):Option AW:=bif decide ((x0.length:Int)=0)then some []else bif decide ((x1.length:Int)=0)then Ac (I8 fu x0) fun r1=>Ac (Qh fu r1) fun r2=>some r2 else Ac (aj fu (x0,x1)) fun r3=>some r3
abbrev Qc fu(x:_×_):=lF fu x.1 x.2
theorem d142(fu x0 x1):Qc fu (x0,x1)=lF fu x0 x1:=rfl
def rJ:=bQ [mh,zP,yj] Tryz.func155 [y3,y3] [y3] Qc
def aR(fu:Nat)(x0:Int):Option Bool:=some (decide (x0≠x0))
abbrev Tz fu(x:_):=aR fu x
theorem d143(fu x0):Tz fu x0=aR fu x0:=rfl
def yh:=bQ [] Tryz.func203 [i6] [.bool] Tz
def aQ(fu:Nat)(x0:Int)(x1:Int):Option Int:=Ac (Tz fu x0) fun r1=>Ac (Tz fu x1) fun r2=>bif r1 then bif r2 then some 0 else some ((-1:Int))else bif r2 then some 1 else bif decide (x0<x1)then some ((-1:Int))else bif decide (x1<x0)then some 1 else some 0
abbrev KV fu(x:_×_):=aQ fu x.1 x.2
theorem d144(fu x0 x1):KV fu (x0,x1)=aQ fu x0 x1:=rfl
def ml:=bQ [yh] Tryz.func157 [i6,i6] [i6] KV
def qW(fu:Nat)(x0:Ax):Option Bool:=some (Bool.rec true false (decide (x0=x0)))
abbrev ai fu(x:_):=qW fu x
theorem d145(fu x0):ai fu x0=qW fu x0:=rfl
def yg:=bQ [] Tryz.func204 [.str] [.bool] ai
def aP(fu:Nat)(x0:Ax)(x1:Ax):Option Int:=Ac (ai fu x0) fun r1=>Ac (ai fu x1) fun r2=>bif r1 then bif r2 then some 0 else some ((-1:Int))else bif r2 then some 1 else bif Go.Op.bytesLess x0 x1 then some ((-1:Int))else bif !(Go.Op.bytesLess x0 x1||decide (x0=x1))then some 1 else some 0
abbrev Lf fu(x:_×_):=aP fu x.1 x.2
theorem d146(fu x0 x1):Lf fu (x0,x1)=aP fu x0 x1:=rfl
def rI:=bQ [yg] Tryz.func158 [.str, .str] [i6] Lf
def lE(fu:Nat)(x0:List Int):Option Int:=Ad fu (fun(z1:Nat) nx2=>bif decide ((z1:Int)<x0.length)then Ac (idx x0 z1) fun r3=>bif decide (r3≠0)then some r3 else nx2 (z1+1)else some 0) (0)
abbrev WL fu(x:_):=lE fu x
theorem d147(fu x0):WL fu x0=lE fu x0:=rfl
def yf:=bQ [] Tryz.func156 [ES] [i6] WL (la:=lk [(3,⟨[.nat],[(3, .Aa),(6, .Aa),(7, .Aa),(8, .AK 0 300)],[],0⟩)])
def lD(fu:Nat)(x0:AW)(x1:AW):Option Int:=Ac (I8 fu x0) fun r1=>Ac (I8 fu x1) fun r2=>Ac (Qc fu (r1,r2)) fun r3=>Ac (TB fu r3) fun r4=>Ac (Qc fu (r2,r1)) fun r5=>Ac (TB fu r5) fun r6=>bif !r4.2 then bif !r6.2 then some 0 else bif !r6.2 then some ((-1:Int))else bif !r4.2 then some 1 else Ac (KV fu ((r4.1.length:Int),(r6.1.length:Int))) fun r7=>Ac (Lf fu (r4.1,r6.1)) fun r8=>Ac (WL fu [r7,r8]) fun r9=>some r9 else bif !r6.2 then some ((-1:Int))else bif !r4.2 then some 1 else Ac (KV fu ((r4.1.length:Int),(r6.1.length:Int))) fun r10=>Ac (Lf fu (r4.1,r6.1)) fun r11=>Ac (WL fu [r10,r11]) fun r12=>some r12
abbrev OS fu(x:_×_):=lD fu x.1 x.2
theorem d148(fu x0 x1):OS fu (x0,x1)=lD fu x0 x1:=rfl
def mj:=bQ [rL,mh,rJ,yf,ml,rI] Tryz.func117 [y3,y3] [i6] OS
def aO(fu:Nat)(x0:AW×AD)(x1:AW×AD):Option Int:=Ac (OS fu (x0.1,x1.1)) fun r1=>some r1
abbrev Tw fu(x:_×_):=aO fu x.1 x.2
theorem d149(fu x0 x1):Tw fu (x0,x1)=aO fu x0 x1:=rfl
def ye:=bQ [mj] Tryz.func116 [q7,q7] [i6] Tw
def lC(fu:Nat)(x0:Int)(x1:Int)(x2:List (AW×AD)):Option (List (AW×AD)):=Ab .i64 (x0+1)<|Ad fu (fun(z1:List (AW×AD)×Int) nx2=>bif decide (z1.2<x1)then Ad fu (fun(z3:List (AW×AD)×Int) nx4=>bif decide (x0<z3.2)then Ac (idx z3.1 z3.2) fun r5=>Ab .i64 (z3.2-1)<|Ac (idx z3.1 (z3.2-1)) fun r6=>Ac (Tw fu (r5,r6)) fun r7=>bif decide (r7<0)then Ab .i64 (z3.2-1)<|Ab .i64 (z3.2-1)<|Ac (idx z3.1 (z3.2-1)) fun r8=>Ac (idx z3.1 z3.2) fun r9=>Ac (idx z3.1 z3.2) fun r10=>Ac (idx (List.set z3.1 (Int.toNat z3.2) r8) (z3.2-1)) fun r11=>Ab .i64 (z3.2-1)<|nx4 (((List.set z3.1 (Int.toNat z3.2) r8).set (Int.toNat (z3.2-1)) r9),(z3.2-1))else Ab .i64 (z1.2+1)<|nx2 (z3.1,(z1.2+1))else Ab .i64 (z1.2+1)<|nx2 ((z3.1,(z1.2+1)))) ((z1.1,z1.2))else some z1.1) ((x2,(x0+1)))
abbrev ah fu(x:_×_×_):=lC fu x.1 x.2.1 x.2.2
theorem d150(fu x0 x1 x2):ah fu (x0,x1,x2)=lC fu x0 x1 x2:=rfl
def yd:=bP [ye] Tryz.func192 ⟨[.Ae i6, .Ae i6, .Ae Mi],[(0, .Az 0),(1, .v 0 i6),(2, .v 1 i6),(3, .AA 116 [] [])],[(0, .row 72 2)],1⟩ ⟨[.Ae Mi],[],[(0, .row 72 0)],1⟩ 0 [] ah (la:=lk [(1,⟨[.Ae Mi, .Ae i6],[(0, .Aa),(1, .Aa),(2, .Aa),(3, .Aa),(8, .v 1 i6)],[(0, .row 72 0)],1⟩),(4,⟨[.Ae Mi, .Ae i6],[(0, .Aa),(1, .Aa),(2, .Aa),(3, .Aa),(8, .Aa),(9, .v 1 i6)],[(0, .row 72 0)],1⟩)])
def aN(fu:Nat)(x0:Int)(x1:Int)(x2:Int)(x3:List (AW×AD)):Option (List (AW×AD)):=Ad fu (fun(z1:PUnit) nx2=>Ab .i64 (x1-x0)<|bif decide (x1-x0<=12)then Ac (ah fu (x0,x1,x3)) fun r3=>some r3 else bif decide (x2=0)then none else none) (())
abbrev ae fu(x:_×_×_×_):=aN fu x.1 x.2.1 x.2.2.1 x.2.2.2
theorem d151(fu x0 x1 x2 x3):ae fu (x0,x1,x2,x3)=aN fu x0 x1 x2 x3:=rfl
def yc:=bP [yd] Tryz.func153 ⟨[.Ae i6, .Ae i6, .Ae i6, .Ae Mi],[(0, .Az 0),(1, .v 0 i6),(2, .v 1 i6),(3, .v 2 i6),(4, .AA 116 [] [])],[(0, .row 72 3)],1⟩ ⟨[.Ae Mi],[],[(0, .row 72 0)],1⟩ 0 [] ae (la:=lk [(2,⟨[],[(0, .Aa),(1, .Aa),(2, .Aa),(3, .Aa),(4, .Aa),(10, .Aa),(11, .Aa)],[(0, .c 0)],1⟩)])
def aM(fu:Nat)(x0:List (AW×AD)):Option (List (AW×AD)):=Ac (dP fu (Int.ofNat (List.length x0 %Int.natAbs (18446744073709551616:Int)))) fun r1=>Ac (ae fu (0,(x0.length:Int),r1,x0)) fun r2=>some r2
abbrev WK fu(x:_):=aM fu x
theorem d152(fu x0):WK fu x0=aM fu x0:=rfl
def yb:=bP [yc,tI] Tryz.func115 ⟨[.Ae Mi],[(0, .Az 0),(1, .AA 116 [] [])],[(0, .row 72 0)],1⟩ ⟨[.Ae Mi],[],[(0, .row 72 0)],1⟩ 0 [] WK
def lB(fu:Nat)(x0:BK)(x1:Int):Option (AD×Bool):=bif decide ((0:Int)<=x1)then bif decide (x1<(x0.1.length:Int))then Ac (idx x0.1 x1) fun r1=>some ((r1,true))else bif decide ((0:Int)<=x1)then bif decide ((0:Int)<x0.2.length)then Ac (idx x0.2 (0:Int)) fun r2=>some ((r2,true))else some (((Vl.mk false (false,false,false,([],[]),[]) [] [],Vl.mk false (false,false,false,([],[]),[]) [] []),false))else some (((Vl.mk false (false,false,false,([],[]),[]) [] [],Vl.mk false (false,false,false,([],[]),[]) [] []),false))else bif decide ((0:Int)<=x1)then bif decide ((0:Int)<x0.2.length)then Ac (idx x0.2 (0:Int)) fun r3=>some ((r3,true))else some (((Vl.mk false (false,false,false,([],[]),[]) [] [],Vl.mk false (false,false,false,([],[]),[]) [] []),false))else some (((Vl.mk false (false,false,false,([],[]),[]) [] [],Vl.mk false (false,false,false,([],[]),[]) [] []),false))
abbrev Qb fu(x:_×_):=lB fu x.1 x.2
theorem d153(fu x0 x1):Qb fu (x0,x1)=lB fu x0 x1:=rfl
def ya:=bQ [] Tryz.func121 [Cn,i6] [BD, .bool] Qb
def lA(fu:Nat)(x0:Bool)(x1:Bool):Option Bool:=bif x0 then some ((!x1))else some false
abbrev Tv fu(x:_×_):=lA fu x.1 x.2
theorem d154(fu x0 x1):Tv fu (x0,x1)=lA fu x0 x1:=rfl
def x_:=bQ [] Tryz.func167 [.bool, .bool] [.bool] Tv
def qV(fu:Nat):Option CA:=some (([((-100000000000:Int),100000000000)],[]))
abbrev jY(fu:Nat)(_:Unit):=qV fu
theorem d155(fu):jY fu () =qV fu:=rfl
def x9:=bQ [] Tryz.func231 [] [K7] jY (pt:=lg [(1,[.Nd 0 0])])
def aL(fu:Nat):Option CA:=Ac (jY fu ()) fun r1=>some ((r1.1,[((-999999999999999:Int),999999999999999)]))
abbrev Tu(fu:Nat)(_:Unit):=aL fu
theorem d156(fu):Tu fu () =aL fu:=rfl
def rH:=bQ [x9] Tryz.func164 [] [K7] Tu (pt:=lg [(3,[.Nd 0 1])])
def qU(fu:Nat)(x0:List (Int×Int))(x1:Int×Int):Option ((Int×Int)×List (Int×Int)):=some ((x1,x0))
abbrev Z' fu(x:_×_):=qU fu x.1 x.2
theorem d157(fu x0 x1):Z' fu (x0,x1)=qU fu x0 x1:=rfl
def x8:=bP [] Tryz.func272 ⟨[.Ae BJ, .Ae D'],[(0, .v 0 BJ),(1, .v 1 D'),(2, .AA 138 [] []),(3, .AA 273 [] [])],[],0⟩ ⟨[.Ae D', .Ae BJ],[(0, .AA 294 [] [0,1,2,3])],[(0, .Af 68 [(2, .v 0 D')]),(1, .Af 22 [(1, .v 1 BJ)]),(2, .Af 197 [(1, .AA 273 [] [])]),(3, .Af 197 [(1, .AA 138 [] [])])],4⟩ 1 [] Z'
def lu(fu:Nat)(x0:Int):Option Int:=Ab .i64 (x0-1)<|some ((x0-1))
abbrev Z_ fu(x:_):=lu fu x
theorem d158(fu x0):Z_ fu x0=lu fu x0:=rfl
def x7:=bQ [] Tryz.func273 [i6] [i6] Z_
def qT(fu:Nat)(x0:Int×Int)(x1:List (Int×Int)):Option (List (Int×Int)×Bool):=Ad fu (fun(z1:Int×Nat) nx2=>bif decide ((z1.2:Int)<x1.length)then Ac (idx x1 z1.2) fun r3=>Ac (Z_ fu r3.1) fun r4=>bif decide (z1.1<=r4)then GF ((z1.1,r4)) (some (([],true))) (Ac (Zo fu r3.2) fun r5=>nx2 ((r5,z1.2+1)))else Ac (Zo fu r3.2) fun r6=>nx2 (r6,z1.2+1)else bif decide (z1.1<=x0.2)then GF ((z1.1,x0.2)) (some (([],true))) (some (([],true)))else some (([],true))) ((x0.1,0))
abbrev Z9 fu(x:_×_):=qT fu x.1 x.2
theorem d159(fu x0 x1):Z9 fu (x0,x1)=qT fu x0 x1:=rfl
def x6:=bI [zW,x7] Tryz.func294 ⟨[.Ae D', .Ae BJ],[(0, .Aa),(1, .loc 0 0),(2, .loc 1 0),(3, .loc 2 0),(4, .loc 3 0)],[(0, .Af 68 [(2, .v 0 D')]),(1, .Af 22 [(1, .v 1 BJ)]),(2, .Af 197 [(1, .AA 273 [] [])]),(3, .Af 197 [(1, .AA 138 [] [])])],4⟩ 0 [D'] Z9 (la:=lk [(2,⟨[.Ae i6, .nat],[(0, .Aa),(1, .Aa),(3, .Aa),(4, .Aa),(6, .v 0 i6),(13, .Aa),(14, .Aa),(15, .AK 1 201)],[(3, .c 0),(2, .c 0),(0, .c 0),(1, .c 0)],5⟩)])
def lr(fu:Nat)(x0:Int×Int)(x1:List (Int×Int)):Option (List (Int×Int)×(Int×Int)×List (Int×Int)):=Ac (Z9 fu (x0,x1)) fun r1=>E_ (fun(y2:Int×Int) (z3:List (Int×Int)) nx4=>Ah (List.length z3+1<=Ak)<|nx4 ((z3++[y2]))) (fun z5=>Ma (r1.2)<|some ((z5,x0,x1))) (r1.1) ([])
abbrev Z8 fu(x:_×_):=lr fu x.1 x.2
theorem d160(fu x0 x1):Z8 fu (x0,x1)=lr fu x0 x1:=rfl
def x5:=bP [x6] Tryz.func293 ⟨[.Ae D', .Ae BJ],[(0, .nl),(1, .AA 294 [] [0,1,2,3])],[(0, .Af 68 [(2, .v 0 D')]),(1, .Af 22 [(1, .v 1 BJ)]),(2, .Af 197 [(1, .AA 273 [] [])]),(3, .Af 197 [(1, .AA 138 [] [])])],4⟩ ⟨[.Ae BJ, .Ae D', .Ae BJ],[(0, .v 0 BJ)],[(0, .Af 68 [(2, .v 1 D')]),(1, .Af 22 [(1, .v 2 BJ)]),(2, .Af 197 [(1, .AA 273 [] [])]),(3, .Af 197 [(1, .AA 138 [] [])])],4⟩ 1 [] Z8 (la:=lk [(2,⟨[.Ae BJ],[(2, .Aa),(4, .Aa),(6, .Aa)],[(4, .Af 22 [(1, .Az 6)]),(6, .row 68 0)],7⟩)]) (pt:=lg [(1,[.DD 2 0 68 D']),(4,[.fz 4])])
def lp(fu:Nat)(x0:Int×Int)(x1:List (Int×Int)):Option (List (Int×Int)×(Int×Int)×List (Int×Int)):=Ac (Z8 fu (x0,x1)) fun r1=>some ((r1.1,r1.2.1,r1.2.2))
abbrev Z7 fu(x:_×_):=lp fu x.1 x.2
theorem d161(fu x0 x1):Z7 fu (x0,x1)=lp fu x0 x1:=rfl
def xZ:=bP [x5] Tryz.func271 ⟨[.Ae D', .Ae BJ],[(0, .AA 294 [] [0,1,2,3])],[(0, .Af 68 [(2, .v 0 D')]),(1, .Af 22 [(1, .v 1 BJ)]),(2, .Af 197 [(1, .AA 273 [] [])]),(3, .Af 197 [(1, .AA 138 [] [])])],4⟩ ⟨[.Ae BJ, .Ae D', .Ae BJ],[(0, .v 0 BJ)],[(0, .Af 68 [(2, .v 1 D')]),(1, .Af 22 [(1, .v 2 BJ)]),(2, .Af 197 [(1, .AA 273 [] [])]),(3, .Af 197 [(1, .AA 138 [] [])])],4⟩ 1 [] Z7
def qS(fu:Nat)(x0:List (Int×Int))(x1:Int×Int):Option ((Int×Int)×List (Int×Int)):=some ((x1,x0))
abbrev Z6 fu(x:_×_):=qS fu x.1 x.2
theorem d162(fu x0 x1):Z6 fu (x0,x1)=qS fu x0 x1:=rfl
def xY:=bP [] Tryz.func272 ⟨[.Ae BJ, .Ae D'],[(0, .v 0 BJ),(1, .v 1 D'),(2, .AA 139 [] []),(3, .AA 274 [] [])],[],0⟩ ⟨[.Ae D', .Ae BJ],[(0, .AA 294 [] [0,1,2,3])],[(0, .Af 68 [(2, .v 0 D')]),(1, .Af 22 [(1, .v 1 BJ)]),(2, .Af 197 [(1, .AA 274 [] [])]),(3, .Af 197 [(1, .AA 139 [] [])])],4⟩ 1 [] Z6
def ll(fu:Nat)(x0:Int):Option Int:=Ab .i64 (x0-1)<|Ah ((10000:Int)≠0)<|Ab .i64 (Int.tmod (x0-1) (10000:Int))<|bif decide (Int.tmod (x0-1) (10000:Int)=0)then Ab .i64 (x0-2)<|some ((x0-2))else Ab .i64 (x0-1)<|some ((x0-1))
abbrev Z5 fu(x:_):=ll fu x
theorem d163(fu x0):Z5 fu x0=ll fu x0:=rfl
def xX:=bQ [] Tryz.func274 [i6] [i6] Z5
def qR(fu:Nat)(x0:Int×Int)(x1:List (Int×Int)):Option (List (Int×Int)×Bool):=Ad fu (fun(z1:Int×Nat) nx2=>bif decide ((z1.2:Int)<x1.length)then Ac (idx x1 z1.2) fun r3=>Ac (Z5 fu r3.1) fun r4=>bif decide (z1.1<=r4)then GF ((z1.1,r4)) (some (([],true))) (Ac (Zn fu r3.2) fun r5=>nx2 ((r5,z1.2+1)))else Ac (Zn fu r3.2) fun r6=>nx2 (r6,z1.2+1)else bif decide (z1.1<=x0.2)then GF ((z1.1,x0.2)) (some (([],true))) (some (([],true)))else some (([],true))) ((x0.1,0))
abbrev Z4 fu(x:_×_):=qR fu x.1 x.2
theorem d164(fu x0 x1):Z4 fu (x0,x1)=qR fu x0 x1:=rfl
def xW:=bI [zV,xX] Tryz.func294 ⟨[.Ae D', .Ae BJ],[(0, .Aa),(1, .loc 0 0),(2, .loc 1 0),(3, .loc 2 0),(4, .loc 3 0)],[(0, .Af 68 [(2, .v 0 D')]),(1, .Af 22 [(1, .v 1 BJ)]),(2, .Af 197 [(1, .AA 274 [] [])]),(3, .Af 197 [(1, .AA 139 [] [])])],4⟩ 0 [D'] Z4 (la:=lk [(2,⟨[.Ae i6, .nat],[(0, .Aa),(1, .Aa),(3, .Aa),(4, .Aa),(6, .v 0 i6),(13, .Aa),(14, .Aa),(15, .AK 1 201)],[(3, .c 0),(2, .c 0),(0, .c 0),(1, .c 0)],5⟩)])
def lj(fu:Nat)(x0:Int×Int)(x1:List (Int×Int)):Option (List (Int×Int)×(Int×Int)×List (Int×Int)):=Ac (Z4 fu (x0,x1)) fun r1=>E_ (fun(y2:Int×Int) (z3:List (Int×Int)) nx4=>Ah (List.length z3+1<=Ak)<|nx4 ((z3++[y2]))) (fun z5=>Ma (r1.2)<|some ((z5,x0,x1))) (r1.1) ([])
abbrev Z3 fu(x:_×_):=lj fu x.1 x.2
theorem d165(fu x0 x1):Z3 fu (x0,x1)=lj fu x0 x1:=rfl
def xV:=bP [xW] Tryz.func293 ⟨[.Ae D', .Ae BJ],[(0, .nl),(1, .AA 294 [] [0,1,2,3])],[(0, .Af 68 [(2, .v 0 D')]),(1, .Af 22 [(1, .v 1 BJ)]),(2, .Af 197 [(1, .AA 274 [] [])]),(3, .Af 197 [(1, .AA 139 [] [])])],4⟩ ⟨[.Ae BJ, .Ae D', .Ae BJ],[(0, .v 0 BJ)],[(0, .Af 68 [(2, .v 1 D')]),(1, .Af 22 [(1, .v 2 BJ)]),(2, .Af 197 [(1, .AA 274 [] [])]),(3, .Af 197 [(1, .AA 139 [] [])])],4⟩ 1 [] Z3 (la:=lk [(2,⟨[.Ae BJ],[(2, .Aa),(4, .Aa),(6, .Aa)],[(4, .Af 22 [(1, .Az 6)]),(6, .row 68 0)],7⟩)]) (pt:=lg [(1,[.DD 2 0 68 D']),(4,[.fz 4])])
def lh(fu:Nat)(x0:Int×Int)(x1:List (Int×Int)):Option (List (Int×Int)×(Int×Int)×List (Int×Int)):=Ac (Z3 fu (x0,x1)) fun r1=>some ((r1.1,r1.2.1,r1.2.2))
abbrev Z2 fu(x:_×_):=lh fu x.1 x.2
theorem d166(fu x0 x1):Z2 fu (x0,x1)=lh fu x0 x1:=rfl
def xU:=bP [xV] Tryz.func271 ⟨[.Ae D', .Ae BJ],[(0, .AA 294 [] [0,1,2,3])],[(0, .Af 68 [(2, .v 0 D')]),(1, .Af 22 [(1, .v 1 BJ)]),(2, .Af 197 [(1, .AA 274 [] [])]),(3, .Af 197 [(1, .AA 139 [] [])])],4⟩ ⟨[.Ae BJ, .Ae D', .Ae BJ],[(0, .v 0 BJ)],[(0, .Af 68 [(2, .v 1 D')]),(1, .Af 22 [(1, .v 2 BJ)]),(2, .Af 197 [(1, .AA 274 [] [])]),(3, .Af 197 [(1, .AA 139 [] [])])],4⟩ 1 [] Z2
def ld(fu:Nat)(x0:CA):Option CA:=Ac (RM fu x0) fun r1=>Ac (Tu fu ()) fun r2=>Ac (idx r2.1 (0:Int)) fun r3=>Ac (Z' fu (r1.1,r3)) fun r4=>Ac (Z7 fu (r4.1,r4.2)) fun r5=>Ac (idx r2.2 (0:Int)) fun r6=>Ac (Z6 fu (r1.2,r6)) fun r7=>Ac (Z2 fu (r7.1,r7.2)) fun r8=>Ac (RM fu (r5.1,r8.1)) fun r9=>some r9
abbrev Z1 fu(x:_):=ld fu x
theorem d167(fu x0):Z1 fu x0=ld fu x0:=rfl
def xT:=bQ [rp,rH,xZ,xU,x8,xY] Tryz.func233 [K7] [K7] Z1
def aK(fu:Nat)(x0:List (Int×Int))(x1:List (Int×Int)):Option (List (Int×Int)):=Ad fu (fun(z1:List (Int×Int)×Nat) nx2=>bif decide ((z1.2:Int)<x0.length)then Ac (idx x0 z1.2) fun r3=>Ad fu (fun(z4:List (Int×Int)×Nat) nx5=>bif decide ((z4.2:Int)<x1.length)then Ac (idx x1 z4.2) fun r6=>Ab .i64 (if r6.1>r3.1 then r6.1 else r3.1)<|Ab .i64 (if r6.2<r3.2 then r6.2 else r3.2)<|bif decide ((if r3.1<r6.1 then r6.1 else r3.1)<=(if r6.2<r3.2 then r6.2 else r3.2))then Ah (List.length z4.1+1<=Ak)<|nx5 ((z4.1++[((if r3.1<r6.1 then r6.1 else r3.1),(if r6.2<r3.2 then r6.2 else r3.2))]),z4.2+1)else nx5 (z4.1,z4.2+1)else nx2 ((z4.1,z1.2+1))) ((z1.1,0))else some z1.1) (([],0))
abbrev WJ fu(x:_×_):=aK fu x.1 x.2
theorem d168(fu x0 x1):WJ fu (x0,x1)=aK fu x0 x1:=rfl
def xS:=bQ [] Tryz.func270 [BJ,BJ] [BJ] WJ (la:=lk [(3,⟨[.Ae BJ, .nat],[(1, .Aa),(5, .Az 0),(11, .Aa),(12, .Aa),(13, .AK 1 301)],[(0, .row 68 0)],1⟩),(6,⟨[.Ae BJ, .nat],[(1, .Aa),(5, .Az 0),(7, .Aa),(11, .Aa),(12, .Aa),(13, .Aa),(17, .Aa),(18, .Aa),(19, .AK 1 601)],[(1, .c 0),(0, .row 68 0)],2⟩)]) (pt:=lg [(2,[.own 5 68 D']),(13,[.fz 4])])
def k_(fu:Nat)(x0:CA)(x1:CA):Option CA:=Ac (RM fu x0) fun r1=>Ac (RM fu x1) fun r2=>Ac (WJ fu (r1.1,r2.1)) fun r3=>Ac (WJ fu (r1.2,r2.2)) fun r4=>Ac (RM fu (r3,r4)) fun r5=>some r5
abbrev Z0 fu(x:_×_):=k_ fu x.1 x.2
theorem d169(fu x0 x1):Z0 fu (x0,x1)=k_ fu x0 x1:=rfl
def xR:=bQ [rp,xS] Tryz.func232 [K7,K7] [K7] Z0
def kZ(fu:Nat)(x0:CA)(x1:CA):Option CA:=Ac (Z1 fu x1) fun r1=>Ac (Z0 fu (x0,r1)) fun r2=>some r2
abbrev Tt fu(x:_×_):=kZ fu x.1 x.2
theorem d170(fu x0 x1):Tt fu (x0,x1)=kZ fu x0 x1:=rfl
def rG:=bQ [xR,xT] Tryz.func168 [K7,K7] [K7] Tt
def kY(fu:Nat)(x0:Gy)(x1:Gy):Option Gy:=Ac (Zm fu x0) fun r1=>Ac (Zm fu x1) fun r2=>Ac (Tv fu (r1.1,r2.1)) fun r3=>Ac (Tv fu (r1.2.1,r2.2.1)) fun r4=>Ac (Tv fu (r1.2.2.1,r2.2.2.1)) fun r5=>Ac (Tt fu (r1.2.2.2.1,r2.2.2.2.1)) fun r6=>Ac (Qc fu (r1.2.2.2.2,r2.2.2.2.2)) fun r7=>some ((r3,r4,r5,r6,r7))
abbrev WI fu(x:_×_):=kY fu x.1 x.2
theorem d171(fu x0 x1):WI fu (x0,x1)=kY fu x0 x1:=rfl
def xQ:=bP [wR,rJ,x_,rG] Tryz.func147 ⟨[.Ae y8, .Ae y8],[(0, .v 0 y8),(1, .v 1 y8),(2, .AA 167 [] []),(3, .AA 168 [] []),(4, .AA 155 [] [])],[],0⟩ ⟨[.Ae y8],[(0, .v 0 y8)],[],0⟩ 1 [] WI
def kX(fu:Nat)(x0:Gy)(x1:Gy):Option Gy:=Ac (WI fu (x0,x1)) fun r1=>some r1
abbrev WH fu(x:_×_):=kX fu x.1 x.2
theorem d172(fu x0 x1):WH fu (x0,x1)=kX fu x0 x1:=rfl
def xP:=bQ [xQ] Tryz.func130 [y8,y8] [y8] WH
def kW(fu:Nat)(x0:Gy)(x1:Gy):Option Bool:=Ac (WH fu (x0,x1)) fun r1=>Ac (TA fu r1) fun r2=>some r2
abbrev WG fu(x:_×_):=kW fu x.1 x.2
theorem d173(fu x0 x1):WG fu (x0,x1)=kW fu x0 x1:=rfl
def xO:=bQ [mu,xP] Tryz.func86 [y8,y8] [.bool] WG
def kV(fu:Nat)(x0:AW)(x1:Ax):Option Bool:=bif decide ((x0.length:Int)=0)then some false else Ac (pJ fu x0) fun r1=>bif !r1 then some false else Ad fu (fun(z2:Int×Int) nx3=>bif decide (z2.2<(x1.length:Int))then Ac (idx x0 z2.1) fun r4=>Ad fu (fun(z5:Nat) nx6=>bif decide ((z5:Int)<r4.2.length)then Ac (idx r4.2 z5) fun r7=>Ac (EE x1 z2.2) fun r8=>bif decide (r7.1<=r8)then Ac (EE x1 z2.2) fun r9=>bif decide (r9<=r7.2.1)then Ab .i64 (z2.2+1)<|nx3 (r7.2.2,(z2.2+1))else nx6 (z5+1)else nx6 (z5+1)else some false) (0)else Ac (idx x0 z2.1) fun r10=>some r10.1) ((0,0))
abbrev WE fu(x:_×_):=kV fu x.1 x.2
theorem d174(fu x0 x1):WE fu (x0,x1)=kV fu x0 x1:=rfl
def xN:=bQ [zY] Tryz.func35 [y3, .str] [.bool] WE (la:=lk [(5,⟨[.Ae i6, .Ae i6],[(1, .Aa),(2, .Aa),(5, .v 0 i6),(20, .Aa),(21, .v 1 i6)],[(0, .c 0)],1⟩),(8,⟨[.nat],[(1, .Aa),(2, .Aa),(6, .Aa),(20, .Aa),(21, .Aa),(29, .Aa),(30, .Aa),(31, .AK 0 800)],[(0, .c 0)],1⟩)])
def kU(fu:Nat)(x0:Bp)(x1:Ax):Option (AD×Int):=Ad fu (fun(z1:Nat) nx2=>bif decide ((z1:Int)<x0.1.length)then Ac (idx x0.1 z1) fun r3=>bif decide (r3.1=x1)then some ((r3.2.2,r3.2.1))else nx2 (z1+1)else Ad fu (fun(z4:Nat) nx5=>bif decide ((z4:Int)<x0.2.length)then Ac (idx x0.2 z4) fun r6=>Ac (WE fu (r6.1,x1)) fun r7=>bif r7 then some ((r6.2,3))else nx5 (z4+1)else some (((Vl.mk false (false,false,false,([],[]),[]) [] [],Vl.mk false (false,false,false,([],[]),[]) [] []),3))) (0)) (0)
abbrev OR fu(x:_×_):=kU fu x.1 x.2
theorem d175(fu x0 x1):OR fu (x0,x1)=kU fu x0 x1:=rfl
def rF:=bQ [xN] Tryz.func21 [q8, .str] [BD,i6] OR (la:=lk [(2,⟨[.nat],[(1, .Aa),(2, .Aa),(4, .Aa),(11, .Aa),(12, .Aa),(13, .AK 0 200)],[(1, .c 0),(0, .c 0)],2⟩),(8,⟨[.nat],[(1, .Aa),(4, .Aa),(27, .Aa),(28, .Aa),(29, .AK 0 800)],[(1, .c 0)],2⟩)])
def kT(fu:Nat)(x0:Bool)(x1:Bool):Option Bool:=bif x0 then some x1 else some false
abbrev ZZ fu(x:_×_):=kT fu x.1 x.2
theorem d176(fu x0 x1):ZZ fu (x0,x1)=kT fu x0 x1:=rfl
def xM:=bQ [] Tryz.func162 [.bool, .bool] [.bool] ZZ
def qQ(fu:Nat)(x0:AW)(x1:AW):Option AW:=Ac (I8 fu x0) fun r1=>Ac (I8 fu x1) fun r2=>Ad fu (fun(z3:List (Int×Int)×AW×Nat) nx4=>bif decide ((z3.2.2:Int)<z3.1.length)then Ac (idx z3.1 z3.2.2) fun r5=>Ac (KY fu (r1,r5.1)) fun r6=>Ac (KY fu (r2,r5.2)) fun r7=>Ac (ZZ fu (r6,r7)) fun r8=>Ac (I_ fu (r1,r5.1,(List.set (List.replicate 256 false) 0 true))) fun r9=>Ac (I_ fu (r2,r5.2,r9)) fun r10=>Ad fu (fun(z11:List (Int×Int)×List (Int×Int×Int)×Int) nx12=>bif decide (z11.2.2<256)then Ah ((0:Int)<=z11.2.2/\z11.2.2<(↑256:Int))<|Ac (idx r10 (↑(0+Int.toNat z11.2.2*1):Int)) fun r13=>bif r13 then Ab .u8 (z11.2.2)<|Ab .u8 (z11.2.2)<|Ac (KX fu (r1,r5.1,z11.2.2)) fun r14=>Ab .u8 (z11.2.2)<|Ac (KX fu (r2,r5.2,z11.2.2)) fun r15=>Ac (Qg fu ((r14,r15),z11.1)) fun r16=>Ah (List.length z11.2.1+1<=Ak)<|Ab .i64 (((z11.2.1++[(z11.2.2,0,r16.1)]).length:Int)-1)<|Ab .u8 (z11.2.2)<|Ac (idx (z11.2.1++[(z11.2.2,0,r16.1)]) (((z11.2.1++[(z11.2.2,0,r16.1)]).length:Int)-1)) fun r17=>Ab .i64 (z11.2.2+1)<|nx12 (r16.2,((z11.2.1++[(z11.2.2,0,r16.1)]).set (Int.toNat (((z11.2.1++[(z11.2.2,0,r16.1)]).length:Int)-1)) (r17.1,z11.2.2,r17.2.2)),(z11.2.2+1))else Ab .i64 ((z11.2.1.length:Int)-1)<|Ab .u8 (z11.2.2)<|Ac (idx z11.2.1 ((z11.2.1.length:Int)-1)) fun r18=>Ab .i64 (z11.2.2+1)<|nx12 (z11.1,(z11.2.1.set (Int.toNat ((z11.2.1.length:Int)-1)) (r18.1,z11.2.2,r18.2.2)),(z11.2.2+1))else Ah (List.length z3.2.1+1<=Ak)<|nx4 ((z11.1,(z3.2.1++[(r8,z11.2.1)]),z3.2.2+1))) ((z3.1,[],0))else Ac (dQ fu z3.2.1) fun r19=>some r19.1) (([(0,0)],[],0))
abbrev ZY fu(x:_×_):=qQ fu x.1 x.2
theorem d177(fu x0 x1):ZY fu (x0,x1)=qQ fu x0 x1:=rfl
def xL:=bP [mh,xM,tK,mv,wP,my,mw] Tryz.func151 ⟨[.Ae y3, .Ae y3],[(0, .v 0 y3),(1, .v 1 y3),(2, .AA 162 [] [])],[],0⟩ ⟨[.Ae y3],[(0, .v 0 y3)],[],0⟩ 1 [] ZY (la:=lk [(6,⟨[.Ae BJ, .Ae Hb, .nat],[(2, .Aa),(3, .Aa),(4, .Aa),(6, .Aa),(7, .Aa),(8, .Aa),(9, .Az 5),(10, .AK 2 602)],[(4, .Af 245 [(1, .Az 3)]),(3, .row 244 0),(2, .c 0),(1, .c 0),(0, .c 0),(5, .row 95 1)],6⟩),(14,⟨[.Ae BJ, .Ae Si, .Ae i6],[(2, .Aa),(3, .Aa),(4, .Aa),(6, .Aa),(7, .Aa),(8, .Aa),(9, .Aa),(10, .Aa),(11, .Aa),(12, .Aa),(13, .Aa),(54, .v 2 i6)],[(8, .c 0),(7, .Af 95 [(1, .Aa),(1, .Az 9)]),(6, .c 0),(5, .c 0),(4, .Af 245 [(1, .Az 3)]),(3, .row 244 0),(2, .c 0),(1, .c 0),(0, .c 0),(9, .row 92 1)],10⟩)]) (pr:=lg [(21,[.fz 9])]) (pt:=lg [(5,[.own 9 95 q9]),(13,[.DD 12 1 92 q6])])
end
end Go.GV
namespace Go.GV
open Go Go.GK Go.Proofs
noncomputable section
def kS(fu:Nat)(x0:AW)(x1:AW):Option AW:=bif decide ((x0.length:Int)=0)then some []else bif decide ((x1.length:Int)=0)then some []else Ac (ZY fu (x0,x1)) fun r1=>some r1
abbrev WD fu(x:_×_):=kS fu x.1 x.2
theorem d178(fu x0 x1):WD fu (x0,x1)=kS fu x0 x1:=rfl
def xK:=bQ [xL] Tryz.func125 [y3,y3] [y3] WD
def cX:AY:=⟨[.Ae Cn, .Ae Cn],[(0, .v 0 Cn),(1, .loc 0 0),(2, .loc 1 0)],[(0, .Af 151 [(1, .AA 80 [] [])]),(1, .Af 74 [(2, .v 1 Cn)])],2⟩
def bX:AY:=⟨[.Ae .bool, .Ae Cn],[(0, .v 0 .bool)],[(0, .Af 151 [(1, .AA 80 [] [])]),(1, .Af 74 [(2, .v 1 Cn)])],2⟩
def cW:AY:=⟨[.Ae IA, .Ae Cn],[(0, .v 0 IA),(1, .AA 132 [] [0,1])],[(0, .Af 151 [(1, .AA 80 [] [])]),(1, .Af 74 [(2, .v 1 Cn)])],2⟩
def bW:AY:=⟨[.Ae i6, .Ae Cn],[(0, .v 0 i6)],[(0, .Af 151 [(1, .AA 80 [] [])]),(1, .Af 74 [(2, .v 1 Cn)])],2⟩
def cV:AY:=⟨[.Ae IA, .Ae Cn],[(0, .v 0 IA),(1, .AA 132 [] [0,1])],[(0, .Af 151 [(1, .AA 80 [] [])]),(1, .Af 74 [(2, .v 1 Cn)])],2⟩
def bV:AY:=⟨[.Ae .bool, .Ae Cn],[(0, .v 0 .bool)],[(0, .Af 151 [(1, .AA 80 [] [])]),(1, .Af 74 [(2, .v 1 Cn)])],2⟩
def cU:AY:=⟨[.Ae IA, .Ae IA],[(0, .v 0 IA),(1, .v 1 IA),(2, .AA 80 [] [])],[],0⟩
def bU:AY:=⟨[.Ae .bool],[(0, .v 0 .bool)],[],0⟩
def cT:AY:=⟨[.Ae q8, .Ae q8],[(0, .v 0 q8),(1, .loc 0 0),(2, .loc 1 0)],[(0, .Af 112 [(1, .AA 83 [] [])]),(1, .Af 58 [(2, .v 1 q8)])],2⟩
def bT:AY:=⟨[.Ae .bool, .Ae q8],[(0, .v 0 .bool)],[(0, .Af 112 [(1, .AA 83 [] [])]),(1, .Af 58 [(2, .v 1 q8)])],2⟩
def cR:AY:=⟨[.Ae Iz, .Ae q8],[(0, .v 0 Iz),(1, .AA 134 [] [0,1])],[(0, .Af 112 [(1, .AA 83 [] [])]),(1, .Af 58 [(2, .v 1 q8)])],2⟩
def bS:AY:=⟨[.Ae i6, .Ae q8],[(0, .v 0 i6)],[(0, .Af 112 [(1, .AA 83 [] [])]),(1, .Af 58 [(2, .v 1 q8)])],2⟩
def cQ:AY:=⟨[.Ae Iz, .Ae q8],[(0, .v 0 Iz),(1, .AA 134 [] [0,1])],[(0, .Af 112 [(1, .AA 83 [] [])]),(1, .Af 58 [(2, .v 1 q8)])],2⟩
def bR:AY:=⟨[.Ae .bool, .Ae q8],[(0, .v 0 .bool)],[(0, .Af 112 [(1, .AA 83 [] [])]),(1, .Af 58 [(2, .v 1 q8)])],2⟩
def cO:AY:=⟨[.Ae Iz, .Ae Iz],[(0, .v 0 Iz),(1, .v 1 Iz),(2, .AA 83 [] [])],[],0⟩
def bO:AY:=⟨[.Ae .bool],[(0, .v 0 .bool)],[],0⟩
abbrev dL:Type:=FP 132 cX bX 1 []×FP 169 cW bW 1 []×FP 131 cV bV 1 []×FP 87 cU bU 1 []×Jz 83 [q8,q8] [.bool]×FP 134 cT bT 1 []×FP 170 cR bS 1 []×FP 133 cQ bR 1 []×FP 88 cO bO 1 []×Jz 56 [(.nm 0),(.nm 0)] [.bool]×Jz 122 [BD,BD] [.bool]×Jz 80 [Cn,Cn] [.bool]
def G4(n:Nat):dL:=Nat.rec (motive:=fun _=>dL) (tP Tryz.func132,tP Tryz.func169,tP Tryz.func131,tP Tryz.func87,tQ Tryz.func83,tP Tryz.func134,tP Tryz.func170,tP Tryz.func133,tP Tryz.func88,tQ Tryz.func56,tQ Tryz.func122,tQ Tryz.func80) (fun fu g=>(sP [Fh (g.2.2.2.2.2.2.2.2.2.2.2)] fu Tryz.func132 cX bX 1 [],sP [Cu (g.1)] fu Tryz.func169 cW bW 1 [] (la:=lk [(2,⟨[.Ae Cn, .nat],[(0, .Aa),(1, .Aa),(7, .Aa),(8, .AK 1 201)],[(1, .Af 74 [(2, .v 0 Cn)]),(0, .Af 151 [(1, .AA 80 [] [])])],2⟩)]),sP [Cu (g.2.1)] fu Tryz.func131 cV bV 1 [],sP [Cu (g.2.2.1)] fu Tryz.func87 cU bU 1 [] (la:=lk [(2,⟨[.nat],[(1, .Aa),(5, .Aa),(9, .Aa),(10, .Aa),(11, .AK 0 200)],[(0, .Af 151 [(1, .AA 80 [] [])])],1⟩)]),sQ (Fh (g.2.2.2.2.2.2.2.2.2.2.1)::bs [rF,xK] fu) fu Tryz.func83 [q8,q8] [.bool] (la:=lk [(2,⟨[.nat],[(2, .Aa),(3, .Aa),(28, .Aa),(29, .Aa),(30, .AK 0 200)],[(2, .c 0),(1, .c 0),(0, .c 0)],3⟩),(5,⟨[.nat],[(2, .Aa),(3, .Aa),(28, .Aa),(29, .Aa),(30, .Aa),(34, .Aa),(35, .Aa),(36, .AK 0 500)],[(2, .c 0),(1, .c 0),(0, .c 0)],3⟩),(14,⟨[.nat],[(3, .Aa),(66, .Aa),(67, .Aa),(68, .AK 0 1400)],[(1, .c 0)],3⟩),(17,⟨[.nat],[(3, .Aa),(14, .Aa),(66, .Aa),(67, .Aa),(68, .Aa),(73, .Aa),(74, .Aa),(75, .AK 0 1700)],[(3, .c 0),(1, .c 0)],4⟩)]),sP [Fh (g.2.2.2.2.1)] fu Tryz.func134 cT bT 1 [],sP [Cu (g.2.2.2.2.2.1)] fu Tryz.func170 cR bS 1 [] (la:=lk [(2,⟨[.Ae q8, .nat],[(0, .Aa),(1, .Aa),(7, .Aa),(8, .AK 1 201)],[(1, .Af 58 [(2, .v 0 q8)]),(0, .Af 112 [(1, .AA 83 [] [])])],2⟩)]),sP [Cu (g.2.2.2.2.2.2.1)] fu Tryz.func133 cQ bR 1 [],sP [Cu (g.2.2.2.2.2.2.2.1)] fu Tryz.func88 cO bO 1 [] (la:=lk [(2,⟨[.nat],[(1, .Aa),(5, .Aa),(9, .Aa),(10, .Aa),(11, .AK 0 200)],[(0, .Af 112 [(1, .AA 83 [] [])])],1⟩)]),sQ (Cu (g.2.2.2.1)::Cu (g.2.2.2.2.2.2.2.2.1)::bs [mq,xO] fu) fu Tryz.func56 [(.nm 0),(.nm 0)] [.bool],sQ [Fh (g.2.2.2.2.2.2.2.2.2.1)] fu Tryz.func122 [BD,BD] [.bool],sQ (Fh (g.2.2.2.2.2.2.2.2.2.2.1)::bs [ya] fu) fu Tryz.func80 [Cn,Cn] [.bool] (la:=lk [(5,⟨[.nat],[(2, .Aa),(3, .Aa),(41, .Aa),(42, .Aa),(43, .AK 0 500)],[(1, .c 0),(0, .c 0)],2⟩)]))) n
abbrev ZX(fu:Nat)(x:BK×BK):Option (Bool×BK):=(G4 fu).1.1 x
abbrev ZW(fu:Nat)(x:(List BK)×BK):Option (Int×BK):=(G4 fu).2.1.1 x
abbrev ZV(fu:Nat)(x:(List BK)×BK):Option (Bool×BK):=(G4 fu).2.2.1.1 x
abbrev ZU(fu:Nat)(x:(List BK)×(List BK)):Option Bool:=(G4 fu).2.2.2.1.1 x
def xJ(fu:Nat):=Fh (G4 fu).2.2.2.2.1
abbrev Qa(fu:Nat)(x:Bp×Bp):Option Bool:=(G4 fu).2.2.2.2.1.1 x
abbrev ZT(fu:Nat)(x:Bp×Bp):Option (Bool×Bp):=(G4 fu).2.2.2.2.2.1.1 x
abbrev ZS(fu:Nat)(x:(List Bp)×Bp):Option (Int×Bp):=(G4 fu).2.2.2.2.2.2.1.1 x
abbrev ZR(fu:Nat)(x:(List Bp)×Bp):Option (Bool×Bp):=(G4 fu).2.2.2.2.2.2.2.1.1 x
abbrev ZQ(fu:Nat)(x:(List Bp)×(List Bp)):Option Bool:=(G4 fu).2.2.2.2.2.2.2.2.1.1 x
def xI(fu:Nat):=Fh (G4 fu).2.2.2.2.2.2.2.2.2.1
abbrev Le(fu:Nat)(x:(Vl)×(Vl)):Option Bool:=(G4 fu).2.2.2.2.2.2.2.2.2.1.1 x
abbrev I9(fu:Nat)(x:AD×AD):Option Bool:=(G4 fu).2.2.2.2.2.2.2.2.2.2.1.1 x
def xH(fu:Nat):=Fh (G4 fu).2.2.2.2.2.2.2.2.2.2.2
abbrev P_(fu:Nat)(x:BK×BK):Option Bool:=(G4 fu).2.2.2.2.2.2.2.2.2.2.2.1 x
def qP(fu:Nat)(x0:BK)(x1:BK):Option (Bool×BK):=Ac (P_ fu (x1,x0)) fun r1=>some ((r1,x1))
theorem d179(fu x0 x1):ZX (fu+1) (x0,x1)=qP fu x0 x1:=by kernel_rfl
def qO(fu:Nat)(x0:List BK)(x1:BK):Option (Int×BK):=Ad fu (fun(z1:BK×Nat) nx2=>bif decide ((z1.2:Int)<x0.length)then Ac (idx x0 z1.2) fun r3=>Ac (ZX fu (r3,z1.1)) fun r4=>bif r4.1 then some (((z1.2:Int),r4.2))else nx2 (r4.2,z1.2+1)else some (((-1:Int),z1.1))) ((x1,0))
theorem d180(fu x0 x1):ZW (fu+1) (x0,x1)=qO fu x0 x1:=by kernel_rfl
def qN(fu:Nat)(x0:List BK)(x1:BK):Option (Bool×BK):=Ac (ZW fu (x0,x1)) fun r1=>some ((decide ((0:Int)<=r1.1),r1.2))
theorem d181(fu x0 x1):ZV (fu+1) (x0,x1)=qN fu x0 x1:=by kernel_rfl
def qM(fu:Nat)(x0:List BK)(x1:List BK):Option Bool:=Ad fu (fun(z1:Nat) nx2=>bif decide ((z1:Int)<x0.length)then Ac (idx x0 z1) fun r3=>Ac (ZV fu (x1,r3)) fun r4=>bif !r4.1 then some false else nx2 (z1+1)else some true) (0)
theorem d182(fu x0 x1):ZU (fu+1) (x0,x1)=qM fu x0 x1:=by kernel_rfl
def qL(fu:Nat)(x0:Bp)(x1:Bp):Option Bool:=Ah ((x0.1.length:Int)=x0.1.length/\(x0.1.length:Int)=x0.1.length)<|Ad fu (fun(z1:Nat) nx2=>bif decide ((z1:Int)< ↑(2))then Ac (idx [x0.1,x1.1] (z1:Int)) fun r3=>Ad fu (fun(z4:Nat) nx5=>bif decide ((z4:Int)<r3.length)then Ac (idx r3 z4) fun r6=>Ac (OR fu (x0,r6.1)) fun r7=>Ac (OR fu (x1,r6.1)) fun r8=>bif decide (r8.2<r7.2)then some false else Ac (I9 fu (r7.1,r8.1)) fun r9=>bif !r9 then some false else nx5 (z4+1)else nx2 (z1+1)) (0)else Ad fu (fun(z10:Nat) nx11=>bif decide ((z10:Int)<x0.2.length)then Ac (idx x0.2 z10) fun r12=>Ad fu (fun(z13:Nat) nx14=>bif decide ((z13:Int)<x1.2.length)then Ac (idx x1.2 z13) fun r15=>Ac (I9 fu (r12.2,r15.2)) fun r16=>bif !r16 then Ac (WD fu (r12.1,r15.1)) fun r17=>bif decide ((0:Int)<r17.length)then some false else nx14 (z13+1)else nx14 (z13+1)else nx11 (z10+1)) (0)else some true) (0)) (0)
theorem d183(fu x0 x1):Qa (fu+1) (x0,x1)=qL fu x0 x1:=by kernel_rfl
def qK(fu:Nat)(x0:Bp)(x1:Bp):Option (Bool×Bp):=Ac (Qa fu (x1,x0)) fun r1=>some ((r1,x1))
theorem d184(fu x0 x1):ZT (fu+1) (x0,x1)=qK fu x0 x1:=by kernel_rfl
def qJ(fu:Nat)(x0:List Bp)(x1:Bp):Option (Int×Bp):=Ad fu (fun(z1:Bp×Nat) nx2=>bif decide ((z1.2:Int)<x0.length)then Ac (idx x0 z1.2) fun r3=>Ac (ZT fu (r3,z1.1)) fun r4=>bif r4.1 then some (((z1.2:Int),r4.2))else nx2 (r4.2,z1.2+1)else some (((-1:Int),z1.1))) ((x1,0))
theorem d185(fu x0 x1):ZS (fu+1) (x0,x1)=qJ fu x0 x1:=by kernel_rfl
def qI(fu:Nat)(x0:List Bp)(x1:Bp):Option (Bool×Bp):=Ac (ZS fu (x0,x1)) fun r1=>some ((decide ((0:Int)<=r1.1),r1.2))
theorem d186(fu x0 x1):ZR (fu+1) (x0,x1)=qI fu x0 x1:=by kernel_rfl
def qH(fu:Nat)(x0:List Bp)(x1:List Bp):Option Bool:=Ad fu (fun(z1:Nat) nx2=>bif decide ((z1:Int)<x0.length)then Ac (idx x0 z1) fun r3=>Ac (ZR fu (x1,r3)) fun r4=>bif !r4.1 then some false else nx2 (z1+1)else some true) (0)
theorem d187(fu x0 x1):ZQ (fu+1) (x0,x1)=qH fu x0 x1:=by kernel_rfl
def qG(fu:Nat)(x0:Vl)(x1:Vl):Option Bool:=bif Vl.any x0 then some (Vl.any x1)else bif Vl.any x1 then some (Vl.any x1)else Ac (Qd fu ((x0,Vl.mk false (false,false,false,([],[]),[]) [] []),x1,Vl.mk false (false,false,false,([],[]),[]) [] [])) fun r1=>bif r1 then some true else Ac (WG fu (Vl.sc x0,Vl.sc x1)) fun r2=>bif !r2 then some false else Ac (ZU fu (Vl.lists x0,Vl.lists x1)) fun r3=>bif r3 then Ac (ZQ fu (Vl.structs x0,Vl.structs x1)) fun r4=>some r4 else some false
theorem d188(fu x0 x1):Le (fu+1) (x0,x1)=qG fu x0 x1:=by kernel_rfl
def qF(fu:Nat)(x0:AD)(x1:AD):Option Bool:=Ac (Le fu (x0.1,x1.1)) fun r1=>bif r1 then Ac (Le fu (x0.2,x1.2)) fun r2=>some r2 else some false
theorem d189(fu x0 x1):I9 (fu+1) (x0,x1)=qF fu x0 x1:=by kernel_rfl
def qE(fu:Nat)(x0:BK)(x1:BK):Option Bool:=bif decide ((x0.1.length:Int)<x1.1.length)then some false else bif !decide ((0:Int)<x1.2.length)then bif decide ((x1.1.length:Int)<x0.1.length)then some false else bif decide ((0:Int)<x0.2.length)then some false else Ad fu (fun(z1:Nat) nx2=>bif decide ((z1:Int)<x0.1.length)then Ac (idx x0.1 z1) fun r3=>Ac (Qb fu (x1,(z1:Int))) fun r4=>Ac (I9 fu (r3,r4.1)) fun r5=>bif !r5 then some false else nx2 (z1+1)else bif decide ((x0.2.length:Int)=0)then some true else Ac (idx x0.2 (0:Int)) fun r6=>Ac (idx x1.2 (0:Int)) fun r7=>Ac (I9 fu (r6,r7)) fun r8=>some r8) (0)else Ad fu (fun(z9:Nat) nx10=>bif decide ((z9:Int)<x0.1.length)then Ac (idx x0.1 z9) fun r11=>Ac (Qb fu (x1,(z9:Int))) fun r12=>Ac (I9 fu (r11,r12.1)) fun r13=>bif !r13 then some false else nx10 (z9+1)else bif decide ((x0.2.length:Int)=0)then some true else Ac (idx x0.2 (0:Int)) fun r14=>Ac (idx x1.2 (0:Int)) fun r15=>Ac (I9 fu (r14,r15)) fun r16=>some r16) (0)
theorem d190(fu x0 x1):P_ (fu+1) (x0,x1)=qE fu x0 x1:=by kernel_rfl
def qD(fu:Nat)(x0:BK):Option Vl:=some (Vl.mk false (false,false,false,([],[]),[]) [x0] [])
abbrev ZP fu(x:_):=qD fu x
theorem d191(fu x0):ZP fu x0=qD fu x0:=rfl
def xG:=bQ [] Tryz.func81 [Cn] [(.nm 0)] ZP (pt:=lg [(1,[.Nd 2 7])])
def kR(fu:Nat)(x0:Bool)(x1:Bool):Option Int:=bif x0==x1 then some 0 else bif x0 then some ((-1:Int))else some 1
abbrev Ts fu(x:_×_):=kR fu x.1 x.2
theorem d192(fu x0 x1):Ts fu (x0,x1)=kR fu x0 x1:=rfl
def rE:=bQ [] Tryz.func215 [.bool, .bool] [i6] Ts
def kQ(fu:Nat)(x0:Vl)(x1:Vl):Option (Int×AD):=Ac (Ts fu (Vl.any x0,Vl.any x1)) fun r1=>some ((r1,x0,x1))
abbrev WC fu(x:_×_):=kQ fu x.1 x.2
theorem d193(fu x0 x1):WC fu (x0,x1)=kQ fu x0 x1:=rfl
def xF:=bP [rE] Tryz.func214 ⟨[.Ae (.nm 0), .Ae (.nm 0)],[(0, .loc 0 0),(1, .loc 1 0)],[(0, .Af 33 [(9, .v 0 (.nm 0))]),(1, .Af 33 [(9, .v 1 (.nm 0))])],2⟩ ⟨[.Ae i6, .Ae (.nm 0), .Ae (.nm 0)],[(0, .v 0 i6)],[(0, .Af 33 [(9, .v 1 (.nm 0))]),(1, .Af 33 [(9, .v 2 (.nm 0))])],2⟩ 1 [] WC
def kP(fu:Nat)(x0:CA)(x1:CA):Option Int:=Ac (Tt fu (x0,x1)) fun r1=>Ac (Qf fu r1) fun r2=>Ac (Tt fu (x1,x0)) fun r3=>Ac (Qf fu r3) fun r4=>bif !r2.2 then bif !r4.2 then some 0 else bif !r4.2 then some ((-1:Int))else bif r2.2 then Ac (TD fu (r2.1,r4.1)) fun r5=>bif r5 then some ((-1:Int))else some 1 else some 1 else bif !r4.2 then some ((-1:Int))else bif r2.2 then Ac (TD fu (r2.1,r4.1)) fun r6=>bif r6 then some ((-1:Int))else some 1 else some 1
abbrev Tr fu(x:_×_):=kP fu x.1 x.2
theorem d194(fu x0 x1):Tr fu (x0,x1)=kP fu x0 x1:=rfl
def xE:=bQ [rM,rN,rG] Tryz.func163 [K7,K7] [i6] Tr
def kO(fu:Nat)(x0:Gy)(x1:Gy):Option Int:=Ac (dO fu x0) fun r1=>bif !r1 then some 0 else Ac (dO fu x1) fun r2=>bif !r2 then some 0 else Ad fu (fun(z3:Int) nx4=>bif decide (z3<3)then Ah ((0:Int)<=z3/\z3<(↑3:Int))<|Ac (idx [(x0.1,x1.1),(x0.2.1,x1.2.1),(x0.2.2.1,x1.2.2.1)] z3) fun r5=>bif decide ((r5.1::[r5.2])=(true::[false]))then some ((-1:Int))else bif decide ((r5.1::[r5.2])=(false::[true]))then some 1 else Ab .i64 (z3+1)<|nx4 (z3+1)else Ac (Tr fu (x0.2.2.2.1,x1.2.2.2.1)) fun r6=>bif decide (r6≠0)then some r6 else Ac (OS fu (x0.2.2.2.2,x1.2.2.2.2)) fun r7=>some r7) ((0:Int))
abbrev Tq fu(x:_×_):=kO fu x.1 x.2
theorem d195(fu x0 x1):Tq fu (x0,x1)=kO fu x0 x1:=rfl
def rD:=bQ [wT,mj,xE] Tryz.func126 [y8,y8] [i6] Tq (la:=lk [(4,⟨[.Ae i6],[(2, .Aa),(3, .Aa),(32, .Aa),(33, .v 0 i6)],[(1, .c 0),(0, .c 0)],2⟩)])
def kN(fu:Nat)(x0:Vl)(x1:Vl):Option (Int×AD):=Ac (Tq fu (Vl.sc x0,Vl.sc x1)) fun r1=>some ((r1,x0,x1))
abbrev WB fu(x:_×_):=kN fu x.1 x.2
theorem d196(fu x0 x1):WB fu (x0,x1)=kN fu x0 x1:=rfl
def xD:=bP [rD] Tryz.func216 ⟨[.Ae (.nm 0), .Ae (.nm 0)],[(0, .loc 0 0),(1, .loc 1 0)],[(0, .Af 33 [(9, .v 0 (.nm 0))]),(1, .Af 33 [(9, .v 1 (.nm 0))])],2⟩ ⟨[.Ae i6, .Ae (.nm 0), .Ae (.nm 0)],[(0, .v 0 i6)],[(0, .Af 33 [(9, .v 1 (.nm 0))]),(1, .Af 33 [(9, .v 2 (.nm 0))])],2⟩ 1 [] WB
def kM(fu:Nat)(x0:BK)(x1:BK):Option (Int×BK×BK):=Ac (KV fu ((x0.1.length:Int),(x1.1.length:Int))) fun r1=>some ((r1,x0,x1))
abbrev WA fu(x:_×_):=kM fu x.1 x.2
theorem d197(fu x0 x1):WA fu (x0,x1)=kM fu x0 x1:=rfl
def xC:=bP [ml] Tryz.func251 ⟨[.Ae Cn, .Ae Cn],[(0, .loc 0 0),(1, .loc 1 0)],[(0, .Af 74 [(2, .v 0 Cn)]),(1, .Af 74 [(2, .v 1 Cn)])],2⟩ ⟨[.Ae i6, .Ae Cn, .Ae Cn],[(0, .v 0 i6)],[(0, .Af 74 [(2, .v 1 Cn)]),(1, .Af 74 [(2, .v 2 Cn)])],2⟩ 1 [] WA
def kL(fu:Nat)(x0:BK)(x1:BK):Option (Int×BK×BK):=Ac (Ts fu (decide ((0:Int)<x0.2.length),decide ((0:Int)<x1.2.length))) fun r1=>some ((r1,x0,x1))
abbrev Wz fu(x:_×_):=kL fu x.1 x.2
theorem d198(fu x0 x1):Wz fu (x0,x1)=kL fu x0 x1:=rfl
def xB:=bP [rE] Tryz.func252 ⟨[.Ae Cn, .Ae Cn],[(0, .loc 0 0),(1, .loc 1 0)],[(0, .Af 74 [(2, .v 0 Cn)]),(1, .Af 74 [(2, .v 1 Cn)])],2⟩ ⟨[.Ae i6, .Ae Cn, .Ae Cn],[(0, .v 0 i6)],[(0, .Af 74 [(2, .v 1 Cn)]),(1, .Af 74 [(2, .v 2 Cn)])],2⟩ 1 [] Wz
def kK(fu:Nat)(x0:Ax×Int×AD)(x1:Ax×Int×AD):Option (Int×(Ax×Int×AD)×Ax×Int×AD):=Ac (Lf fu (x0.1,x1.1)) fun r1=>some ((r1,x0,x1))
abbrev Wy fu(x:_×_):=kK fu x.1 x.2
theorem d199(fu x0 x1):Wy fu (x0,x1)=kK fu x0 x1:=rfl
def xA:=bP [rI] Tryz.func259 ⟨[.Ae Ek, .Ae Ek],[(0, .loc 0 0),(1, .loc 1 0)],[(0, .Af 62 [(20, .v 0 Ek)]),(1, .Af 62 [(20, .v 1 Ek)])],2⟩ ⟨[.Ae i6, .Ae Ek, .Ae Ek],[(0, .v 0 i6)],[(0, .Af 62 [(20, .v 1 Ek)]),(1, .Af 62 [(20, .v 2 Ek)])],2⟩ 1 [] Wy
def kJ(fu:Nat)(x0:Ax×Int×AD)(x1:Ax×Int×AD):Option (Int×(Ax×Int×AD)×Ax×Int×AD):=Ac (KV fu (x0.2.1,x1.2.1)) fun r1=>some ((r1,x0,x1))
abbrev Wx fu(x:_×_):=kJ fu x.1 x.2
theorem d200(fu x0 x1):Wx fu (x0,x1)=kJ fu x0 x1:=rfl
def xz:=bP [ml] Tryz.func260 ⟨[.Ae Ek, .Ae Ek],[(0, .loc 0 0),(1, .loc 1 0)],[(0, .Af 62 [(20, .v 0 Ek)]),(1, .Af 62 [(20, .v 1 Ek)])],2⟩ ⟨[.Ae i6, .Ae Ek, .Ae Ek],[(0, .v 0 i6)],[(0, .Af 62 [(20, .v 1 Ek)]),(1, .Af 62 [(20, .v 2 Ek)])],2⟩ 1 [] Wx
def kI(fu:Nat)(x0:AW×AD)(x1:AW×AD):Option (Int×(AW×AD)×AW×AD):=Ac (OS fu (x0.1,x1.1)) fun r1=>some ((r1,x0,x1))
abbrev Ww fu(x:_×_):=kI fu x.1 x.2
theorem d201(fu x0 x1):Ww fu (x0,x1)=kI fu x0 x1:=rfl
def xy:=bP [mj] Tryz.func265 ⟨[.Ae q7, .Ae q7],[(0, .loc 0 0),(1, .loc 1 0)],[(0, .Af 72 [(19, .v 0 q7)]),(1, .Af 72 [(19, .v 1 q7)])],2⟩ ⟨[.Ae i6, .Ae q7, .Ae q7],[(0, .v 0 i6)],[(0, .Af 72 [(19, .v 1 q7)]),(1, .Af 72 [(19, .v 2 q7)])],2⟩ 1 [] Ww
def cN:AY:=⟨[.Ae BD, .Ae BD],[(0, .loc 0 0),(1, .loc 1 0)],[(0, .Af 35 [(18, .v 0 BD)]),(1, .Af 35 [(18, .v 1 BD)])],2⟩
def bN:AY:=⟨[.Ae i6, .Ae BD, .Ae BD],[(0, .v 0 i6)],[(0, .Af 35 [(18, .v 1 BD)]),(1, .Af 35 [(18, .v 2 BD)])],2⟩
def cM:AY:=⟨[.Ae BD, .Ae BD],[(0, .loc 0 0),(1, .loc 1 0)],[(0, .Af 35 [(18, .v 0 BD)]),(1, .Af 35 [(18, .v 1 BD)])],2⟩
def bM:AY:=⟨[.Ae i6, .Ae BD, .Ae BD],[(0, .v 0 i6)],[(0, .Af 35 [(18, .v 1 BD)]),(1, .Af 35 [(18, .v 2 BD)])],2⟩
def cJ:AY:=⟨[.Ae BD, .Ae BD],[(0, .px [0] (.hc 2))],[(0, .Af 98 [(1, .AA 290 [] [1,2]),(1, .AA 291 [] [1,2])]),(1, .Af 35 [(18, .v 0 BD)]),(2, .Af 35 [(18, .v 1 BD)])],3⟩
def bL:AY:=⟨[.Ae i6, .Ae BD, .Ae BD],[(0, .v 0 i6)],[(0, .Af 98 [(1, .AA 290 [] [1,2]),(1, .AA 291 [] [1,2])]),(1, .Af 35 [(18, .v 1 BD)]),(2, .Af 35 [(18, .v 2 BD)])],3⟩
def cI:AY:=⟨[.Ae Jf, .Ae Jf],[(0, .v 0 Jf),(1, .v 1 Jf),(2, .AA 255 [] [])],[],0⟩
def bK:AY:=⟨[.Ae i6],[(0, .v 0 i6)],[],0⟩
def cH:AY:=⟨[.Ae Cn, .Ae Cn],[(0, .loc 0 0),(1, .loc 1 0)],[(0, .Af 74 [(2, .v 0 Cn)]),(1, .Af 74 [(2, .v 1 Cn)])],2⟩
def bH:AY:=⟨[.Ae i6, .Ae Cn, .Ae Cn],[(0, .v 0 i6)],[(0, .Af 74 [(2, .v 1 Cn)]),(1, .Af 74 [(2, .v 2 Cn)])],2⟩
def cG:AY:=⟨[.Ae Cn, .Ae Cn],[(0, .px [0] (.hc 3))],[(0, .Af 98 [(1, .AA 251 [] [1,2]),(1, .AA 252 [] [1,2]),(1, .AA 253 [] [1,2])]),(1, .Af 74 [(2, .v 0 Cn)]),(2, .Af 74 [(2, .v 1 Cn)])],3⟩
def bG:AY:=⟨[.Ae i6, .Ae Cn, .Ae Cn],[(0, .v 0 i6)],[(0, .Af 98 [(1, .AA 251 [] [1,2]),(1, .AA 252 [] [1,2]),(1, .AA 253 [] [1,2])]),(1, .Af 74 [(2, .v 1 Cn)]),(2, .Af 74 [(2, .v 2 Cn)])],3⟩
def cD:AY:=⟨[.Ae IA, .Ae IA],[(0, .v 0 IA),(1, .v 1 IA),(2, .AA 219 [] [])],[],0⟩
def bF:AY:=⟨[.Ae i6],[(0, .v 0 i6)],[],0⟩
def cC:AY:=⟨[.Ae (.nm 0), .Ae (.nm 0)],[(0, .loc 0 0),(1, .loc 1 0)],[(0, .Af 33 [(9, .v 0 (.nm 0))]),(1, .Af 33 [(9, .v 1 (.nm 0))])],2⟩
def bE:AY:=⟨[.Ae i6, .Ae (.nm 0), .Ae (.nm 0)],[(0, .v 0 i6)],[(0, .Af 33 [(9, .v 1 (.nm 0))]),(1, .Af 33 [(9, .v 2 (.nm 0))])],2⟩
def cz:AY:=⟨[.Ae Ek, .Ae Ek],[(0, .loc 0 0),(1, .loc 1 0)],[(0, .Af 62 [(20, .v 0 Ek)]),(1, .Af 62 [(20, .v 1 Ek)])],2⟩
def bD:AY:=⟨[.Ae i6, .Ae Ek, .Ae Ek],[(0, .v 0 i6)],[(0, .Af 62 [(20, .v 1 Ek)]),(1, .Af 62 [(20, .v 2 Ek)])],2⟩
def cy:AY:=⟨[.Ae Ek, .Ae Ek],[(0, .px [0] (.hc 3))],[(0, .Af 98 [(1, .AA 259 [] [1,2]),(1, .AA 260 [] [1,2]),(1, .AA 261 [] [1,2])]),(1, .Af 62 [(20, .v 0 Ek)]),(2, .Af 62 [(20, .v 1 Ek)])],3⟩
def bC:AY:=⟨[.Ae i6, .Ae Ek, .Ae Ek],[(0, .v 0 i6)],[(0, .Af 98 [(1, .AA 259 [] [1,2]),(1, .AA 260 [] [1,2]),(1, .AA 261 [] [1,2])]),(1, .Af 62 [(20, .v 1 Ek)]),(2, .Af 62 [(20, .v 2 Ek)])],3⟩
def cw:AY:=⟨[.Ae q5, .Ae q5],[(0, .v 0 q5),(1, .v 1 q5),(2, .AA 258 [] [])],[],0⟩
def bB:AY:=⟨[.Ae i6],[(0, .v 0 i6)],[],0⟩
def cv:AY:=⟨[.Ae q8, .Ae q8],[(0, .loc 0 0),(1, .loc 1 0)],[(0, .Af 58 [(2, .v 0 q8)]),(1, .Af 58 [(2, .v 1 q8)])],2⟩
def bz:AY:=⟨[.Ae i6, .Ae q8, .Ae q8],[(0, .v 0 i6)],[(0, .Af 58 [(2, .v 1 q8)]),(1, .Af 58 [(2, .v 2 q8)])],2⟩
def cu:AY:=⟨[.Ae q7, .Ae q7],[(0, .loc 0 0),(1, .loc 1 0)],[(0, .Af 72 [(19, .v 0 q7)]),(1, .Af 72 [(19, .v 1 q7)])],2⟩
def bw:AY:=⟨[.Ae i6, .Ae q7, .Ae q7],[(0, .v 0 i6)],[(0, .Af 72 [(19, .v 1 q7)]),(1, .Af 72 [(19, .v 2 q7)])],2⟩
def cr:AY:=⟨[.Ae q7, .Ae q7],[(0, .px [0] (.hc 2))],[(0, .Af 98 [(1, .AA 265 [] [1,2]),(1, .AA 266 [] [1,2])]),(1, .Af 72 [(19, .v 0 q7)]),(2, .Af 72 [(19, .v 1 q7)])],3⟩
def bu:AY:=⟨[.Ae i6, .Ae q7, .Ae q7],[(0, .v 0 i6)],[(0, .Af 98 [(1, .AA 265 [] [1,2]),(1, .AA 266 [] [1,2])]),(1, .Af 72 [(19, .v 1 q7)]),(2, .Af 72 [(19, .v 2 q7)])],3⟩
def cq:AY:=⟨[.Ae Mi, .Ae Mi],[(0, .v 0 Mi),(1, .v 1 Mi),(2, .AA 264 [] [])],[],0⟩
def br:AY:=⟨[.Ae i6],[(0, .v 0 i6)],[],0⟩
def cp:AY:=⟨[.Ae q8, .Ae q8],[(0, .loc 0 0),(1, .loc 1 0)],[(0, .Af 58 [(2, .v 0 q8)]),(1, .Af 58 [(2, .v 1 q8)])],2⟩
def bq:AY:=⟨[.Ae i6, .Ae q8, .Ae q8],[(0, .v 0 i6)],[(0, .Af 58 [(2, .v 1 q8)]),(1, .Af 58 [(2, .v 2 q8)])],2⟩
def cm:AY:=⟨[.Ae q8, .Ae q8],[(0, .px [0] (.hc 2))],[(0, .Af 98 [(1, .AA 256 [] [1,2]),(1, .AA 262 [] [1,2])]),(1, .Af 58 [(2, .v 0 q8)]),(2, .Af 58 [(2, .v 1 q8)])],3⟩
def bp:AY:=⟨[.Ae i6, .Ae q8, .Ae q8],[(0, .v 0 i6)],[(0, .Af 98 [(1, .AA 256 [] [1,2]),(1, .AA 262 [] [1,2])]),(1, .Af 58 [(2, .v 1 q8)]),(2, .Af 58 [(2, .v 2 q8)])],3⟩
def ck:AY:=⟨[.Ae Iz, .Ae Iz],[(0, .v 0 Iz),(1, .v 1 Iz),(2, .AA 222 [] [])],[],0⟩
def bn:AY:=⟨[.Ae i6],[(0, .v 0 i6)],[],0⟩
def cg:AY:=⟨[.Ae (.nm 0), .Ae (.nm 0)],[(0, .loc 0 0),(1, .loc 1 0)],[(0, .Af 33 [(9, .v 0 (.nm 0))]),(1, .Af 33 [(9, .v 1 (.nm 0))])],2⟩
def bm:AY:=⟨[.Ae i6, .Ae (.nm 0), .Ae (.nm 0)],[(0, .v 0 i6)],[(0, .Af 33 [(9, .v 1 (.nm 0))]),(1, .Af 33 [(9, .v 2 (.nm 0))])],2⟩
def ca:AY:=⟨[.Ae (.nm 0), .Ae (.nm 0)],[(0, .px [0] (.hc 4))],[(0, .Af 98 [(1, .AA 214 [] [1,2]),(1, .AA 216 [] [1,2]),(1, .AA 217 [] [1,2]),(1, .AA 220 [] [1,2])]),(1, .Af 33 [(9, .v 0 (.nm 0))]),(2, .Af 33 [(9, .v 1 (.nm 0))])],3⟩
def bk:AY:=⟨[.Ae i6, .Ae (.nm 0), .Ae (.nm 0)],[(0, .v 0 i6)],[(0, .Af 98 [(1, .AA 214 [] [1,2]),(1, .AA 216 [] [1,2]),(1, .AA 217 [] [1,2]),(1, .AA 220 [] [1,2])]),(1, .Af 33 [(9, .v 1 (.nm 0))]),(2, .Af 33 [(9, .v 2 (.nm 0))])],3⟩
abbrev dK:Type:=FP 290 cN bN 1 []×FP 291 cM bM 1 []×FP 213 cJ bL 1 []×Jz 255 [BD,BD] [i6]×FP 254 cI bK 1 []×FP 253 cH bH 1 []×FP 213 cG bG 1 []×Jz 219 [Cn,Cn] [i6]×FP 218 cD bF 1 []×FP 217 cC bE 1 []×FP 261 cz bD 1 []×FP 213 cy bC 1 []×Jz 258 [Ek,Ek] [i6]×FP 257 cw bB 1 []×FP 256 cv bz 1 []×FP 266 cu bw 1 []×FP 213 cr bu 1 []×Jz 264 [q7,q7] [i6]×FP 263 cq br 1 []×FP 262 cp bq 1 []×FP 213 cm bp 1 []×Jz 222 [q8,q8] [i6]×FP 221 ck bn 1 []×FP 220 cg bm 1 []×FP 213 ca bk 1 []×Jz 160 [(.nm 0),(.nm 0)] [i6]
def Dg(n:Nat):dK:=Nat.rec (motive:=fun _=>dK) (tP Tryz.func290,tP Tryz.func291,tP Tryz.func213,tQ Tryz.func255,tP Tryz.func254,tP Tryz.func253,tP Tryz.func213,tQ Tryz.func219,tP Tryz.func218,tP Tryz.func217,tP Tryz.func261,tP Tryz.func213,tQ Tryz.func258,tP Tryz.func257,tP Tryz.func256,tP Tryz.func266,tP Tryz.func213,tQ Tryz.func264,tP Tryz.func263,tP Tryz.func262,tP Tryz.func213,tQ Tryz.func222,tP Tryz.func221,tP Tryz.func220,tP Tryz.func213,tQ Tryz.func160) (fun fu g=>(sP [Fh (g.2.2.2.2.2.2.2.2.2.2.2.2.2.2.2.2.2.2.2.2.2.2.2.2.2)] fu Tryz.func290 cN bN 1 [],sP [Fh (g.2.2.2.2.2.2.2.2.2.2.2.2.2.2.2.2.2.2.2.2.2.2.2.2.2)] fu Tryz.func291 cM bM 1 [],sP [Cu (g.1),Cu (g.2.1)] fu Tryz.func213 cJ bL 1 [],sQ [Cu (g.2.2.1)] fu Tryz.func255 [BD,BD] [i6],sP [Fh (g.2.2.2.1)] fu Tryz.func254 cI bK 1 [] (la:=lk [(2,⟨[.nat],[(0, .Aa),(1, .Aa),(2, .Aa),(11, .Aa),(12, .Aa),(13, .AK 0 200)],[],0⟩)]),sP (Cu (g.2.2.2.2.1)::bs [wS] fu) fu Tryz.func253 cH bH 1 [],sP (Cu (g.2.2.2.2.2.1)::bs [xC,xB] fu) fu Tryz.func213 cG bG 1 [],sQ [Cu (g.2.2.2.2.2.2.1)] fu Tryz.func219 [Cn,Cn] [i6],sP [Fh (g.2.2.2.2.2.2.2.1)] fu Tryz.func218 cD bF 1 [] (la:=lk [(2,⟨[.nat],[(0, .Aa),(1, .Aa),(2, .Aa),(11, .Aa),(12, .Aa),(13, .AK 0 200)],[],0⟩)]),sP [Cu (g.2.2.2.2.2.2.2.2.1)] fu Tryz.func217 cC bE 1 [],sP [Fh (g.2.2.2.1)] fu Tryz.func261 cz bD 1 [],sP (Cu (g.2.2.2.2.2.2.2.2.2.2.1)::bs [xA,xz] fu) fu Tryz.func213 cy bC 1 [],sQ [Cu (g.2.2.2.2.2.2.2.2.2.2.2.1)] fu Tryz.func258 [Ek,Ek] [i6],sP [Fh (g.2.2.2.2.2.2.2.2.2.2.2.2.1)] fu Tryz.func257 cw bB 1 [] (la:=lk [(2,⟨[.nat],[(0, .Aa),(1, .Aa),(2, .Aa),(11, .Aa),(12, .Aa),(13, .AK 0 200)],[],0⟩)]),sP [Cu (g.2.2.2.2.2.2.2.2.2.2.2.2.2.1)] fu Tryz.func256 cv bz 1 [],sP [Fh (g.2.2.2.1)] fu Tryz.func266 cu bw 1 [],sP (Cu (g.2.2.2.2.2.2.2.2.2.2.2.2.2.2.2.1)::bs [xy] fu) fu Tryz.func213 cr bu 1 [],sQ [Cu (g.2.2.2.2.2.2.2.2.2.2.2.2.2.2.2.2.1)] fu Tryz.func264 [q7,q7] [i6],sP [Fh (g.2.2.2.2.2.2.2.2.2.2.2.2.2.2.2.2.2.1)] fu Tryz.func263 cq br 1 [] (la:=lk [(2,⟨[.nat],[(0, .Aa),(1, .Aa),(2, .Aa),(11, .Aa),(12, .Aa),(13, .AK 0 200)],[],0⟩)]),sP [Cu (g.2.2.2.2.2.2.2.2.2.2.2.2.2.2.2.2.2.2.1)] fu Tryz.func262 cp bq 1 [],sP [Cu (g.2.2.2.2.2.2.2.2.2.2.2.2.2.2.1),Cu (g.2.2.2.2.2.2.2.2.2.2.2.2.2.2.2.2.2.2.2.1)] fu Tryz.func213 cm bp 1 [],sQ [Cu (g.2.2.2.2.2.2.2.2.2.2.2.2.2.2.2.2.2.2.2.2.1)] fu Tryz.func222 [q8,q8] [i6],sP [Fh (g.2.2.2.2.2.2.2.2.2.2.2.2.2.2.2.2.2.2.2.2.2.1)] fu Tryz.func221 ck bn 1 [] (la:=lk [(2,⟨[.nat],[(0, .Aa),(1, .Aa),(2, .Aa),(11, .Aa),(12, .Aa),(13, .AK 0 200)],[],0⟩)]),sP [Cu (g.2.2.2.2.2.2.2.2.2.2.2.2.2.2.2.2.2.2.2.2.2.2.1)] fu Tryz.func220 cg bm 1 [],sP (Cu (g.2.2.2.2.2.2.2.2.2.1)::Cu (g.2.2.2.2.2.2.2.2.2.2.2.2.2.2.2.2.2.2.2.2.2.2.2.1)::bs [xF,xD] fu) fu Tryz.func213 ca bk 1 [],sQ [Cu (g.2.2.2.2.2.2.2.2.2.2.2.2.2.2.2.2.2.2.2.2.2.2.2.2.1)] fu Tryz.func160 [(.nm 0),(.nm 0)] [i6])) n
abbrev ZO(fu:Nat)(x:AD×AD):Option (Int×AD×AD):=(Dg fu).1.1 x
abbrev ZN(fu:Nat)(x:AD×AD):Option (Int×AD×AD):=(Dg fu).2.1.1 x
abbrev jX(fu:Nat)(x:AD×AD):Option (Int×AD×AD):=(Dg fu).2.2.1.1 x
abbrev P9(fu:Nat)(x:AD×AD):Option Int:=(Dg fu).2.2.2.1.1 x
abbrev jW(fu:Nat)(x:(List AD)×(List AD)):Option Int:=(Dg fu).2.2.2.2.1.1 x
abbrev ZM(fu:Nat)(x:BK×BK):Option (Int×BK×BK):=(Dg fu).2.2.2.2.2.1.1 x
abbrev jV(fu:Nat)(x:BK×BK):Option (Int×BK×BK):=(Dg fu).2.2.2.2.2.2.1.1 x
abbrev ZL(fu:Nat)(x:BK×BK):Option Int:=(Dg fu).2.2.2.2.2.2.2.1.1 x
abbrev jU(fu:Nat)(x:(List BK)×(List BK)):Option Int:=(Dg fu).2.2.2.2.2.2.2.2.1.1 x
abbrev ZK(fu:Nat)(x:(Vl)×(Vl)):Option (Int×AD):=(Dg fu).2.2.2.2.2.2.2.2.2.1.1 x
abbrev ZJ(fu:Nat)(x:(Ax×Int×AD)×(Ax×Int×AD)):Option (Int×(Ax×Int×AD)×Ax×Int×AD):=(Dg fu).2.2.2.2.2.2.2.2.2.2.1.1 x
abbrev jT(fu:Nat)(x:(Ax×Int×AD)×(Ax×Int×AD)):Option (Int×(Ax×Int×AD)×Ax×Int×AD):=(Dg fu).2.2.2.2.2.2.2.2.2.2.2.1.1 x
abbrev ZI(fu:Nat)(x:(Ax×Int×AD)×(Ax×Int×AD)):Option Int:=(Dg fu).2.2.2.2.2.2.2.2.2.2.2.2.1.1 x
abbrev jS(fu:Nat)(x:(List (Ax×Int×AD))×(List (Ax×Int×AD))):Option Int:=(Dg fu).2.2.2.2.2.2.2.2.2.2.2.2.2.1.1 x
abbrev ZH(fu:Nat)(x:Bp×Bp):Option (Int×Bp×Bp):=(Dg fu).2.2.2.2.2.2.2.2.2.2.2.2.2.2.1.1 x
abbrev ZG(fu:Nat)(x:(AW×AD)×(AW×AD)):Option (Int×(AW×AD)×AW×AD):=(Dg fu).2.2.2.2.2.2.2.2.2.2.2.2.2.2.2.1.1 x
abbrev jR(fu:Nat)(x:(AW×AD)×(AW×AD)):Option (Int×(AW×AD)×AW×AD):=(Dg fu).2.2.2.2.2.2.2.2.2.2.2.2.2.2.2.2.1.1 x
abbrev ZF(fu:Nat)(x:(AW×AD)×(AW×AD)):Option Int:=(Dg fu).2.2.2.2.2.2.2.2.2.2.2.2.2.2.2.2.2.1.1 x
abbrev jQ(fu:Nat)(x:(List (AW×AD))×(List (AW×AD))):Option Int:=(Dg fu).2.2.2.2.2.2.2.2.2.2.2.2.2.2.2.2.2.2.1.1 x
abbrev ZE(fu:Nat)(x:Bp×Bp):Option (Int×Bp×Bp):=(Dg fu).2.2.2.2.2.2.2.2.2.2.2.2.2.2.2.2.2.2.2.1.1 x
abbrev jP(fu:Nat)(x:Bp×Bp):Option (Int×Bp×Bp):=(Dg fu).2.2.2.2.2.2.2.2.2.2.2.2.2.2.2.2.2.2.2.2.1.1 x
abbrev ZD(fu:Nat)(x:Bp×Bp):Option Int:=(Dg fu).2.2.2.2.2.2.2.2.2.2.2.2.2.2.2.2.2.2.2.2.2.1.1 x
abbrev jO(fu:Nat)(x:(List Bp)×(List Bp)):Option Int:=(Dg fu).2.2.2.2.2.2.2.2.2.2.2.2.2.2.2.2.2.2.2.2.2.2.1.1 x
abbrev ZC(fu:Nat)(x:(Vl)×(Vl)):Option (Int×AD):=(Dg fu).2.2.2.2.2.2.2.2.2.2.2.2.2.2.2.2.2.2.2.2.2.2.2.1.1 x
abbrev jN(fu:Nat)(x:(Vl)×(Vl)):Option (Int×AD):=(Dg fu).2.2.2.2.2.2.2.2.2.2.2.2.2.2.2.2.2.2.2.2.2.2.2.2.1.1 x
def xx(fu:Nat):=Fh (Dg fu).2.2.2.2.2.2.2.2.2.2.2.2.2.2.2.2.2.2.2.2.2.2.2.2.2
abbrev Tp(fu:Nat)(x:(Vl)×(Vl)):Option Int:=(Dg fu).2.2.2.2.2.2.2.2.2.2.2.2.2.2.2.2.2.2.2.2.2.2.2.2.2.1 x
def qC(fu:Nat)(x0:AD)(x1:AD):Option (Int×AD×AD):=Ac (Tp fu (x0.1,x1.1)) fun r1=>some ((r1,x0,x1))
theorem d202(fu x0 x1):ZO (fu+1) (x0,x1)=qC fu x0 x1:=by kernel_rfl
def qB(fu:Nat)(x0:AD)(x1:AD):Option (Int×AD×AD):=Ac (Tp fu (x0.2,x1.2)) fun r1=>some ((r1,x0,x1))
theorem d203(fu x0 x1):ZN (fu+1) (x0,x1)=qB fu x0 x1:=by kernel_rfl
def qA(fu:Nat)(x0:AD)(x1:AD):Option (Int×AD×AD):=bif decide ((0:Int)< ↑2)then Ah ((0:Int)<=0/\(0:Int)< ↑2)<|Ac (ZO fu (x0,x1)) fun r1=>bif decide (r1.1≠0)then some ((r1.1,r1.2.1,r1.2.2))else Ab .i64 ((0:Int)+1)<|bif decide ((0:Int)+1< ↑2)then Ah ((0:Int)<=0+1/\(0:Int)+1< ↑2)<|Ac (ZN fu (r1.2.1,r1.2.2)) fun r2=>bif decide (r2.1≠0)then some ((r2.1,r2.2.1,r2.2.2))else Ab .i64 ((0:Int)+1+1)<|bif decide ((0:Int)+1+1< ↑2)then Ah ((0:Int)<=0+1+1/\(0:Int)+1+1< ↑2)<|none else some ((0,r2.2.1,r2.2.2))else some ((0,r1.2.1,r1.2.2))else some ((0,x0,x1))
theorem d204(fu x0 x1):jX (fu+1) (x0,x1)=qA fu x0 x1:=by kernel_rfl
def qz(fu:Nat)(x0:AD)(x1:AD):Option Int:=Ac (jX fu (x0,x1)) fun r1=>some r1.1
theorem d205(fu x0 x1):P9 (fu+1) (x0,x1)=qz fu x0 x1:=by kernel_rfl
def qy(fu:Nat)(x0:List AD)(x1:List AD):Option Int:=Ad fu (fun(z1:Nat) nx2=>bif decide ((z1:Int)<x0.length)then Ac (idx x0 z1) fun r3=>bif decide ((x1.length:Int)<=z1)then some 1 else Ac (idx x1 z1) fun r4=>Ac (P9 fu (r3,r4)) fun r5=>bif decide (r5≠0)then some r5 else nx2 (z1+1)else bif decide ((x0.length:Int)<x1.length)then some ((-1:Int))else some 0) (0)
theorem d206(fu x0 x1):jW (fu+1) (x0,x1)=qy fu x0 x1:=by kernel_rfl
def qx(fu:Nat)(x0:BK)(x1:BK):Option (Int×BK×BK):=Ac (Wr fu x0) fun r1=>Ac (Wr fu x1) fun r2=>Ac (jW fu (r1,r2)) fun r3=>some ((r3,x0,x1))
theorem d207(fu x0 x1):ZM (fu+1) (x0,x1)=qx fu x0 x1:=by kernel_rfl
def qw(fu:Nat)(x0:BK)(x1:BK):Option (Int×BK×BK):=bif decide ((0:Int)< ↑3)then Ah ((0:Int)<=0/\(0:Int)< ↑3)<|Ac (WA fu (x0,x1)) fun r1=>bif decide (r1.1≠0)then some ((r1.1,r1.2.1,r1.2.2))else Ab .i64 ((0:Int)+1)<|bif decide ((0:Int)+1< ↑3)then Ah ((0:Int)<=0+1/\(0:Int)+1< ↑3)<|Ac (Wz fu (r1.2.1,r1.2.2)) fun r2=>bif decide (r2.1≠0)then some ((r2.1,r2.2.1,r2.2.2))else Ab .i64 ((0:Int)+1+1)<|bif decide ((0:Int)+1+1< ↑3)then Ah ((0:Int)<=0+1+1/\(0:Int)+1+1< ↑3)<|Ac (ZM fu (r2.2.1,r2.2.2)) fun r3=>bif decide (r3.1≠0)then some ((r3.1,r3.2.1,r3.2.2))else Ab .i64 ((0:Int)+1+1+1)<|bif decide ((0:Int)+1+1+1< ↑3)then Ah ((0:Int)<=0+1+1+1/\(0:Int)+1+1+1< ↑3)<|none else some ((0,r3.2.1,r3.2.2))else some ((0,r2.2.1,r2.2.2))else some ((0,r1.2.1,r1.2.2))else some ((0,x0,x1))
theorem d208(fu x0 x1):jV (fu+1) (x0,x1)=qw fu x0 x1:=by kernel_rfl
def qv(fu:Nat)(x0:BK)(x1:BK):Option Int:=Ac (jV fu (x0,x1)) fun r1=>some r1.1
theorem d209(fu x0 x1):ZL (fu+1) (x0,x1)=qv fu x0 x1:=by kernel_rfl
def qu(fu:Nat)(x0:List BK)(x1:List BK):Option Int:=Ad fu (fun(z1:Nat) nx2=>bif decide ((z1:Int)<x0.length)then Ac (idx x0 z1) fun r3=>bif decide ((x1.length:Int)<=z1)then some 1 else Ac (idx x1 z1) fun r4=>Ac (ZL fu (r3,r4)) fun r5=>bif decide (r5≠0)then some r5 else nx2 (z1+1)else bif decide ((x0.length:Int)<x1.length)then some ((-1:Int))else some 0) (0)
theorem d210(fu x0 x1):jU (fu+1) (x0,x1)=qu fu x0 x1:=by kernel_rfl
def qt(fu:Nat)(x0:Vl)(x1:Vl):Option (Int×AD):=Ac (jU fu (Vl.lists x0,Vl.lists x1)) fun r1=>some ((r1,x0,x1))
theorem d211(fu x0 x1):ZK (fu+1) (x0,x1)=qt fu x0 x1:=by kernel_rfl
def qp(fu:Nat)(x0:Ax×Int×AD)(x1:Ax×Int×AD):Option (Int×(Ax×Int×AD)×Ax×Int×AD):=Ac (P9 fu (x0.2.2,x1.2.2)) fun r1=>some ((r1,x0,x1))
theorem d212(fu x0 x1):ZJ (fu+1) (x0,x1)=qp fu x0 x1:=by kernel_rfl
def qo(fu:Nat)(x0:Ax×Int×AD)(x1:Ax×Int×AD):Option (Int×(Ax×Int×AD)×Ax×Int×AD):=bif decide ((0:Int)< ↑3)then Ah ((0:Int)<=0/\(0:Int)< ↑3)<|Ac (Wy fu (x0,x1)) fun r1=>bif decide (r1.1≠0)then some ((r1.1,r1.2.1,r1.2.2))else Ab .i64 ((0:Int)+1)<|bif decide ((0:Int)+1< ↑3)then Ah ((0:Int)<=0+1/\(0:Int)+1< ↑3)<|Ac (Wx fu (r1.2.1,r1.2.2)) fun r2=>bif decide (r2.1≠0)then some ((r2.1,r2.2.1,r2.2.2))else Ab .i64 ((0:Int)+1+1)<|bif decide ((0:Int)+1+1< ↑3)then Ah ((0:Int)<=0+1+1/\(0:Int)+1+1< ↑3)<|Ac (ZJ fu (r2.2.1,r2.2.2)) fun r3=>bif decide (r3.1≠0)then some ((r3.1,r3.2.1,r3.2.2))else Ab .i64 ((0:Int)+1+1+1)<|bif decide ((0:Int)+1+1+1< ↑3)then Ah ((0:Int)<=0+1+1+1/\(0:Int)+1+1+1< ↑3)<|none else some ((0,r3.2.1,r3.2.2))else some ((0,r2.2.1,r2.2.2))else some ((0,r1.2.1,r1.2.2))else some ((0,x0,x1))
theorem d213(fu x0 x1):jT (fu+1) (x0,x1)=qo fu x0 x1:=by kernel_rfl
def qm(fu:Nat)(x0:Ax×Int×AD)(x1:Ax×Int×AD):Option Int:=Ac (jT fu (x0,x1)) fun r1=>some r1.1
theorem d214(fu x0 x1):ZI (fu+1) (x0,x1)=qm fu x0 x1:=by kernel_rfl
def ql(fu:Nat)(x0:List (Ax×Int×AD))(x1:List (Ax×Int×AD)):Option Int:=Ad fu (fun(z1:Nat) nx2=>bif decide ((z1:Int)<x0.length)then Ac (idx x0 z1) fun r3=>bif decide ((x1.length:Int)<=z1)then some 1 else Ac (idx x1 z1) fun r4=>Ac (ZI fu (r3,r4)) fun r5=>bif decide (r5≠0)then some r5 else nx2 (z1+1)else bif decide ((x0.length:Int)<x1.length)then some ((-1:Int))else some 0) (0)
theorem d215(fu x0 x1):jS (fu+1) (x0,x1)=ql fu x0 x1:=by kernel_rfl
end
end Go.GV
namespace Go.GV
open Go Go.GK Go.Proofs
noncomputable section
def qk(fu:Nat)(x0:Bp)(x1:Bp):Option (Int×Bp×Bp):=Ac (jS fu (x0.1,x1.1)) fun r1=>some ((r1,x0,x1))
theorem d216(fu x0 x1):ZH (fu+1) (x0,x1)=qk fu x0 x1:=by kernel_rfl
def qj(fu:Nat)(x0:AW×AD)(x1:AW×AD):Option (Int×(AW×AD)×AW×AD):=Ac (P9 fu (x0.2,x1.2)) fun r1=>some ((r1,x0,x1))
theorem d217(fu x0 x1):ZG (fu+1) (x0,x1)=qj fu x0 x1:=by kernel_rfl
def qi(fu:Nat)(x0:AW×AD)(x1:AW×AD):Option (Int×(AW×AD)×AW×AD):=bif decide ((0:Int)< ↑2)then Ah ((0:Int)<=0/\(0:Int)< ↑2)<|Ac (Ww fu (x0,x1)) fun r1=>bif decide (r1.1≠0)then some ((r1.1,r1.2.1,r1.2.2))else Ab .i64 ((0:Int)+1)<|bif decide ((0:Int)+1< ↑2)then Ah ((0:Int)<=0+1/\(0:Int)+1< ↑2)<|Ac (ZG fu (r1.2.1,r1.2.2)) fun r2=>bif decide (r2.1≠0)then some ((r2.1,r2.2.1,r2.2.2))else Ab .i64 ((0:Int)+1+1)<|bif decide ((0:Int)+1+1< ↑2)then Ah ((0:Int)<=0+1+1/\(0:Int)+1+1< ↑2)<|none else some ((0,r2.2.1,r2.2.2))else some ((0,r1.2.1,r1.2.2))else some ((0,x0,x1))
theorem d218(fu x0 x1):jR (fu+1) (x0,x1)=qi fu x0 x1:=by kernel_rfl
def qh(fu:Nat)(x0:AW×AD)(x1:AW×AD):Option Int:=Ac (jR fu (x0,x1)) fun r1=>some r1.1
theorem d219(fu x0 x1):ZF (fu+1) (x0,x1)=qh fu x0 x1:=by kernel_rfl
def qg(fu:Nat)(x0:List (AW×AD))(x1:List (AW×AD)):Option Int:=Ad fu (fun(z1:Nat) nx2=>bif decide ((z1:Int)<x0.length)then Ac (idx x0 z1) fun r3=>bif decide ((x1.length:Int)<=z1)then some 1 else Ac (idx x1 z1) fun r4=>Ac (ZF fu (r3,r4)) fun r5=>bif decide (r5≠0)then some r5 else nx2 (z1+1)else bif decide ((x0.length:Int)<x1.length)then some ((-1:Int))else some 0) (0)
theorem d220(fu x0 x1):jQ (fu+1) (x0,x1)=qg fu x0 x1:=by kernel_rfl
def qf(fu:Nat)(x0:Bp)(x1:Bp):Option (Int×Bp×Bp):=Ac (jQ fu (x0.2,x1.2)) fun r1=>some ((r1,x0,x1))
theorem d221(fu x0 x1):ZE (fu+1) (x0,x1)=qf fu x0 x1:=by kernel_rfl
def qe(fu:Nat)(x0:Bp)(x1:Bp):Option (Int×Bp×Bp):=bif decide ((0:Int)< ↑2)then Ah ((0:Int)<=0/\(0:Int)< ↑2)<|Ac (ZH fu (x0,x1)) fun r1=>bif decide (r1.1≠0)then some ((r1.1,r1.2.1,r1.2.2))else Ab .i64 ((0:Int)+1)<|bif decide ((0:Int)+1< ↑2)then Ah ((0:Int)<=0+1/\(0:Int)+1< ↑2)<|Ac (ZE fu (r1.2.1,r1.2.2)) fun r2=>bif decide (r2.1≠0)then some ((r2.1,r2.2.1,r2.2.2))else Ab .i64 ((0:Int)+1+1)<|bif decide ((0:Int)+1+1< ↑2)then Ah ((0:Int)<=0+1+1/\(0:Int)+1+1< ↑2)<|none else some ((0,r2.2.1,r2.2.2))else some ((0,r1.2.1,r1.2.2))else some ((0,x0,x1))
theorem d222(fu x0 x1):jP (fu+1) (x0,x1)=qe fu x0 x1:=by kernel_rfl
def qd(fu:Nat)(x0:Bp)(x1:Bp):Option Int:=Ac (jP fu (x0,x1)) fun r1=>some r1.1
theorem d223(fu x0 x1):ZD (fu+1) (x0,x1)=qd fu x0 x1:=by kernel_rfl
def qc(fu:Nat)(x0:List Bp)(x1:List Bp):Option Int:=Ad fu (fun(z1:Nat) nx2=>bif decide ((z1:Int)<x0.length)then Ac (idx x0 z1) fun r3=>bif decide ((x1.length:Int)<=z1)then some 1 else Ac (idx x1 z1) fun r4=>Ac (ZD fu (r3,r4)) fun r5=>bif decide (r5≠0)then some r5 else nx2 (z1+1)else bif decide ((x0.length:Int)<x1.length)then some ((-1:Int))else some 0) (0)
theorem d224(fu x0 x1):jO (fu+1) (x0,x1)=qc fu x0 x1:=by kernel_rfl
def p_(fu:Nat)(x0:Vl)(x1:Vl):Option (Int×AD):=Ac (jO fu (Vl.structs x0,Vl.structs x1)) fun r1=>some ((r1,x0,x1))
theorem d225(fu x0 x1):ZC (fu+1) (x0,x1)=p_ fu x0 x1:=by kernel_rfl
def p9(fu:Nat)(x0:Vl)(x1:Vl):Option (Int×AD):=bif decide ((0:Int)< ↑4)then Ah ((0:Int)<=0/\(0:Int)< ↑4)<|Ac (WC fu (x0,x1)) fun r1=>bif decide (r1.1≠0)then some ((r1.1,r1.2.1,r1.2.2))else Ab .i64 ((0:Int)+1)<|bif decide ((0:Int)+1< ↑4)then Ah ((0:Int)<=0+1/\(0:Int)+1< ↑4)<|Ac (WB fu (r1.2.1,r1.2.2)) fun r2=>bif decide (r2.1≠0)then some ((r2.1,r2.2.1,r2.2.2))else Ab .i64 ((0:Int)+1+1)<|bif decide ((0:Int)+1+1< ↑4)then Ah ((0:Int)<=0+1+1/\(0:Int)+1+1< ↑4)<|Ac (ZK fu (r2.2.1,r2.2.2)) fun r3=>bif decide (r3.1≠0)then some ((r3.1,r3.2.1,r3.2.2))else Ab .i64 ((0:Int)+1+1+1)<|bif decide ((0:Int)+1+1+1< ↑4)then Ah ((0:Int)<=0+1+1+1/\(0:Int)+1+1+1< ↑4)<|Ac (ZC fu (r3.2.1,r3.2.2)) fun r4=>bif decide (r4.1≠0)then some ((r4.1,r4.2.1,r4.2.2))else Ab .i64 ((0:Int)+1+1+1+1)<|bif decide ((0:Int)+1+1+1+1< ↑4)then Ah ((0:Int)<=0+1+1+1+1/\(0:Int)+1+1+1+1< ↑4)<|none else some ((0,r4.2.1,r4.2.2))else some ((0,r3.2.1,r3.2.2))else some ((0,r2.2.1,r2.2.2))else some ((0,r1.2.1,r1.2.2))else some ((0,x0,x1))
theorem d226(fu x0 x1):jN (fu+1) (x0,x1)=p9 fu x0 x1:=by kernel_rfl
def pZ(fu:Nat)(x0:Vl)(x1:Vl):Option Int:=Ac (jN fu (x0,x1)) fun r1=>some r1.1
theorem d227(fu x0 x1):Tp (fu+1) (x0,x1)=pZ fu x0 x1:=by kernel_rfl
def kH(fu:Nat)(x0:Vl)(x1:Vl):Option Int:=Ac (jG fu x0) fun r1=>bif !r1 then some 0 else Ac (jG fu x1) fun r2=>bif !r2 then some 0 else Ac (Tp fu (x0,x1)) fun r3=>some r3
abbrev To fu(x:_×_):=kH fu x.1 x.2
theorem d228(fu x0 x1):To fu (x0,x1)=kH fu x0 x1:=rfl
def rC:=bQ [zR,xx] Tryz.func120 [(.nm 0),(.nm 0)] [i6] To
def aJ(fu:Nat)(x0:BK)(x1:BK):Option Int:=Ac (ZP fu x0) fun r1=>Ac (ZP fu x1) fun r2=>Ac (To fu (r1,r2)) fun r3=>some r3
abbrev Tn fu(x:_×_):=aJ fu x.1 x.2
theorem d229(fu x0 x1):Tn fu (x0,x1)=aJ fu x0 x1:=rfl
def xw:=bP [xG,rC] Tryz.func119 ⟨[.Ae Cn, .Ae Cn],[(0, .v 0 Cn),(1, .v 1 Cn),(2, .loc 0 0)],[(0, .Af 152 [(1, .AA 81 [] [])])],1⟩ ⟨[.Ae i6],[(0, .v 0 i6)],[(0, .Af 152 [(1, .AA 81 [] [])])],1⟩ 1 [] Tn
def kG(fu:Nat)(x0:Int)(x1:Int)(x2:List BK):Option (List BK):=Ab .i64 (x0+1)<|Ad fu (fun(z1:List BK×Int) nx2=>bif decide (z1.2<x1)then Ad fu (fun(z3:List BK×Int) nx4=>bif decide (x0<z3.2)then Ac (idx z3.1 z3.2) fun r5=>Ab .i64 (z3.2-1)<|Ac (idx z3.1 (z3.2-1)) fun r6=>Ac (Tn fu (r5,r6)) fun r7=>bif decide (r7<0)then Ab .i64 (z3.2-1)<|Ab .i64 (z3.2-1)<|Ac (idx z3.1 (z3.2-1)) fun r8=>Ac (idx z3.1 z3.2) fun r9=>Ac (idx z3.1 z3.2) fun r10=>Ac (idx (List.set z3.1 (Int.toNat z3.2) r8) (z3.2-1)) fun r11=>Ab .i64 (z3.2-1)<|nx4 (((List.set z3.1 (Int.toNat z3.2) r8).set (Int.toNat (z3.2-1)) r9),(z3.2-1))else Ab .i64 (z1.2+1)<|nx2 (z3.1,(z1.2+1))else Ab .i64 (z1.2+1)<|nx2 ((z3.1,(z1.2+1)))) ((z1.1,z1.2))else some z1.1) ((x2,(x0+1)))
abbrev ZB fu(x:_×_×_):=kG fu x.1 x.2.1 x.2.2
theorem d230(fu x0 x1 x2):ZB fu (x0,x1,x2)=kG fu x0 x1 x2:=rfl
def xv:=bP [xw] Tryz.func205 ⟨[.Ae i6, .Ae i6, .Ae IA],[(0, .Az 0),(1, .v 0 i6),(2, .v 1 i6),(3, .AA 119 [] [1])],[(0, .row 74 2),(1, .Af 152 [(1, .AA 81 [] [])])],2⟩ ⟨[.Ae IA],[],[(0, .row 74 0),(1, .Af 152 [(1, .AA 81 [] [])])],2⟩ 0 [] ZB (la:=lk [(1,⟨[.Ae IA, .Ae i6],[(0, .Aa),(1, .Aa),(2, .Aa),(3, .Aa),(8, .v 1 i6)],[(1, .Af 152 [(1, .AA 81 [] [])]),(0, .row 74 0)],2⟩),(4,⟨[.Ae IA, .Ae i6],[(0, .Aa),(1, .Aa),(2, .Aa),(3, .Aa),(8, .Aa),(9, .v 1 i6)],[(1, .Af 152 [(1, .AA 81 [] [])]),(0, .row 74 0)],2⟩)])
def aI(fu:Nat)(x0:Int)(x1:Int)(x2:Int)(x3:List BK):Option (List BK):=Ad fu (fun(z1:PUnit) nx2=>Ab .i64 (x1-x0)<|bif decide (x1-x0<=12)then Ac (ZB fu (x0,x1,x3)) fun r3=>some r3 else bif decide (x2=0)then none else none) (())
abbrev ZA fu(x:_×_×_×_):=aI fu x.1 x.2.1 x.2.2.1 x.2.2.2
theorem d231(fu x0 x1 x2 x3):ZA fu (x0,x1,x2,x3)=aI fu x0 x1 x2 x3:=rfl
def xu:=bP [xv] Tryz.func159 ⟨[.Ae i6, .Ae i6, .Ae i6, .Ae IA],[(0, .Az 0),(1, .v 0 i6),(2, .v 1 i6),(3, .v 2 i6),(4, .AA 119 [] [1])],[(0, .row 74 3),(1, .Af 152 [(1, .AA 81 [] [])])],2⟩ ⟨[.Ae IA],[],[(0, .row 74 0),(1, .Af 152 [(1, .AA 81 [] [])])],2⟩ 0 [] ZA (la:=lk [(2,⟨[],[(0, .Aa),(1, .Aa),(2, .Aa),(3, .Aa),(4, .Aa),(10, .Aa),(11, .Aa)],[(1, .c 0),(0, .c 0)],2⟩)])
def aH(fu:Nat)(x0:List BK):Option (List BK):=Ac (dP fu (Int.ofNat (List.length x0 %Int.natAbs (18446744073709551616:Int)))) fun r1=>Ac (ZA fu (0,(x0.length:Int),r1,x0)) fun r2=>some r2
abbrev Tm fu(x:_):=aH fu x
theorem d232(fu x0):Tm fu x0=aH fu x0:=rfl
def xt:=bP [tI,xu] Tryz.func118 ⟨[.Ae IA],[(0, .Az 0),(1, .AA 119 [] [1])],[(0, .row 74 0),(1, .Af 152 [(1, .AA 81 [] [])])],2⟩ ⟨[.Ae IA],[],[(0, .row 74 0),(1, .Af 152 [(1, .AA 81 [] [])])],2⟩ 0 [] Tm
def kF(fu:Nat)(x0:List BK):Option (List BK):=Ad fu (fun(z1:List BK×Nat) nx2=>bif decide ((z1.2:Int)<x0.length)then Ac (idx x0 z1.2) fun r3=>Ad fu (fun(z4:Nat) nx5=>bif decide ((z4:Int)<x0.length)then Ac (idx x0 z4) fun r6=>bif decide ((z1.2:Int)≠z4)then Ac (P_ fu (r3,r6)) fun r7=>bif r7 then bif decide ((z4:Int)<z1.2)then nx2 (z1.1,z1.2+1)else Ac (P_ fu (r6,r3)) fun r8=>bif !r8 then nx2 (z1.1,z1.2+1)else nx5 (z4+1)else nx5 (z4+1)else nx5 (z4+1)else Ah (List.length z1.1+1<=Ak)<|nx2 (((z1.1++[r3]),z1.2+1))) (0)else Ac (Tm fu z1.1) fun r9=>some r9) (([],0))
abbrev Zz fu(x:_):=kF fu x
theorem d233(fu x0):Zz fu x0=kF fu x0:=rfl
def xr:=bP [xH,xt] Tryz.func79 ⟨[.Ae IA],[(0, .v 0 IA),(1, .AA 80 [] []),(2, .AA 81 [] [])],[],0⟩ ⟨[.Ae IA],[(0, .v 0 IA)],[],0⟩ 1 [] Zz (la:=lk [(3,⟨[.Ae IA, .nat],[(0, .Aa),(1, .Aa),(5, .Aa),(7, .Az 1),(12, .Aa),(13, .Aa),(14, .AK 1 301)],[(0, .c 0),(1, .row 74 0)],2⟩),(6,⟨[.nat],[(0, .Aa),(1, .Aa),(5, .Aa),(7, .Aa),(8, .Aa),(9, .Aa),(12, .Aa),(13, .Aa),(14, .Aa),(19, .Aa),(20, .Aa),(21, .AK 0 600)],[(2, .c 0),(1, .c 0),(0, .c 0)],3⟩)]) (pt:=lg [(2,[.own 7 74 Cn]),(13,[.fz 6])])
def pY(fu:Nat)(x0:Bp):Option Vl:=some (Vl.mk false (false,false,false,([],[]),[]) [] [x0])
abbrev Zy fu(x:_):=pY fu x
theorem d234(fu x0):Zy fu x0=pY fu x0:=rfl
def xq:=bQ [] Tryz.func84 [q8] [(.nm 0)] Zy (pt:=lg [(1,[.Nd 2 8])])
def aG(fu:Nat)(x0:Bp)(x1:Bp):Option Int:=Ac (Zy fu x0) fun r1=>Ac (Zy fu x1) fun r2=>Ac (To fu (r1,r2)) fun r3=>some r3
abbrev Tl fu(x:_×_):=aG fu x.1 x.2
theorem d235(fu x0 x1):Tl fu (x0,x1)=aG fu x0 x1:=rfl
def xp:=bP [xq,rC] Tryz.func124 ⟨[.Ae q8, .Ae q8],[(0, .v 0 q8),(1, .v 1 q8),(2, .loc 0 0)],[(0, .Af 154 [(1, .AA 84 [] [])])],1⟩ ⟨[.Ae i6],[(0, .v 0 i6)],[(0, .Af 154 [(1, .AA 84 [] [])])],1⟩ 1 [] Tl
def kE(fu:Nat)(x0:Int)(x1:Int)(x2:List Bp):Option (List Bp):=Ab .i64 (x0+1)<|Ad fu (fun(z1:List Bp×Int) nx2=>bif decide (z1.2<x1)then Ad fu (fun(z3:List Bp×Int) nx4=>bif decide (x0<z3.2)then Ac (idx z3.1 z3.2) fun r5=>Ab .i64 (z3.2-1)<|Ac (idx z3.1 (z3.2-1)) fun r6=>Ac (Tl fu (r5,r6)) fun r7=>bif decide (r7<0)then Ab .i64 (z3.2-1)<|Ab .i64 (z3.2-1)<|Ac (idx z3.1 (z3.2-1)) fun r8=>Ac (idx z3.1 z3.2) fun r9=>Ac (idx z3.1 z3.2) fun r10=>Ac (idx (List.set z3.1 (Int.toNat z3.2) r8) (z3.2-1)) fun r11=>Ab .i64 (z3.2-1)<|nx4 (((List.set z3.1 (Int.toNat z3.2) r8).set (Int.toNat (z3.2-1)) r9),(z3.2-1))else Ab .i64 (z1.2+1)<|nx2 (z3.1,(z1.2+1))else Ab .i64 (z1.2+1)<|nx2 ((z3.1,(z1.2+1)))) ((z1.1,z1.2))else some z1.1) ((x2,(x0+1)))
abbrev Zx fu(x:_×_×_):=kE fu x.1 x.2.1 x.2.2
theorem d236(fu x0 x1 x2):Zx fu (x0,x1,x2)=kE fu x0 x1 x2:=rfl
def xo:=bP [xp] Tryz.func223 ⟨[.Ae i6, .Ae i6, .Ae Iz],[(0, .Az 0),(1, .v 0 i6),(2, .v 1 i6),(3, .AA 124 [] [1])],[(0, .row 58 2),(1, .Af 154 [(1, .AA 84 [] [])])],2⟩ ⟨[.Ae Iz],[],[(0, .row 58 0),(1, .Af 154 [(1, .AA 84 [] [])])],2⟩ 0 [] Zx (la:=lk [(1,⟨[.Ae Iz, .Ae i6],[(0, .Aa),(1, .Aa),(2, .Aa),(3, .Aa),(8, .v 1 i6)],[(1, .Af 154 [(1, .AA 84 [] [])]),(0, .row 58 0)],2⟩),(4,⟨[.Ae Iz, .Ae i6],[(0, .Aa),(1, .Aa),(2, .Aa),(3, .Aa),(8, .Aa),(9, .v 1 i6)],[(1, .Af 154 [(1, .AA 84 [] [])]),(0, .row 58 0)],2⟩)])
def aF(fu:Nat)(x0:Int)(x1:Int)(x2:Int)(x3:List Bp):Option (List Bp):=Ad fu (fun(z1:PUnit) nx2=>Ab .i64 (x1-x0)<|bif decide (x1-x0<=12)then Ac (Zx fu (x0,x1,x3)) fun r3=>some r3 else bif decide (x2=0)then none else none) (())
abbrev Zw fu(x:_×_×_×_):=aF fu x.1 x.2.1 x.2.2.1 x.2.2.2
theorem d237(fu x0 x1 x2 x3):Zw fu (x0,x1,x2,x3)=aF fu x0 x1 x2 x3:=rfl
def xn:=bP [xo] Tryz.func161 ⟨[.Ae i6, .Ae i6, .Ae i6, .Ae Iz],[(0, .Az 0),(1, .v 0 i6),(2, .v 1 i6),(3, .v 2 i6),(4, .AA 124 [] [1])],[(0, .row 58 3),(1, .Af 154 [(1, .AA 84 [] [])])],2⟩ ⟨[.Ae Iz],[],[(0, .row 58 0),(1, .Af 154 [(1, .AA 84 [] [])])],2⟩ 0 [] Zw (la:=lk [(2,⟨[],[(0, .Aa),(1, .Aa),(2, .Aa),(3, .Aa),(4, .Aa),(10, .Aa),(11, .Aa)],[(1, .c 0),(0, .c 0)],2⟩)])
def aE(fu:Nat)(x0:List Bp):Option (List Bp):=Ac (dP fu (Int.ofNat (List.length x0 %Int.natAbs (18446744073709551616:Int)))) fun r1=>Ac (Zw fu (0,(x0.length:Int),r1,x0)) fun r2=>some r2
abbrev Tk fu(x:_):=aE fu x
theorem d238(fu x0):Tk fu x0=aE fu x0:=rfl
def xm:=bP [tI,xn] Tryz.func123 ⟨[.Ae Iz],[(0, .Az 0),(1, .AA 124 [] [1])],[(0, .row 58 0),(1, .Af 154 [(1, .AA 84 [] [])])],2⟩ ⟨[.Ae Iz],[],[(0, .row 58 0),(1, .Af 154 [(1, .AA 84 [] [])])],2⟩ 0 [] Tk
def kD(fu:Nat)(x0:List Bp):Option (List Bp):=Ad fu (fun(z1:List Bp×Nat) nx2=>bif decide ((z1.2:Int)<x0.length)then Ac (idx x0 z1.2) fun r3=>Ad fu (fun(z4:Nat) nx5=>bif decide ((z4:Int)<x0.length)then Ac (idx x0 z4) fun r6=>bif decide ((z1.2:Int)≠z4)then Ac (Qa fu (r3,r6)) fun r7=>bif r7 then bif decide ((z4:Int)<z1.2)then nx2 (z1.1,z1.2+1)else Ac (Qa fu (r6,r3)) fun r8=>bif !r8 then nx2 (z1.1,z1.2+1)else nx5 (z4+1)else nx5 (z4+1)else nx5 (z4+1)else Ah (List.length z1.1+1<=Ak)<|nx2 (((z1.1++[r3]),z1.2+1))) (0)else Ac (Tk fu z1.1) fun r9=>some r9) (([],0))
abbrev Zv fu(x:_):=kD fu x
theorem d239(fu x0):Zv fu x0=kD fu x0:=rfl
def xl:=bP [xJ,xm] Tryz.func82 ⟨[.Ae Iz],[(0, .v 0 Iz),(1, .AA 83 [] []),(2, .AA 84 [] [])],[],0⟩ ⟨[.Ae Iz],[(0, .v 0 Iz)],[],0⟩ 1 [] Zv (la:=lk [(3,⟨[.Ae Iz, .nat],[(0, .Aa),(1, .Aa),(5, .Aa),(7, .Az 1),(12, .Aa),(13, .Aa),(14, .AK 1 301)],[(0, .c 0),(1, .row 58 0)],2⟩),(6,⟨[.nat],[(0, .Aa),(1, .Aa),(5, .Aa),(7, .Aa),(8, .Aa),(9, .Aa),(12, .Aa),(13, .Aa),(14, .Aa),(19, .Aa),(20, .Aa),(21, .AK 0 600)],[(2, .c 0),(1, .c 0),(0, .c 0)],3⟩)]) (pt:=lg [(2,[.own 7 58 q8]),(13,[.fz 6])])
def pX(fu:Nat):Option AW:=some ([(true,[(0,255,0)])])
abbrev jM(fu:Nat)(_:Unit):=pX fu
theorem d240(fu):jM fu () =pX fu:=rfl
def xk:=bQ [] Tryz.func165 [] [y3] jM (pt:=lg [(1,[.Nd 0 0])])
def kC(fu:Nat):Option Gy:=Ac (Tu fu ()) fun r1=>Ac (jM fu ()) fun r2=>some ((true,true,true,r1,r2))
abbrev Zu(fu:Nat)(_:Unit):=kC fu
theorem d241(fu):Zu fu () =kC fu:=rfl
def xj:=bQ [rH,xk] Tryz.func127 [] [y8] Zu
def kB(fu:Nat)(x0:AD):Option Bool:=bif Vl.any x0.1 then some (Vl.any x0.2)else some false
abbrev Wv fu(x:_):=kB fu x
theorem d242(fu x0):Wv fu x0=kB fu x0:=rfl
def rB:=bQ [] Tryz.func166 [BD] [.bool] Wv
def kA(fu:Nat)(x0:BK):Option Bool:=bif decide ((x0.1.length:Int)=0)then bif decide ((x0.2.length:Int)=1)then Ac (idx x0.2 (0:Int)) fun r1=>Ac (Wv fu r1) fun r2=>some r2 else some false else some false
abbrev jL fu(x:_):=kA fu x
theorem d243(fu x0):jL fu x0=kA fu x0:=rfl
def xi:=bQ [rB] Tryz.func128 [Cn] [.bool] jL
def kz(fu:Nat)(x0:Bp):Option Bool:=bif decide ((x0.1.length:Int)=0)then bif decide ((x0.2.length:Int)=1)then Ac (idx x0.2 (0:Int)) fun r1=>Ac (Wv fu r1.2) fun r2=>some r2 else some false else some false
abbrev jK fu(x:_):=kz fu x
theorem d244(fu x0):jK fu x0=kz fu x0:=rfl
def xh:=bQ [rB] Tryz.func129 [q8] [.bool] jK
def kx(fu:Nat)(x0:Vl):Option Bool:=bif decide (((Vl.lists x0).length:Int)=1)then bif decide (((Vl.structs x0).length:Int)=1)then Ac (Zu fu ()) fun r1=>Ac (Tq fu (Vl.sc x0,r1)) fun r2=>bif decide (r2=0)then Ac (idx (Vl.lists x0) (0:Int)) fun r3=>Ac (jL fu r3) fun r4=>bif r4 then Ac (idx (Vl.structs x0) (0:Int)) fun r5=>Ac (jK fu r5) fun r6=>some r6 else some false else some false else some false else some false
abbrev Zt fu(x:_):=kx fu x
theorem d245(fu x0):Zt fu x0=kx fu x0:=rfl
def xg:=bQ [rD,xj,xi,xh] Tryz.func85 [(.nm 0)] [.bool] Zt
abbrev dJ:Type:=Jz 77 [Cn] [Cn, .bool, .bool]×Jz 78 [q8] [q8, .bool, .bool]×Jz 55 [(.nm 0)] [(.nm 0), .bool]×Jz 46 [BD] [BD, .bool]
def Wm(n:Nat):dJ:=Nat.rec (motive:=fun _=>dJ) (tQ Tryz.func77,tQ Tryz.func78,tQ Tryz.func55,tQ Tryz.func46) (fun fu g=>(sQ (Fh (g.2.2.2)::bs [WY] fu) fu Tryz.func77 [Cn] [Cn, .bool, .bool] (la:=lk [(4,⟨[.Ae Jf, .Ae .bool, .nat],[(1, .Aa),(2, .Aa),(5, .Aa),(6, .v 1 .bool),(16, .Aa),(17, .Aa),(18, .AK 2 402)],[(2, .Af 74 [(1, .Az 3),(1, .Aa)]),(1, .c 0),(0, .c 0),(3, .row 35 0)],4⟩),(13,⟨[.Ae Jf, .nat],[(2, .Aa),(5, .Aa),(6, .Aa),(45, .Aa),(46, .Aa),(47, .AK 1 1301)],[(2, .Af 74 [(1, .Aa),(1, .Az 4)]),(3, .c 0),(1, .c 0),(4, .row 35 0)],5⟩)]) (pt:=lg [(3,[.DD 5 0 35 BD]),(12,[.DD 5 1 35 BD]),(21,[.Nd 2 0, .Nd 2 1])]),sQ (Fh (g.2.2.2)::bs [WY,ym,rO,yb] fu) fu Tryz.func78 [q8] [q8, .bool, .bool] (la:=lk [(4,⟨[.Ae q5, .Ae .bool, .nat],[(1, .Aa),(2, .Aa),(5, .Aa),(6, .v 1 .bool),(17, .Aa),(18, .Aa),(19, .AK 2 402)],[(2, .Af 58 [(1, .Az 3),(1, .Aa)]),(1, .c 0),(0, .c 0),(3, .row 62 0)],4⟩),(14,⟨[.Ae Mi, .nat],[(2, .Aa),(5, .Aa),(6, .Aa),(49, .Aa),(50, .Aa),(51, .AK 1 1401)],[(2, .Af 58 [(1, .Aa),(1, .Az 4)]),(3, .c 0),(1, .c 0),(4, .row 72 0)],5⟩)]) (pt:=lg [(3,[.DD 5 0 62 Ek]),(13,[.DD 5 1 72 q7]),(25,[.Nd 2 0, .Nd 2 1])]),sQ (Fh (g.1)::Fh (g.2.1)::bs [yC,xr,xl,xg] fu) fu Tryz.func55 [(.nm 0)] [(.nm 0), .bool] (la:=lk [(6,⟨[.Ae IA, .nat],[(1, .Aa),(2, .Aa),(4, .Aa),(5, .Az 3),(25, .Aa),(26, .Aa),(27, .AK 1 601)],[(2, .c 0),(1, .c 0),(0, .c 0),(3, .row 74 0)],4⟩),(16,⟨[.Ae Iz, .nat],[(2, .Aa),(4, .Aa),(5, .Aa),(11, .Az 4),(47, .Aa),(48, .Aa),(49, .AK 1 1601)],[(3, .c 0),(2, .c 0),(1, .c 0),(4, .row 58 0)],5⟩)]) (pr:=lg [(24,[.fz 5, .fz 11])]) (pt:=lg [(5,[.own 5 74 Cn]),(15,[.own 11 58 q8])]),sQ (Fh (g.2.2.1)::bs [xI] fu) fu Tryz.func46 [BD] [BD, .bool])) n
abbrev Zs(fu:Nat)(x:BK):Option (BK×Bool×Bool):=(Wm fu).1.1 x
abbrev Zr(fu:Nat)(x:Bp):Option (Bp×Bool×Bool):=(Wm fu).2.1.1 x
abbrev Tj(fu:Nat)(x:(Vl)):Option (Vl×Bool):=(Wm fu).2.2.1.1 x
def xf(fu:Nat):=Fh (Wm fu).2.2.2
abbrev KU(fu:Nat)(x:AD):Option (AD×Bool):=(Wm fu).2.2.2.1 x
def pW(fu:Nat)(x0:BK):Option (BK×Bool×Bool):=Ad fu (fun(z1:List AD×Bool×Nat) nx2=>bif decide ((z1.2.2:Int)<x0.1.length)then Ac (idx x0.1 z1.2.2) fun r3=>Ac (KU fu r3) fun r4=>bif !r4.2 then some ((([],[]),false,false))else bif z1.2.1 then Ac (M' fu r4.1.1) fun r5=>Ah (List.length z1.1+1<=4294967296)<|nx2 ((z1.1++[r4.1]),(!r5),z1.2.2+1)else Ah (List.length z1.1+1<=4294967296)<|nx2 ((z1.1++[r4.1]),false,z1.2.2+1)else Ad fu (fun(z6:List AD×Nat) nx7=>bif decide ((z6.2:Int)<x0.2.length)then Ac (idx x0.2 z6.2) fun r8=>Ac (KU fu r8) fun r9=>bif !r9.2 then some ((([],[]),false,false))else Ac (M' fu r9.1.1) fun r10=>bif !r10 then Ah (List.length z6.1+1<=4294967296)<|nx7 ((z6.1++[r9.1]),z6.2+1)else nx7 (z6.1,z6.2+1)else some (((z1.1,z6.1),z1.2.1,true))) (([],0))) (([],true,0))
theorem d246(fu x0):Zs (fu+1) x0=pW fu x0:=by kernel_rfl
def pV(fu:Nat)(x0:Bp):Option (Bp×Bool×Bool):=Ad fu (fun(z1:List (Ax×Int×AD)×Bool×Nat) nx2=>bif decide ((z1.2.2:Int)<x0.1.length)then Ac (idx x0.1 z1.2.2) fun r3=>Ac (KU fu r3.2.2) fun r4=>bif !r4.2 then some ((([],[]),false,false))else bif z1.2.1 then Ac (M' fu r4.1.1) fun r5=>Ah (List.length z1.1+1<=4294967296)<|nx2 ((z1.1++[(r3.1,r3.2.1,r4.1)]),(!r5),z1.2.2+1)else Ah (List.length z1.1+1<=4294967296)<|nx2 ((z1.1++[(r3.1,r3.2.1,r4.1)]),false,z1.2.2+1)else Ad fu (fun(z6:List (AW×AD)×Nat) nx7=>bif decide ((z6.2:Int)<x0.2.length)then Ac (idx x0.2 z6.2) fun r8=>Ac (KU fu r8.2) fun r9=>bif !r9.2 then some ((([],[]),false,false))else Ac (WM fu (z6.1,r9.1)) fun r10=>bif decide (r10.1<0)then Ac (Na fu (r8.1,[])) fun r11=>Ah (List.length r10.2.1+1<=4294967296)<|nx7 ((r10.2.1++[(r11,r10.2.2)]),z6.2+1)else Ac (idx r10.2.1 r10.1) fun r12=>Ac (Na fu (r12.1,r8.1)) fun r13=>Ac (idx r10.2.1 r10.1) fun r14=>nx7 ((r10.2.1.set (Int.toNat r10.1) (r13,r14.2)),z6.2+1)else Ac (WK fu z6.1) fun r15=>some (((z1.1,r15),z1.2.1,true))) (([],0))) (([],true,0))
theorem d247(fu x0):Zr (fu+1) x0=pV fu x0:=by kernel_rfl
def pU(fu:Nat)(x0:Vl):Option (Vl×Bool):=bif Vl.any x0 then some ((x0,true))else Ac (aw fu (Vl.sc x0)) fun r1=>Ad fu (fun(z2:List BK×Nat) nx3=>bif decide ((z2.2:Int)<(Vl.lists x0).length)then Ac (idx (Vl.lists x0) (z2.2:Int)) fun r4=>Ac (Zs fu r4) fun r5=>bif !r5.2.2 then some ((Vl.mk false (false,false,false,([],[]),[]) [] [],false))else bif r5.2.1 then Ah (List.length z2.1+1<=Ak)<|nx3 ((z2.1++[r5.1]),z2.2+1)else nx3 (z2.1,z2.2+1)else Ad fu (fun(z6:List Bp×Nat) nx7=>bif decide ((z6.2:Int)<(Vl.structs x0).length)then Ac (idx (Vl.structs x0) (z6.2:Int)) fun r8=>Ac (Zr fu r8) fun r9=>bif !r9.2.2 then some ((Vl.mk false (false,false,false,([],[]),[]) [] [],false))else bif r9.2.1 then Ah (List.length z6.1+1<=Ak)<|nx7 ((z6.1++[r9.1]),z6.2+1)else nx7 (z6.1,z6.2+1)else Ac (Zz fu z2.1) fun r10=>Ac (Zv fu z6.1) fun r11=>Ac (Zt fu (Vl.mk false r1 r10 r11)) fun r12=>bif r12 then some ((Vl.mk true (false,false,false,([],[]),[]) [] [],true))else some ((Vl.mk false r1 r10 r11,true))) (([],0))) (([],0))
theorem d248(fu x0):Tj (fu+1) x0=pU fu x0:=by kernel_rfl
def pT(fu:Nat)(x0:AD):Option (AD×Bool):=Ac (Tj fu x0.1) fun r1=>Ac (Tj fu x0.2) fun r2=>bif r1.2 then bif r2.2 then Ac (Le fu (r2.1,r1.1)) fun r3=>some (((r1.1,r2.1),r3))else some (((r1.1,r2.1),false))else some (((r1.1,r2.1),false))
theorem d249(fu x0):KU (fu+1) x0=pT fu x0:=by kernel_rfl
def kv(fu:Nat)(x0:AD):Option (AD×Int):=Ac (ph fu x0) fun r1=>bif !r1 then some (((Vl.mk false (false,false,false,([],[]),[]) [] [],Vl.mk false (false,false,false,([],[]),[]) [] []),11))else Ac (KU fu x0) fun r2=>bif !r2.2 then some (((Vl.mk false (false,false,false,([],[]),[]) [] [],Vl.mk false (false,false,false,([],[]),[]) [] []),11))else some ((r2.1,0))
abbrev Ti fu(x:_):=kv fu x
theorem d251(fu x0):Ti fu x0=kv fu x0:=rfl
def rA:=bQ [zQ,xf] Tryz.func33 [BD] [BD,i6] Ti
def ku(fu:Nat)(x0:AD):Option Bool:=Ac (Ti fu x0) fun r1=>bif decide (r1.2=0)then Ac (Qd fu (r1.1,x0)) fun r2=>some r2 else some false
abbrev KT fu(x:_):=ku fu x
theorem d252(fu x0):KT fu x0=ku fu x0:=rfl
def aX:=bQ [rA,mq] Tryz.func20 [BD] [.bool] KT
def ko(fu:Nat)(x0:AD):Option Vl:=Ac (Ti fu x0) fun r1=>bif decide (r1.2≠0)then some (Vl.mk false (false,false,false,([],[]),[]) [] [])else Ac (KT fu x0) fun r2=>bif !r2 then some (Vl.mk false (false,false,false,([],[]),[]) [] [])else Ac (M' fu r1.1.2) fun r3=>bif r3 then some r1.1.1 else some r1.1.2
abbrev Zq fu(x:_):=ko fu x
theorem d253(fu x0):Zq fu x0=ko fu x0:=rfl
def xe:=bQ [aX,WY,rA] Tryz.func44 [BD] [(.nm 0)] Zq
def kj(fu:Nat)(x0:AD):Option ((Vl×Bool)×Int):=Ac (KT fu x0) fun r1=>bif !r1 then some (((Vl.mk false (false,false,false,([],[]),[]) [] [],false),11))else Ac (M' fu x0.1) fun r2=>bif r2 then some (((Vl.mk false (false,false,false,([],[]),[]) [] [],false),12))else Ac (Zq fu x0) fun r3=>Ac (TA fu (Vl.sc r3)) fun r4=>some (((r3,(!r4)),0))
abbrev Wu fu(x:_):=kj fu x
theorem d254(fu x0):Wu fu x0=kj fu x0:=rfl
def rz:=bQ [aX,WY,mu,xe] Tryz.func31 [BD] [(.st tM),i6] Wu
def kg(fu:Nat)(x0:Vl×Bool):Option Int:=Ab .i64 (((Vl.lists x0.1).length:Int)+((Vl.structs x0.1).length:Int))<|bif x0.2 then Ab .i64 (((Vl.lists x0.1).length:Int)+((Vl.structs x0.1).length:Int)+1)<|some (((((Vl.lists x0.1).length:Int)+((Vl.structs x0.1).length:Int))+1))else some ((((Vl.lists x0.1).length:Int)+((Vl.structs x0.1).length:Int)))
abbrev Zp fu(x:_):=kg fu x
theorem d255(fu x0):Zp fu x0=kg fu x0:=rfl
def xd:=bQ [] Tryz.func45 [(.st tM)] [i6] Zp
def kd(fu:Nat)(x0:Vl×Bool)(x1:Int):Option Int:=bif Vl.any x0.1 then some 14 else bif decide ((0:Int)<x1)then Ac (Zp fu x0) fun r1=>bif decide ((1:Int)<r1)then some 14 else bif decide (x1=0)then some 11 else some 0 else bif decide (x1=0)then some 11 else some 0
abbrev Th fu(x:_×_):=kd fu x.1 x.2
theorem d256(fu x0 x1):Th fu (x0,x1)=kd fu x0 x1:=rfl
def ry:=bQ [xd] Tryz.func32 [(.st tM),i6] [i6] Th
def j_(fu:Nat)(x0:AD):Option (Bp×Int):=Ac (Wu fu x0) fun r1=>bif decide (r1.2=0)then Ac (Th fu (r1.1,((Vl.structs r1.1.1).length:Int))) fun r2=>bif decide (r2≠0)then some ((([],[]),r2))else Ac (idx (Vl.structs r1.1.1) (0:Int)) fun r3=>some ((r3,0))else bif decide (r1.2≠0)then some ((([],[]),r1.2))else Ac (idx (Vl.structs r1.1.1) (0:Int)) fun r4=>some ((r4,0))
abbrev P8 fu(x:_):=j_ fu x
theorem d257(fu x0):P8 fu x0=j_ fu x0:=rfl
def rv:=bQ [rz,ry] Tryz.func19 [BD] [q8,i6] P8
def j9(fu:Nat)(x0:AD)(x1:Ax):Option (AD×Int):=Ac (P8 fu x0) fun r1=>bif decide (r1.2≠0)then some (((Vl.mk false (false,false,false,([],[]),[]) [] [],Vl.mk false (false,false,false,([],[]),[]) [] []),r1.2))else Ad fu (fun(z2:Nat) nx3=>bif decide ((z2:Int)<r1.1.1.length)then Ac (idx r1.1.1 z2) fun r4=>bif decide (r4.1=x1)then some ((r4.2.2,0))else nx3 (z2+1)else some (((Vl.mk false (false,false,false,([],[]),[]) [] [],Vl.mk false (false,false,false,([],[]),[]) [] []),13))) (0)
abbrev KS fu(x:_×_):=j9 fu x.1 x.2
theorem d258(fu x0 x1):KS fu (x0,x1)=j9 fu x0 x1:=rfl
def rq:=bQ [rv] Tryz.func7 [BD, .str] [BD,i6] KS (la:=lk [(5,⟨[.nat],[(1, .Aa),(4, .Aa),(20, .Aa),(21, .Aa),(22, .AK 0 500)],[(1, .c 0)],3⟩)])
def wO(fu:Nat)(x0:AD):Option (BK×Int):=Ac (Wu fu x0) fun r1=>bif decide (r1.2=0)then Ac (Th fu (r1.1,((Vl.lists r1.1.1).length:Int))) fun r2=>bif decide (r2≠0)then some ((([],[]),r2))else Ac (idx (Vl.lists r1.1.1) (0:Int)) fun r3=>some ((r3,0))else bif decide (r1.2≠0)then some ((([],[]),r1.2))else Ac (idx (Vl.lists r1.1.1) (0:Int)) fun r4=>some ((r4,0))
abbrev pQ fu(x:_):=wO fu x
def xc:=bQ [rz,ry] Tryz.func26 [BD] [Cn,i6] pQ
def wN(fu:Nat)(x0:AD)(x1:Int):Option (AD×Int):=Ac (pQ fu x0) fun r1=>bif decide (r1.2≠0)then some (((Vl.mk false (false,false,false,([],[]),[]) [] [],Vl.mk false (false,false,false,([],[]),[]) [] []),r1.2))else bif decide (x1<0)then some (((Vl.mk false (false,false,false,([],[]),[]) [] [],Vl.mk false (false,false,false,([],[]),[]) [] []),1))else bif decide (x1<(r1.1.1.length:Int))then Ac (idx r1.1.1 x1) fun r2=>some ((r2,0))else bif decide ((0:Int)<r1.1.2.length)then some (((Vl.mk false (false,false,false,([],[]),[]) [] [],Vl.mk false (false,false,false,([],[]),[]) [] []),14))else some (((Vl.mk false (false,false,false,([],[]),[]) [] [],Vl.mk false (false,false,false,([],[]),[]) [] []),13))
abbrev pP fu(x:_×_):=wN fu x.1 x.2
def xb:=bQ [xc] Tryz.func14 [BD,i6] [BD,i6] pP
def wM(fu:Nat)(x0:AD)(x1:AD):Option Bool:=Ac (KW fu (x0,x1)) fun r1=>bif r1 then Ac (ph fu x0) fun r2=>some r2 else some false
abbrev pO fu(x:_×_):=wM fu x.1 x.2
def xa:=bQ [rK,zQ] Tryz.func15 [BD,BD] [.bool] pO
def wL(fu:Nat)(x0:Vl):Option Bool:=Ac (KT fu (x0,Vl.mk false (false,false,false,([],[]),[]) [] [])) fun r1=>some r1
abbrev pN fu(x:_):=wL fu x
def w_:=bQ [aX] Tryz.func29 [(.nm 0)] [.bool] pN
def wK(fu:Nat)(x0:Vl)(x1:Ax):Option Bool:=bif decide (x1=([110,117,108,108]:Ax))then some ((Vl.sc x0).1)else bif decide (x1=([98,111,111,108]:Ax))then bif (Vl.sc x0).2.1 then some true else some ((Vl.sc x0).2.2.1)else bif decide (x1=([105,110,116]:Ax))then some (decide ((0:Int)<(((Vl.sc x0).2.2.2.1.1).length:Int)))else bif decide (x1=([110,117,109,98,101,114]:Ax))then some (decide ((0:Int)<(((Vl.sc x0).2.2.2.1.2).length:Int)))else bif decide (x1=([115,116,114,105,110,103]:Ax))then some (decide ((0:Int)<(((Vl.sc x0).2.2.2.2).length:Int)))else bif decide (x1=([108,105,115,116]:Ax))then some (decide ((0:Int)<(Vl.lists x0).length))else some (decide ((0:Int)<(Vl.structs x0).length))
abbrev pM fu(x:_×_):=wK fu x.1 x.2
def w9:=bQ [] Tryz.func30 [(.st (.nm 0)), .str] [.bool] pM
def wJ(fu:Nat)(x0:Vl):Option (List Ax):=Ac (pN fu x0) fun r1=>bif !r1 then some []else Ad fu (fun(z2:List Ax×Nat) nx3=>bif decide ((z2.2:Int)< ↑(7))then Ac (idx [([110,117,108,108]:Ax),([98,111,111,108]:Ax),([105,110,116]:Ax),([110,117,109,98,101,114]:Ax),([115,116,114,105,110,103]:Ax),([108,105,115,116]:Ax),([115,116,114,117,99,116]:Ax)] (z2.2:Int)) fun r4=>bif Vl.any x0 then Ah (List.length z2.1+1<=Ak)<|nx3 ((z2.1++[r4]),z2.2+1)else Ac (pM fu (x0,r4)) fun r5=>bif r5 then Ah (List.length z2.1+1<=Ak)<|nx3 ((z2.1++[r4]),z2.2+1)else nx3 (z2.1,z2.2+1)else some z2.1) (([],0))
abbrev jJ fu(x:_):=wJ fu x
def w8:=bQ [w_,w9] Tryz.func16 [(.nm 0)] [q1] jJ (la:=lk [(6,⟨[.Ae q1, .nat],[(1, .Aa),(3, .Aa),(4, .Az 2),(13, .Aa),(14, .Aa),(15, .AK 1 601)],[(1, .c 0),(0, .c 0),(2, .row 9 0)],3⟩)]) (pt:=lg [(5,[.own 4 9 .str]),(11,[.fz 2])])
def wI(fu:Nat)(x0:List Ax)(x1:List Ax):Option Bool:=bif decide ((x0.length:Int)≠x1.length)then some false else Ad fu (fun(z1:Nat) nx2=>bif decide ((z1:Int)<x0.length)then Ac (idx x0 z1) fun r3=>Ac (idx x1 z1) fun r4=>bif !decide (r3=r4)then some false else nx2 (z1+1)else some true) (0)
abbrev pL fu(x:_×_):=wI fu x.1 x.2
def w7:=bQ [] Tryz.func18 [q1,q1] [.bool] pL (la:=lk [(4,⟨[.nat],[(0, .Aa),(1, .Aa),(5, .AK 0 400)],[],0⟩)])
def wH(fu:Nat):Option Bool:=Ac (F5 fu (1,1)) fun r1=>Ac (F6 fu r1) fun r2=>Ac (vl fu (([97]:Ax),r2)) fun r3=>Ac (F6 fu r3) fun r4=>Ac (KS fu (r4,([97]:Ax))) fun r5=>Ac (KS fu (r4,([98]:Ax))) fun r6=>Ac (pP fu (r4,0)) fun r7=>Ac (vl fu (([97]:Ax),r2)) fun r8=>Ac (F5 fu (1,1)) fun r9=>Ac (F6 fu (Vl.mk (Vl.any r8) (Vl.sc r9) (Vl.lists r8) (Vl.structs r8))) fun r10=>Ac (KS fu (r10,([97]:Ax))) fun r11=>Ac (F5 fu (1,2)) fun r12=>Ac (F6 fu r12) fun r13=>Ac (KS fu (r13,([97]:Ax))) fun r14=>bif decide (r5.2=0)then bif decide (r6.2=13)then bif decide (r7.2=11)then bif decide (r11.2=14)then bif decide (r14.2=11)then Ac (pO fu (r5.1,r2)) fun r15=>bif r15 then Ac (vm fu ()) fun r16=>Ac (jJ fu r16.1) fun r17=>bif decide ((r17.length:Int)=7)then Ac (F5 fu ((-3:Int),3)) fun r18=>Ac (jJ fu r18) fun r19=>Ac (pL fu (r19,[([105,110,116]:Ax)])) fun r20=>some r20 else some false else some false else some false else some false else some false else some false else some false
abbrev Ws(fu:Nat)(_:Unit):=wH fu
def wZ:=bQ [rq,B6,B5,B33,xb,xa,w8,z_,w7] Tryz.func5 [] [.bool] Ws
end
end Go.GV
