/- Part 3 of the texts of this claim: what its theorem leans on. -/
import Derived.Test.YtjmbmodmepdmjaaGreatDoorZAutomatonOf2
import Derived.Shelf.Slices.In.SortNone
set_option maxRecDepth 100000
set_option maxHeartbeats 4000000
namespace Go.Proofs.YtjmbmodmepdmjaaGreatDoor
open Go.GK Go.Proofs Go.Shelf Go.Sort
variable {H : Hp} {O : List Bj}
theorem YP:∃j,Tryz.prog.info? 123=some j∧j.size≠0:=by
 have h:(Tryz.prog.info? 123).map (fun j=>j.size)=some 2:=by kernel_rfl
 cases hj:Tryz.prog.info? 123 with
 |none=>rw[hj]at h;cases h
 |some j=>rw[hj]at h;simp at h;exact⟨j,rfl,by omega⟩
theorem Vi{B:Nat}{v:Value} :ED Tryz.prog 83 [ptr B 0] H (.AM B (.cells #[.pointer none,v] 123 (0,0))::O) (fun r H' O'=> .tuple #[]=r∧ .AM B (.cells #[ptr B 0,v] 123 (0,0))::O=O'):=by
 obtain⟨j,hj,hj0⟩:=YP
 intro w hs
 refine Bz Tryz.func83 rf rf rf ?_ hs
 clear hs w
 refine Wp.seq ?_
 refine Wp.region ?_
 refine Aa.op (Ab.move rf) rf ?_
 refine Aa.op (Ab.nilCheck rf) rf ?_
 refine Aa.op (Ab.AV (o':=0) L8 rf rf) rf ?_
 refine Aa.op (Ab.Am (i:=0) (v:= .pointer none) Tryz.underlying120 rf rf rf rf) rf ?_
 refine Aa.op (Ab.YV Tryz.underlying120 hj rf rf) rf ?_
 refine Aa.nil ?_
 refine At.Ad ?_
 refine Wp.D_ rf ?_
 refine Wp.region ?_
 refine Aa.op (Ab.move rf) rf ?_
 refine Aa.op (Ab.move rf) rf ?_
 refine Aa.op (Ab.TL (i:=0) Tryz.underlying120 Tryz.underlying156 hj hj0 rf rf (Nat.le_of_ble_eq_true rf)) rf ?_
 refine Aa.op (Ab.Ue Tryz.func104 (by kernel_rfl) (by kernel_rfl) (by kernel_rfl) (by kernel_rfl) rf) rf ?_
 refine Aa.op (Ab.Ub (i:=0) Tryz.underlying156 Tryz.underlying120 hj rf rf (by kernel_rfl)) rf ?_
 refine Aa.op (Ab.nilCheck rf) rf ?_
 refine Aa.op (Ab.AV (o':=0) L8 rf rf) rf ?_
 refine Aa.Cc (i:=0) rf rf rf Yq rf (Nat.le_of_ble_eq_true rf) ?_
 refine Aa.nil ?_
 exact At.Km rf (fun w hs=>⟨_,_,_,rf,Hp.le.refl _,hs,rf,rf⟩)
theorem Tq{B:Nat}{v:Value} :ED Tryz.prog 83 [ptr B 0] H (.AM B (.cells #[ptr B 0,v] 123 (0,0))::O) (fun r H' O'=> .tuple #[]=r∧ .AM B (.cells #[ptr B 0,v] 123 (0,0))::O=O'):=by
 obtain⟨j,hj,hj0⟩:=YP
 intro w hs
 refine Bz Tryz.func83 rf rf rf ?_ hs
 clear hs w
 refine Wp.seq ?_
 refine Wp.region ?_
 refine Aa.op (Ab.move rf) rf ?_
 refine Aa.op (Ab.nilCheck rf) rf ?_
 refine Aa.op (Ab.AV (o':=0) L8 rf rf) rf ?_
 refine Aa.op (Ab.Am (i:=0) (v:=ptr B 0) Tryz.underlying120 rf rf rf rf) rf ?_
 refine Aa.op (Ab.XW Tryz.underlying120 hj rf rf) rf ?_
 refine Aa.nil ?_
 refine At.Ad ?_
 refine Wp.C2 rf ?_
 refine Wp.seq ?_
 refine Wp.region ?_
 refine Aa.op (Ab.move rf) rf ?_
 refine Aa.op (Ab.nilCheck rf) rf ?_
 refine Aa.op (Ab.AV (o':=0) L8 rf rf) rf ?_
 refine Aa.op (Ab.Am (i:=0) (v:=ptr B 0) Tryz.underlying120 rf rf rf rf) rf ?_
 refine Aa.op (Ab.move rf) rf ?_
 refine Aa.op (Ab.XI Tryz.underlying120 hj rf rf) rf ?_
 refine Aa.nil ?_
 refine At.Ad ?_
 refine Wp.C2 rf ?_
 refine Wp.skip ?_
 exact At.Km rf (fun w hs=>⟨_,_,_,rf,Hp.le.refl _,hs,rf,rf⟩)
theorem Z0{B:Nat}{a v:Value}(ha:a= .pointer none∨a=ptr B 0):ED Tryz.prog 83 [ptr B 0] H (.AM B (.cells #[a,v] 123 (0,0))::O) (fun r H' O'=> .tuple #[]=r∧ .AM B (.cells #[ptr B 0,v] 123 (0,0))::O=O'):=by
 rcases ha with rfl|rfl
 ·exact Vi
 ·exact Tq
theorem ZY{B:Nat}{a v:Value}{l s:Cb}{xs:List Value}(ha:a= .pointer none∨a=ptr B 0)(hL:Au TD H l xs)(hv:v= .slice none 0 0∨l≠ [])(hb:l.length+s.length≤AH):
  ED Tryz.prog 70 [ptr B 0,sv s] H (.AM B (.cells #[a,v] 123 (0,0)):: .row v 5 1 l.length xs::O) (fun r H' O'=> ∃v' xs', .tuple #[.int .i64 ((s.length:Nat):Int), .nilIface]=r∧(v'= .slice none 0 0∨l++s≠ [])∧Au TD H' (l++s) xs'∧ .AM B (.cells #[ptr B 0,v'] 123 (0,0)):: .row v' 5 1 (l++s).length xs'::O=O'):=by
 intro w hs
 refine Bz Tryz.func70 rf rf rf ?_ hs
 clear hs w
 refine Wp.seq ?_
 refine Wp.region ?_
 refine Aa.op (Ab.assign rf) rf ?_
 refine Aa.op (Ab.assign rf) rf ?_
 refine Aa.nil ?_
 refine At.Ad ?_
 refine Wp.seq ?_
 refine Wp.region ?_
 refine Aa.op (Ab.move rf) rf ?_
 refine Aa.E8 (BC.call YW rf (Z0 ha)) rf ?_
 rintro _ H1 _ hl1 ⟨rfl,rfl⟩
 refine Aa.nil ?_
 refine At.Ad ?_
 refine Wp.seq ?_
 refine Wp.region ?_
 refine Aa.op (Ab.move rf) rf ?_
 refine Aa.op (Ab.move rf) rf ?_
 refine Aa.op (Ab.nilCheck rf) rf ?_
 refine Aa.op (Ab.AV (o':=1) Jx rf rf) rf ?_
 refine Aa.op (Ab.Am (i:=0) (v:=v) Tryz.underlying121 rf rf rf rf) rf ?_
 refine Aa.op (Ab.move rf) rf ?_
 refine Aa.Rz 1 Tryz.underlying121 Tryz.underlying9 VO rf rf rf (hL.mono hl1) hv hb rf fun v' xs' hv' hL'=>?_
 refine Aa.op (Ab.nilCheck rf) rf ?_
 refine Aa.op (Ab.AV (o':=1) Jx rf rf) rf ?_
 refine Aa.Bm (i:=1) rf fun h1=>?_
 refine Aa.Cc (i:=0) rf rf h1 Yp rf (Nat.le_of_ble_eq_true rf) ?_
 refine Aa.nil ?_
 refine At.Ad ?_
 refine Wp.seq ?_
 refine Wp.region ?_
 refine Aa.op (Ab.move rf) rf ?_
 refine Aa.op (Ab.XM Tryz.underlying9 rf) rf ?_
 refine Aa.op (Ab.assign rf) rf ?_
 refine Aa.op (Ab.assign rf) rf ?_
 refine Aa.nil ?_
 refine At.Ad ?_
 refine Wp.ret ?_
 exact At.I5 rf (RV.tmp rf) (RV.tmp rf) (fun w hs=>⟨_,_,_,rf,hl1,hs,v',xs',rf,hv',hL',rf⟩)
theorem Vh{B:Nat}{a:Value} :ED Tryz.prog 72 [ptr B 0] H (.AM B (.cells #[a, .slice none 0 0] 123 (0,0))::O) (fun r H' O'=>sv []=r∧O=O'):=by
 intro w hs
 refine Bz Tryz.func72 rf rf rf ?_ hs
 clear hs w
 refine Wp.seq ?_
 refine Wp.region ?_
 refine Aa.op (Ab.assign rf) rf ?_
 refine Aa.nil ?_
 refine At.Ad ?_
 refine Wp.seq ?_
 refine Wp.CV 12 follows rf (by kernel_rfl) ?_
 refine Ag.A6 (Ab.move rf) rf ?_
 refine Ag.A6 (Ab.nilCheck rf) rf ?_
 refine Ag.A6 (Ab.AV (o':=1) Jx rf rf) rf ?_
 refine Ag.A6 (Ab.Am (i:=0) (v:= .slice none 0 0) Tryz.underlying121 rf rf rf rf) rf ?_
 refine Ag.A6 (Ab.OA rf) rf ?_
 refine Ag.A6 (Ab.move rf) rf ?_
 refine Ag.A6 (Ab.nilCheck rf) rf ?_
 refine Ag.A6 (Ab.AV (o':=1) Jx rf rf) rf ?_
 refine Ag.A6 (Ab.Am (i:=0) (v:= .slice none 0 0) Tryz.underlying121 rf rf rf rf) rf ?_
 refine Ag.A6 (Ab.len Tryz.underlying121 rf (.inl ⟨rf,rf⟩)) rf ?_
 refine Ag.A6 (Ab.LN rf rf) rf ?_
 refine Ag.A6 (Ab.assign rf) rf ?_
 refine Ag.CW ?_
 refine Ap.is (t:=2) rf ?_
 refine Ap.JB ?_
 refine Aa.nil ?_
 refine At.Ad ?_
 refine Wp.ret ?_
 exact At.DB rf (RV.tmp rf) (fun w hs=>⟨_,_,_,rf,Hp.le.refl _,hs.Cg 1,rf,rf⟩)
theorem Tp{B:Nat}{a v:Value}{l:Cb}{xs:List Value}(hL:Au TD H l xs)(h0:l≠ []):ED Tryz.prog 72 [ptr B 0] H (.AM B (.cells #[a,v] 123 (0,0)):: .row v 5 1 l.length xs::O) (fun r H' O'=>sv l=r∧O=O'):=by
 have hpos:0<l.length:=List.length_pos_iff.2 h0
 intro w hs
 refine Bz Tryz.func72 rf rf rf ?_ hs
 clear hs w
 refine Wp.seq ?_
 refine Wp.region ?_
 refine Aa.op (Ab.assign rf) rf ?_
 refine Aa.nil ?_
 refine At.Ad ?_
 refine Wp.seq ?_
 refine Aj.runK 2 [⟨[],[],[]⟩,⟨[],[],[]⟩,⟨[],[],[]⟩,⟨[0],[],[]⟩,⟨[1],[],[]⟩,⟨[],[],[]⟩,⟨[],[],[]⟩,⟨[],[],[]⟩,⟨[0],[],[]⟩,⟨[1],[],[]⟩,⟨[],[1],[]⟩,⟨[],[],[]⟩] follows rf (by kernel_rfl) ?_
 refine Aj.op (val:=fun _=>ptr B 0) rf rf (fun _=>rfl) (fun _ p _ hx hf hy=>Ab.move rf) rf ?_
 refine Aj.op (val:=fun _=>ptr B 0) rf rf (fun _=>rfl) (fun _ p _ hx hf hy=>Ab.nilCheck rf) rf ?_
 refine Aj.op (val:=fun _=>ptr B 1) rf rf (fun _=>rfl) (fun _ p _ hx hf hy=>Ab.AV (o':=1) Jx rf rf) rf ?_
 refine Aj.op (val:=fun _=>v) rf rf (fun _=>rfl) (fun _ p _ hx hf hy=>Ab.Am (i:=0) (v:=v) Tryz.underlying121 rf rf (hy 0 _ rf rf) rf) rf ?_
 refine Aj.op (val:=fun _=>A2 v 0) rf rf (fun _=>rfl) (fun _ p _ hx hf hy=>Ab.SS (i:=1) rf (hy 1 _ rf rf) hpos) rf ?_
 refine Aj.op (val:=fun _=>ptr B 0) rf rf (fun _=>rfl) (fun _ p _ hx hf hy=>Ab.move rf) rf ?_
 refine Aj.op (val:=fun _=>ptr B 0) rf rf (fun _=>rfl) (fun _ p _ hx hf hy=>Ab.nilCheck rf) rf ?_
 refine Aj.op (val:=fun _=>ptr B 1) rf rf (fun _=>rfl) (fun _ p _ hx hf hy=>Ab.AV (o':=1) Jx rf rf) rf ?_
 refine Aj.op (val:=fun _=>v) rf rf (fun _=>rfl) (fun _ p _ hx hf hy=>Ab.Am (i:=0) (v:=v) Tryz.underlying121 rf rf (hy 0 _ rf rf) rf) rf ?_
 refine Aj.op (val:=fun _=> .int .i64 ((l.length:Nat):Int)) rf rf (fun _=>rfl) (fun _ p _ hx hf hy=>Ab.BR (i:=1) Tryz.underlying121 rf (hy 1 _ rf rf)) rf ?_
 refine Aj.YE (val:=fun _=>sv l) (res:=fun _=> .emp) 1 rfl rfl (fun _=>rfl) (fun _=>rfl) (fun H' p _ hx hf hy=>(BC.unsafeString (l:=l) Tryz.underlying139 (by kernel_rfl) rfl rfl (hy 1 _ rfl rfl) (hL.mono hx) h0).mono (by rintro u HH OO ⟨h1,h2,h3⟩;exact⟨h1,h2,h3.symm⟩)) rfl ?_
 refine Aj.op (val:=fun _=>sv l) rf rf (fun _=>rfl) (fun _ p _ hx hf hy=>Ab.assign rf) rf ?_
 refine Aj.done fun H1 p hl1 hF=>?_
 refine At.sub (L':=[(2,sv l)]) (.cons rf .nil) ?_
 refine At.Ad ?_
 refine Wp.ret ?_
 exact At.DB rf (RV.tmp (v:=sv l) rf) (fun w hs=>⟨_,_,_,rf,hl1,hs.Cg 2,rf,rf⟩)
theorem ZZ{B:Nat}{a v:Value}{l:Cb}{xs:List Value}(hL:Au TD H l xs)(hv:v= .slice none 0 0∨l≠ [])(hb:l=[]→v= .slice none 0 0):ED Tryz.prog 72 [ptr B 0] H (.AM B (.cells #[a,v] 123 (0,0)):: .row v 5 1 l.length xs::O) (fun r H' O'=>sv l=r∧O=O'):=by
 by_cases h0:l=[]
 ·subst h0
  rw[hb rfl]
  intro w hs
  have hs':=hs.AR [0] 2 rfl rfl rfl
  exact Vh (a:=a) w hs'
 ·exact Tp hL h0
theorem Vg{B:Nat}{a v:Value}{l s:Cb}{xs:List Value}(h:Jn H B a v l xs)(hb:l.length+s.length≤AH):
  ED Tryz.prog 70 [ptr B 0,sv s] H (.AM B (.cells #[a,v] 123 (0,0)):: .row v 5 1 l.length xs::O) (fun r H' O'=> ∃v' xs', .tuple #[.int .i64 ((s.length:Nat):Int), .nilIface]=r∧Jn H' B (ptr B 0) v' (l++s) xs'∧ .AM B (.cells #[ptr B 0,v'] 123 (0,0)):: .row v' 5 1 (l++s).length xs'::O=O'):=
 (ZY h.a h.L h.v hb).mono fun _ _ _ _ ⟨v',xs',h1,h2,h3,h4⟩=>⟨v',xs',h1,⟨.inr rfl,h2,h3⟩,h4⟩
theorem Xf{B:Nat}{a v:Value}{l:Cb}{xs:List Value}(h:Jn H B a v l xs):ED Tryz.prog 72 [ptr B 0] H (.AM B (.cells #[a,v] 123 (0,0)):: .row v 5 1 l.length xs::O) (fun r H' O'=>sv l=r∧O=O'):=
 ZZ h.L h.v (fun h0=>h.v.resolve_right (fun k=>k h0))
theorem UB{n:Int}(hG:E1 Tryz.prog H)(hn:C0 n):Ca Tryz.prog 71 [.int .i64 n] H O (sv (Lib.itoa n)):=
 Ca.itoa (fun n h0 h1 w ht=>Go.Proofs.Tryz.strconv_Itoa n h0 h1 w ht) hG hn
theorem Yr{l:List Int}{v:Value}{e:TypeId}{xs:List Value}(hL:Au Ao H l xs)(hn:l.length≤AH):
  ED Tryz.prog 59 [v] H (.row v e 1 l.length xs::O) (fun r H' O'=> ∃xs', .tuple #[]=r∧Au Ao H' (GK.CD l) xs'∧ .row v e 1 (GK.CD l).length xs'::O=O'):=
 ED.CD (fun AM off cap zs w h1 h2 h3=>Go.Proofs.Tryz.slices_Sort_int AM off cap zs w h1 h2 h3) (fun p cap w=>Go.Proofs.Any.slices_Sort_int_none Go.Proofs.Tryz.Sf p cap w) hL hn
theorem Vc(a b c a' b' c':Int)(h0:0≤a)(h1:a≤255)(h2:0≤a')(h3:a'≤255)(W:World):Calls Tryz.prog 64 #[.agg #[.int .u8 a, .int .u8 b, .int .i64 c], .agg #[.int .u8 a', .int .u8 b', .int .i64 c']] W fun e w'=>e= .returned (.int .i64 (a-a'))∧∃q os',w'=grow (W.drewN q) os':=by
 have e1:IntKind.i64.wrap a=a:=by simp[IntKind.wrap,IntKind.bits,IntKind.signed];omega
 have e2:IntKind.i64.wrap a'=a':=by simp[IntKind.wrap,IntKind.bits,IntKind.signed];omega
 have e3:IntKind.i64.wrap (a-a')=a-a':=by simp[IntKind.wrap,IntKind.bits,IntKind.signed];omega
 go_enter Tryz.func64,Tryz.ntmps64
 go_wp2
 go_ret
 exact⟨by simp[e1,e2,e3],0,_,by rw[alloc_eq_grow,alloc_eq_grow,grow_grow];rfl⟩
theorem Xt{l:List (Int×Int×Int)}{v:Value}{e:TypeId}{xs:List Value}(hL:Au (cP AZ (cP AZ Ao)) H l xs)(hok:On FK l)(hn:l.length≤AH):
  ED Tryz.prog 63 [v, .func (.func 64) #[] #[]] H (.row v e 3 l.length xs::O) (fun r H' O'=> ∃xs', .tuple #[]=r∧Au (cP AZ (cP AZ Ao)) H' (EV FK l) xs'∧ .row v e 3 (EV FK l).length xs'::O=O'):=
 ED.Xs (c:=cP AZ (cP AZ Ao)) Tryz.Ys Tryz.isAgg46 Tryz.sizeOf46 (enters_of Tryz.func64 (by kernel_rfl) rfl) (fun H x y r cs1 cs2 h1 h2 hr W=>by
  obtain⟨_,_,rfl,⟨rfl,a1,a2⟩,_,_,rfl,⟨rfl,a3,a4⟩,rfl⟩:=h1
  obtain⟨_,_,rfl,⟨rfl,b1,b2⟩,_,_,rfl,⟨rfl,b3,b4⟩,rfl⟩:=h2
  cases hr
  exact Vc _ _ _ _ _ _ a1 a2 b1 b2 W) hL hok hn
end Go.Proofs.YtjmbmodmepdmjaaGreatDoor
namespace Go.Proofs.YtjmbmodmepdmjaaGreatDoor
open Go.GK
variable {H : Hp} {O : List Bj}
theorem N5(p:Nat→Bool)(b:Nat)(hb:b<256):
  Ca Tryz.prog 58 [(.agg (BV p)),(.int .u8 (((b:Nat):Int)))] H O (.bool (p b)):=by
 intro w hs
 refine Bz Tryz.func58 rf rf rf ?_ hs
 clear hs w
 refine Wp.seq ?_
 refine Wp.region ?_
 refine Aa.box (cs:=BV p) rf rf rf fun B1=>?_
 refine Aa.op (Ab.assign rf) rf ?_
 refine Aa.nil ?_
 refine At.Ad ?_
 refine Wp.seq ?_
 refine Wp.region ?_
 refine Aa.op (Ab.move rf) rf ?_
 refine Aa.op (Ab.quo rf rf (by omega) (by omega) (YK (by omega))) rf ?_
 refine Aa.op (Ab.El (off':=b/64) Tryz.underlying34 FN rf rf (by omega) (by omega)) rf ?_
 refine Aa.op (Ab.Am (i:=0) (v:=(Ak (word p (b/64)))) Tryz.underlying32 rf rf rf (E5 p _ (by omega))) rf ?_
 refine Aa.op (Ab.move rf) rf ?_
 refine Aa.op (Ab.rem rf rf (by omega) (by omega)) rf ?_
 refine Aa.op (Ab.Yu (n:=b %64) rf rf) rf ?_
 refine Aa.op (Ab.X8 (b:=1#64) rf rf) rf ?_
 refine Aa.op (Ab.Z_ (b:=1#64) rf rf) rf ?_
 refine Aa.op (Ab.assign rf) rf ?_
 refine Aa.nil ?_
 refine At.Ad ?_
 refine Wp.ret ?_
 refine At.DB rf (RV.tmp (v:=(.bool (decide ((((word p (b/64))>>>(b %64))&&&(1#64))=(1#64))))) rf) ?_
 exact fun w hs=>⟨congrArg (fun b=>Ending.returned (.bool b)) (by rw[Bool.eq_iff_iff,decide_eq_true_iff];exact Sk p b),(hs.Cg 1).weaken (Hp.le.refl _)⟩
theorem Xw(p:Nat→Bool)(b:Nat)(hb:b<256):
  Ca Tryz.prog 69 [(.agg (BV p)),(.int .u8 (((b:Nat):Int)))] H O (.bool (p b)):=by
 intro w hs
 refine Bz Tryz.func69 rf rf rf ?_ hs
 clear hs w
 refine Wp.seq ?_
 refine Wp.region ?_
 refine Aa.box (cs:=BV p) rf rf rf fun B1=>?_
 refine Aa.op (Ab.assign rf) rf ?_
 refine Aa.nil ?_
 refine At.Ad ?_
 refine Wp.seq ?_
 refine Wp.region ?_
 refine Aa.op (Ab.move rf) rf ?_
 refine Aa.op (Ab.quo rf rf (by omega) (by omega) (YK (by omega))) rf ?_
 refine Aa.op (Ab.El (off':=b/64) Tryz.underlying34 FN rf rf (by omega) (by omega)) rf ?_
 refine Aa.op (Ab.Am (i:=0) (v:=(Ak (word p (b/64)))) Tryz.underlying32 rf rf rf (E5 p _ (by omega))) rf ?_
 refine Aa.op (Ab.move rf) rf ?_
 refine Aa.op (Ab.rem rf rf (by omega) (by omega)) rf ?_
 refine Aa.op (Ab.Yu (n:=b %64) rf rf) rf ?_
 refine Aa.op (Ab.X8 (b:=1#64) rf rf) rf ?_
 refine Aa.op (Ab.Z_ (b:=1#64) rf rf) rf ?_
 refine Aa.op (Ab.assign rf) rf ?_
 refine Aa.nil ?_
 refine At.Ad ?_
 refine Wp.ret ?_
 refine At.DB rf (RV.tmp (v:=(.bool (decide ((((word p (b/64))>>>(b %64))&&&(1#64))=(1#64))))) rf) ?_
 exact fun w hs=>⟨congrArg (fun b=>Ending.returned (.bool b)) (by rw[Bool.eq_iff_iff,decide_eq_true_iff];exact Sk p b),(hs.Cg 1).weaken (Hp.le.refl _)⟩
theorem ZQ(lo hi:Nat)(h1:lo<256)(h2:hi<256):
  Ca Tryz.prog 74 [(.int .u8 (((lo:Nat):Int))),(.int .u8 (((hi:Nat):Int)))] H O (bs (TB lo hi)):=by
 intro w hs
 refine Bz Tryz.func74 rf rf rf ?_ hs
 clear hs w
 refine Wp.seq ?_
 refine Wp.region ?_
 refine Aa.alloc (cs:=BV (fun _=>false)) BJ CQ rf fun Br=>?_
 refine Aa.nil ?_
 refine At.Ad ?_
 refine Wp.seq ?_
 refine Wp.region ?_
 refine Aa.alloc (cs:=BV (fun _=>false)) BJ CQ rf fun Bs=>?_
 refine Aa.nil ?_
 refine At.Ad ?_
 refine Wp.seq ?_
 refine Wp.seq ?_
 refine Wp.region ?_
 refine Aa.op (Ab.move rf) rf ?_
 refine Aa.nil ?_
 refine At.Ad ?_
 refine Wp.block ?_
 refine Wp.loop (X:=Nat) (fun k=>[(7,(.int .i64 (((k:Nat):Int)))),(0,(.int .u8 (((lo:Nat):Int)))),(1,(.int .u8 (((hi:Nat):Int)))),(4,(ptr Br (0))),(5,(ptr Bs (0)))]) (fun k=> .AM Bs (.cells (BV (J0 lo hi k)) 34 (0,0)):: .AM Br (.cells (BV (fun _=>false)) 34 (0,0))::O) (fun k H'=>k≤256) (fun k=>256-k) 0 ?_ ?_ ?_ ?_
 ·exact(by omega)
 ·exact .cons (rf) (.cons (rf) (.cons (rf) (.cons (rf) (.cons (rf) (.nil)))))
 ·exact(by rw[S7])
 intro k H1 hle2 hi3
 have hi3:k≤256:=hi3
 refine Wp.seq ?_
 refine Wp.region ?_
 refine Aa.op (Ab.lss rf rf) rf ?_
 refine Aa.nil ?_
 refine At.Ad ?_
 refine Wp.seq ?_
 refine Wp.cond (b:=decide (((k:Nat):Int)<256)) rf (fun hb4=>?_) (fun hb4=>?_)
 ·
  replace hb4:=of_decide_eq_true hb4
  refine Wp.skip ?_
  refine At.Ad ?_
  refine Wp.seq ?_
  refine Wp.block ?_
  refine Wp.seq ?_
  refine Wp.region ?_
  refine Aa.op (Ab.move rf) rf ?_
  refine Aa.op (Ab.assign rf) rf ?_
  refine Aa.nil ?_
  refine At.Ad ?_
  refine Wp.seq ?_
  refine Wp.region ?_
  refine Aa.op (Ab.move rf) rf ?_
  refine Aa.op (Ab.move rf) rf ?_
  refine Aa.op (Ab.conv Tryz.underlying5 Tryz.underlying3 rf (Aq (by omega))) rf ?_
  refine Aa.op (Ab.geq rf rf) rf ?_
  refine Aa.op (Ab.move rf) rf ?_
  refine Aa.split (t:=14) (b:=decide (((lo:Nat):Int)≤((k:Nat):Int))) rf (fun hb5=>?_) (fun hb5=>?_)
  ·
   replace hb5:=of_decide_eq_true hb5
   refine Aa.Ay rf rf (Ab.move rf) rf ?_
   refine Aa.Ay rf rf (Ab.move rf) rf ?_
   refine Aa.Ay rf rf (Ab.conv Tryz.underlying5 Tryz.underlying3 rf (Aq (by omega))) rf ?_
   refine Aa.Ay rf rf (Ab.leq rf rf) rf ?_
   refine Aa.op (Ab.AK rf rf) rf ?_
   refine Aa.nil ?_
   refine At.Ad ?_
   refine Wp.cond (b:=decide (((k:Nat):Int)≤((hi:Nat):Int))) rf (fun hb6=>?_) (fun hb6=>?_)
   ·
    replace hb6:=of_decide_eq_true hb6
    refine Wp.CV 9 follows rf (by kernel_rfl) ?_
    refine Ag.A6 (Ab.move rf) rf ?_
    refine Ag.A6 (Ab.quo rf rf (by omega) (by omega) (YL (by omega))) rf ?_
    refine Ag.A6 (Ab.El (off':=k/64) Tryz.underlying34 FN rf rf (by omega) (by omega)) rf ?_
    refine Ag.A6 (Ab.Am (i:=0) (v:=(Ak (word (J0 lo hi k) (k/64)))) Tryz.underlying32 rf rf rf (E5 _ _ (by omega))) rf ?_
    refine Ag.A6 (Ab.move rf) rf ?_
    refine Ag.A6 (Ab.rem rf rf (by omega) (by omega)) rf ?_
    refine Ag.A6 (Ab.Yv (a:=1#64) (n:=k %64) rf rf) rf ?_
    refine Ag.A6 (Ab.Z6 rf rf) rf ?_
    refine Ag.A6 (Ab.El (off':=k/64) Tryz.underlying34 FN rf rf (by omega) (by omega)) rf ?_
    refine Ag.CW ?_
    refine Ap.is (t:=7) (v:=(.int .i64 (((k:Nat):Int)))) rf ?_
    refine Ap.is (t:=0) (v:=(.int .u8 (((lo:Nat):Int)))) rf ?_
    refine Ap.is (t:=1) (v:=(.int .u8 (((hi:Nat):Int)))) rf ?_
    refine Ap.is (t:=4) (v:=(ptr Br (0))) rf ?_
    refine Ap.is (t:=5) (v:=(ptr Bs (0))) rf ?_
    refine Ap.is (t:=8) (v:=(.bool (decide (((k:Nat):Int)<256)))) rf ?_
    refine Ap.is (t:=9) (v:=(.int .i64 (((k:Nat):Int)))) rf ?_
    refine Ap.is (t:=6) (v:=(.int .i64 (((k:Nat):Int)))) rf ?_
    refine Ap.is (t:=10) (v:=(.int .i64 (((k:Nat):Int)))) rf ?_
    refine Ap.is (t:=11) (v:=(.int .u8 (((lo:Nat):Int)))) rf ?_
    refine Ap.is (t:=12) (v:=(.int .i64 (((lo:Nat):Int)))) rf ?_
    refine Ap.is (t:=13) (v:=(.bool (decide (((lo:Nat):Int)≤((k:Nat):Int))))) rf ?_
    refine Ap.is (t:=14) (v:=(.bool (true))) rf ?_
    refine Ap.is (t:=15) (v:=(.int .i64 (((k:Nat):Int)))) rf ?_
    refine Ap.is (t:=16) (v:=(.int .u8 (((hi:Nat):Int)))) rf ?_
    refine Ap.is (t:=17) (v:=(.int .i64 (((hi:Nat):Int)))) rf ?_
    refine Ap.is (t:=18) (v:=(.bool (decide (((k:Nat):Int)≤((hi:Nat):Int))))) rf ?_
    refine Ap.is (t:=19) (v:=(.bool (decide (((k:Nat):Int)≤((hi:Nat):Int))))) rf ?_
    refine Ap.is (t:=20) (v:=(.int .i64 (((k:Nat):Int)))) rf ?_
    refine Ap.is (t:=21) (v:=(.int .i64 (((k:Nat):Int)/64))) rf ?_
    refine Ap.is (t:=22) (v:=(ptr Bs (k/64))) rf ?_
    refine Ap.is (t:=23) (v:=(Ak (word (J0 lo hi k) (k/64)))) rf ?_
    refine Ap.is (t:=24) (v:=(.int .i64 (((k:Nat):Int)))) rf ?_
    refine Ap.is (t:=25) (v:=(.int .i64 (((k:Nat):Int) %64))) rf ?_
    refine Ap.is (t:=26) (v:=(Ak (1#64<<<(k %64)))) rf ?_
    refine Ap.is (t:=27) (v:=(Ak ((word (J0 lo hi k) (k/64))|||(1#64<<<(k %64))))) rf ?_
    refine Ap.is (t:=28) (v:=(ptr Bs (k/64))) rf ?_
    refine Ap.JB ?_
    refine Aa.Cc (i:=0) rf rf rf FN rf (by rw[GJ];omega) ?_
    rw[WH _ k (by omega),Uc lo hi k (by omega) (by omega)]
    refine Aa.nil ?_
    refine At.AE ?_
    refine At.Ad ?_
    refine Wp.region ?_
    refine Aa.op (Ab.add rf rf (Aq (by omega))) rf ?_
    refine Aa.op (Ab.move rf) rf ?_
    refine Aa.nil ?_
    refine At.next (k+1) (Hp.le.refl _) ?_ ?_ ?_ ?_
    ·exact(by omega)
    ·exact .cons (rf) (.cons (rf) (.cons (rf) (.cons (rf) (.cons (rf) (.nil)))))
    ·exact(by first|rfl|rw[Ld lo hi k (by omega)])
    ·exact(by(try dsimp only);omega)
   ·
    replace hb6:=of_decide_eq_false hb6
    refine Wp.skip ?_
    refine At.AE ?_
    refine At.Ad ?_
    refine Wp.region ?_
    refine Aa.op (Ab.add rf rf (Aq (by omega))) rf ?_
    refine Aa.op (Ab.move rf) rf ?_
    refine Aa.nil ?_
    refine At.next (k+1) (Hp.le.refl _) ?_ ?_ ?_ ?_
    ·exact(by omega)
    ·exact .cons (rf) (.cons (rf) (.cons (rf) (.cons (rf) (.cons (rf) (.nil)))))
    ·exact(by first|rfl|rw[Ld lo hi k (by omega)])
    ·exact(by(try dsimp only);omega)
  ·
   replace hb5:=of_decide_eq_false hb5
   refine Aa.Ai rf rf rf rf ?_
   refine Aa.Ai rf rf rf rf ?_
   refine Aa.Ai rf rf rf rf ?_
   refine Aa.Ai rf rf rf rf ?_
   refine Aa.op (Ab.AA rf rf) rf ?_
   refine Aa.nil ?_
   refine At.Ad ?_
   refine Wp.C2 rf ?_
   refine Wp.skip ?_
   refine At.AE ?_
   refine At.Ad ?_
   refine Wp.region ?_
   refine Aa.op (Ab.add rf rf (Aq (by omega))) rf ?_
   refine Aa.op (Ab.move rf) rf ?_
   refine Aa.nil ?_
   refine At.next (k+1) (Hp.le.refl _) ?_ ?_ ?_ ?_
   ·exact(by omega)
   ·exact .cons (rf) (.cons (rf) (.cons (rf) (.cons (rf) (.cons (rf) (.nil)))))
   ·exact(by first|rfl|rw[Ld lo hi k (by omega)])
   ·exact(by(try dsimp only);omega)
 ·
  replace hb4:=of_decide_eq_false hb4
  refine Wp.exit ?_
  refine At.An ?_
  refine At.An ?_
  refine At.Az ?_
  refine At.Ad ?_
  refine Wp.seq ?_
  refine Wp.region ?_
  refine Aa.op (Ab.AF (i:=0) Tryz.underlying34 rf BJ rf rf rf) rf ?_
  refine Aa.AP (i:=1) (cs':=(BV (J0 lo hi k))) rf rf BJ rf rf (Ex _) rf ?_
  refine Aa.nil ?_
  refine At.Ad ?_
  refine Wp.ret ?_
  refine At.DB rf (RV.C' (i:=1) rf Tryz.underlying34 rf BJ (rf) rf) ?_
  exact fun w hs=>⟨by exact congrArg (fun c=>Ending.returned (.agg c)) (S8 lo hi _ (by omega)),(hs.Cg 2).weaken hle2⟩
theorem ZO(p q:Nat→Bool):
  Ca Tryz.prog 77 [(.agg (BV p)),(.agg (BV q))] H O (bs (fun x=>p x||q x)):=by
 intro w hs
 refine Bz Tryz.func77 rf rf rf ?_ hs
 clear hs w
 refine Wp.seq ?_
 refine Wp.region ?_
 refine Aa.box (cs:=BV p) rf rf rf fun Ba=>?_
 refine Aa.box (cs:=BV q) rf rf rf fun Bb=>?_
 refine Aa.alloc (cs:=BV (fun _=>false)) BJ CQ rf fun Br=>?_
 refine Aa.nil ?_
 refine At.Ad ?_
 refine Wp.seq ?_
 refine Wp.seq ?_
 refine Wp.region ?_
 refine Aa.op (Ab.move rf) rf ?_
 refine Aa.nil ?_
 refine At.Ad ?_
 refine Wp.block ?_
 refine Wp.loop (X:=Nat) (fun k=>[(6,(.int .i64 (((k:Nat):Int)))),(2,(ptr Ba (0))),(3,(ptr Bb (0))),(4,(ptr Br (0)))]) (fun k=> .AM Br (.cells (BV (fun _=>false)) 34 (0,0)):: .AM Bb (.cells (BV q) 34 (0,0)):: .AM Ba (.cells (BV (GF (fun x=>p x||q x) p k)) 34 (0,0))::O) (fun k H'=>k≤4) (fun k=>4-k) 0 ?_ ?_ ?_ ?_
 ·exact(by omega)
 ·exact .cons (rf) (.cons (rf) (.cons (rf) (.cons (rf) (.nil))))
 ·exact(by first|rfl|(rw[←Iq];done)|(rw[←Iq];rfl))
 intro k H1 hle2 hi3
 refine Wp.seq ?_
 refine Wp.region ?_
 refine Aa.op (Ab.lss rf rf) rf ?_
 refine Aa.nil ?_
 refine At.Ad ?_
 refine Wp.seq ?_
 refine Wp.cond (b:=decide (((k:Nat):Int)<4)) rf (fun hb4=>?_) (fun hb4=>?_)
 ·
  replace hb4:=of_decide_eq_true hb4
  refine Wp.skip ?_
  refine At.Ad ?_
  refine Wp.seq ?_
  refine Wp.block ?_
  refine Wp.seq ?_
  refine Wp.region ?_
  refine Aa.op (Ab.move rf) rf ?_
  refine Aa.op (Ab.assign rf) rf ?_
  refine Aa.nil ?_
  refine At.Ad ?_
  refine Wp.CV 8 follows rf (by kernel_rfl) ?_
  refine Ag.A6 (Ab.move rf) rf ?_
  refine Ag.A6 (Ab.El (off':=k) Tryz.underlying34 FN rf rf (by omega) (by omega)) rf ?_
  refine Ag.A6 (Ab.Am (i:=2) (v:=(Ak (word p k))) Tryz.underlying32 rf rf rf (OS _ _ _ (by omega))) rf ?_
  refine Ag.A6 (Ab.move rf) rf ?_
  refine Ag.A6 (Ab.El (off':=k) Tryz.underlying34 FN rf rf (by omega) (by omega)) rf ?_
  refine Ag.A6 (Ab.Am (i:=1) (v:=(Ak (word q k))) Tryz.underlying32 rf rf rf (E5 _ _ (by omega))) rf ?_
  refine Ag.A6 (Ab.Z6 rf rf) rf ?_
  refine Ag.A6 (Ab.El (off':=k) Tryz.underlying34 FN rf rf (by omega) (by omega)) rf ?_
  refine Ag.CW ?_
  refine Ap.is (t:=6) (v:=(.int .i64 (((k:Nat):Int)))) rf ?_
  refine Ap.is (t:=2) (v:=(ptr Ba (0))) rf ?_
  refine Ap.is (t:=3) (v:=(ptr Bb (0))) rf ?_
  refine Ap.is (t:=4) (v:=(ptr Br (0))) rf ?_
  refine Ap.is (t:=7) (v:=(.bool (decide (((k:Nat):Int)<4)))) rf ?_
  refine Ap.is (t:=8) (v:=(.int .i64 (((k:Nat):Int)))) rf ?_
  refine Ap.is (t:=5) (v:=(.int .i64 (((k:Nat):Int)))) rf ?_
  refine Ap.is (t:=9) (v:=(.int .i64 (((k:Nat):Int)))) rf ?_
  refine Ap.is (t:=10) (v:=(ptr Ba (k))) rf ?_
  refine Ap.is (t:=11) (v:=(Ak (word p k))) rf ?_
  refine Ap.is (t:=12) (v:=(.int .i64 (((k:Nat):Int)))) rf ?_
  refine Ap.is (t:=13) (v:=(ptr Bb (k))) rf ?_
  refine Ap.is (t:=14) (v:=(Ak (word q k))) rf ?_
  refine Ap.is (t:=15) (v:=(Ak ((word p k)|||(word q k)))) rf ?_
  refine Ap.is (t:=16) (v:=(ptr Ba (k))) rf ?_
  refine Ap.JB ?_
  refine Aa.Cc (i:=2) rf rf rf FN rf (by rw[GJ];omega) ?_
  rw[ML _ _ k _ (by omega) (VA p q k)]
  refine Aa.nil ?_
  refine At.AE ?_
  refine At.Ad ?_
  refine Wp.region ?_
  refine Aa.op (Ab.add rf rf (Aq (by omega))) rf ?_
  refine Aa.op (Ab.move rf) rf ?_
  refine Aa.nil ?_
  refine At.next (k+1) (Hp.le.refl _) ?_ ?_ ?_ ?_
  ·exact(by omega)
  ·exact .cons (rf) (.cons (rf) (.cons (rf) (.cons (rf) (.nil))))
  ·exact(rf)
  ·exact(by(try dsimp only);omega)
 ·
  replace hb4:=of_decide_eq_false hb4
  refine Wp.exit ?_
  refine At.An ?_
  refine At.An ?_
  refine At.Az ?_
  refine At.Ad ?_
  refine Wp.seq ?_
  refine Wp.region ?_
  refine Aa.op (Ab.AF (i:=2) Tryz.underlying34 rf BJ rf rf rf) rf ?_
  refine Aa.AP (i:=0) (cs':=(BV (GF (fun x=>p x||q x) p k))) rf rf BJ rf rf (Ex _) rf ?_
  refine Aa.nil ?_
  refine At.Ad ?_
  refine Wp.ret ?_
  refine At.DB rf (RV.C' (i:=0) rf Tryz.underlying34 rf BJ (rf) rf) ?_
  exact fun w hs=>⟨by exact congrArg (fun c=>Ending.returned (.agg c)) (MM _ _ _ (by omega)),(hs.Cg 3).weaken hle2⟩
theorem Xh(p q:Nat→Bool):
  Ca Tryz.prog 75 [(.agg (BV p)),(.agg (BV q))] H O (bs (fun x=>p x&&q x)):=by
 intro w hs
 refine Bz Tryz.func75 rf rf rf ?_ hs
 clear hs w
 refine Wp.seq ?_
 refine Wp.region ?_
 refine Aa.box (cs:=BV p) rf rf rf fun Ba=>?_
 refine Aa.box (cs:=BV q) rf rf rf fun Bb=>?_
 refine Aa.alloc (cs:=BV (fun _=>false)) BJ CQ rf fun Br=>?_
 refine Aa.nil ?_
 refine At.Ad ?_
 refine Wp.seq ?_
 refine Wp.seq ?_
 refine Wp.region ?_
 refine Aa.op (Ab.move rf) rf ?_
 refine Aa.nil ?_
 refine At.Ad ?_
 refine Wp.block ?_
 refine Wp.loop (X:=Nat) (fun k=>[(6,(.int .i64 (((k:Nat):Int)))),(2,(ptr Ba (0))),(3,(ptr Bb (0))),(4,(ptr Br (0)))]) (fun k=> .AM Br (.cells (BV (fun _=>false)) 34 (0,0)):: .AM Bb (.cells (BV q) 34 (0,0)):: .AM Ba (.cells (BV (GF (fun x=>p x&&q x) p k)) 34 (0,0))::O) (fun k H'=>k≤4) (fun k=>4-k) 0 ?_ ?_ ?_ ?_
 ·exact(by omega)
 ·exact .cons (rf) (.cons (rf) (.cons (rf) (.cons (rf) (.nil))))
 ·exact(by first|rfl|(rw[←Iq];done)|(rw[←Iq];rfl))
 intro k H1 hle2 hi3
 refine Wp.seq ?_
 refine Wp.region ?_
 refine Aa.op (Ab.lss rf rf) rf ?_
 refine Aa.nil ?_
 refine At.Ad ?_
 refine Wp.seq ?_
 refine Wp.cond (b:=decide (((k:Nat):Int)<4)) rf (fun hb4=>?_) (fun hb4=>?_)
 ·
  replace hb4:=of_decide_eq_true hb4
  refine Wp.skip ?_
  refine At.Ad ?_
  refine Wp.seq ?_
  refine Wp.block ?_
  refine Wp.seq ?_
  refine Wp.region ?_
  refine Aa.op (Ab.move rf) rf ?_
  refine Aa.op (Ab.assign rf) rf ?_
  refine Aa.nil ?_
  refine At.Ad ?_
  refine Wp.CV 8 follows rf (by kernel_rfl) ?_
  refine Ag.A6 (Ab.move rf) rf ?_
  refine Ag.A6 (Ab.El (off':=k) Tryz.underlying34 FN rf rf (by omega) (by omega)) rf ?_
  refine Ag.A6 (Ab.Am (i:=2) (v:=(Ak (word p k))) Tryz.underlying32 rf rf rf (OS _ _ _ (by omega))) rf ?_
  refine Ag.A6 (Ab.move rf) rf ?_
  refine Ag.A6 (Ab.El (off':=k) Tryz.underlying34 FN rf rf (by omega) (by omega)) rf ?_
  refine Ag.A6 (Ab.Am (i:=1) (v:=(Ak (word q k))) Tryz.underlying32 rf rf rf (E5 _ _ (by omega))) rf ?_
  refine Ag.A6 (Ab.X8 rf rf) rf ?_
  refine Ag.A6 (Ab.El (off':=k) Tryz.underlying34 FN rf rf (by omega) (by omega)) rf ?_
  refine Ag.CW ?_
  refine Ap.is (t:=6) (v:=(.int .i64 (((k:Nat):Int)))) rf ?_
  refine Ap.is (t:=2) (v:=(ptr Ba (0))) rf ?_
  refine Ap.is (t:=3) (v:=(ptr Bb (0))) rf ?_
  refine Ap.is (t:=4) (v:=(ptr Br (0))) rf ?_
  refine Ap.is (t:=7) (v:=(.bool (decide (((k:Nat):Int)<4)))) rf ?_
  refine Ap.is (t:=8) (v:=(.int .i64 (((k:Nat):Int)))) rf ?_
  refine Ap.is (t:=5) (v:=(.int .i64 (((k:Nat):Int)))) rf ?_
  refine Ap.is (t:=9) (v:=(.int .i64 (((k:Nat):Int)))) rf ?_
  refine Ap.is (t:=10) (v:=(ptr Ba (k))) rf ?_
  refine Ap.is (t:=11) (v:=(Ak (word p k))) rf ?_
  refine Ap.is (t:=12) (v:=(.int .i64 (((k:Nat):Int)))) rf ?_
  refine Ap.is (t:=13) (v:=(ptr Bb (k))) rf ?_
  refine Ap.is (t:=14) (v:=(Ak (word q k))) rf ?_
  refine Ap.is (t:=15) (v:=(Ak ((word p k)&&&(word q k)))) rf ?_
  refine Ap.is (t:=16) (v:=(ptr Ba (k))) rf ?_
  refine Ap.JB ?_
  refine Aa.Cc (i:=2) rf rf rf FN rf (by rw[GJ];omega) ?_
  rw[ML _ _ k _ (by omega) (TG p q k)]
  refine Aa.nil ?_
  refine At.AE ?_
  refine At.Ad ?_
  refine Wp.region ?_
  refine Aa.op (Ab.add rf rf (Aq (by omega))) rf ?_
  refine Aa.op (Ab.move rf) rf ?_
  refine Aa.nil ?_
  refine At.next (k+1) (Hp.le.refl _) ?_ ?_ ?_ ?_
  ·exact(by omega)
  ·exact .cons (rf) (.cons (rf) (.cons (rf) (.cons (rf) (.nil))))
  ·exact(rf)
  ·exact(by(try dsimp only);omega)
 ·
  replace hb4:=of_decide_eq_false hb4
  refine Wp.exit ?_
  refine At.An ?_
  refine At.An ?_
  refine At.Az ?_
  refine At.Ad ?_
  refine Wp.seq ?_
  refine Wp.region ?_
  refine Aa.op (Ab.AF (i:=2) Tryz.underlying34 rf BJ rf rf rf) rf ?_
  refine Aa.AP (i:=0) (cs':=(BV (GF (fun x=>p x&&q x) p k))) rf rf BJ rf rf (Ex _) rf ?_
  refine Aa.nil ?_
  refine At.Ad ?_
  refine Wp.ret ?_
  refine At.DB rf (RV.C' (i:=0) rf Tryz.underlying34 rf BJ (rf) rf) ?_
  exact fun w hs=>⟨by exact congrArg (fun c=>Ending.returned (.agg c)) (MM _ _ _ (by omega)),(hs.Cg 3).weaken hle2⟩
theorem YF(p:Nat→Bool):
  Ca Tryz.prog 76 [(.agg (BV p))] H O (bs (fun x=> !p x)):=by
 intro w hs
 refine Bz Tryz.func76 rf rf rf ?_ hs
 clear hs w
 refine Wp.seq ?_
 refine Wp.region ?_
 refine Aa.box (cs:=BV p) rf rf rf fun Ba=>?_
 refine Aa.alloc (cs:=BV (fun _=>false)) BJ CQ rf fun Br=>?_
 refine Aa.nil ?_
 refine At.Ad ?_
 refine Wp.seq ?_
 refine Wp.seq ?_
 refine Wp.region ?_
 refine Aa.op (Ab.move rf) rf ?_
 refine Aa.nil ?_
 refine At.Ad ?_
 refine Wp.block ?_
 refine Wp.loop (X:=Nat) (fun k=>[(4,(.int .i64 (((k:Nat):Int)))),(1,(ptr Ba (0))),(2,(ptr Br (0)))]) (fun k=> .AM Br (.cells (BV (fun _=>false)) 34 (0,0)):: .AM Ba (.cells (BV (GF (fun x=> !p x) p k)) 34 (0,0))::O) (fun k H'=>k≤4) (fun k=>4-k) 0 ?_ ?_ ?_ ?_
 ·exact(by omega)
 ·exact .cons (rf) (.cons (rf) (.cons (rf) (.nil)))
 ·exact(by first|rfl|(rw[←Iq];done)|(rw[←Iq];rfl))
 intro k H1 hle2 hi3
 refine Wp.seq ?_
 refine Wp.region ?_
 refine Aa.op (Ab.lss rf rf) rf ?_
 refine Aa.nil ?_
 refine At.Ad ?_
 refine Wp.seq ?_
 refine Wp.cond (b:=decide (((k:Nat):Int)<4)) rf (fun hb4=>?_) (fun hb4=>?_)
 ·
  replace hb4:=of_decide_eq_true hb4
  refine Wp.skip ?_
  refine At.Ad ?_
  refine Wp.seq ?_
  refine Wp.block ?_
  refine Wp.seq ?_
  refine Wp.region ?_
  refine Aa.op (Ab.move rf) rf ?_
  refine Aa.op (Ab.assign rf) rf ?_
  refine Aa.nil ?_
  refine At.Ad ?_
  refine Wp.region ?_
  refine Aa.op (Ab.move rf) rf ?_
  refine Aa.op (Ab.move rf) rf ?_
  refine Aa.op (Ab.El (off':=k) Tryz.underlying34 FN rf rf (by omega) (by omega)) rf ?_
  refine Aa.op (Ab.Am (i:=1) (v:=(Ak (word p k))) Tryz.underlying32 rf rf rf (OS _ _ _ (by omega))) rf ?_
  refine Aa.op (Ab.ZS rf) rf ?_
  refine Aa.op (Ab.El (off':=k) Tryz.underlying34 FN rf rf (by omega) (by omega)) rf ?_
  refine Aa.Cc (i:=1) rf rf rf FN rf (by rw[GJ];omega) ?_
  rw[ML _ _ k _ (by omega) (TF p k)]
  refine Aa.nil ?_
  refine At.AE ?_
  refine At.Ad ?_
  refine Wp.region ?_
  refine Aa.op (Ab.add rf rf (Aq (by omega))) rf ?_
  refine Aa.op (Ab.move rf) rf ?_
  refine Aa.nil ?_
  refine At.next (k+1) (Hp.le.refl _) ?_ ?_ ?_ ?_
  ·exact(by omega)
  ·exact .cons (rf) (.cons (rf) (.cons (rf) (.nil)))
  ·exact(rf)
  ·exact(by(try dsimp only);omega)
 ·
  replace hb4:=of_decide_eq_false hb4
  refine Wp.exit ?_
  refine At.An ?_
  refine At.An ?_
  refine At.Az ?_
  refine At.Ad ?_
  refine Wp.seq ?_
  refine Wp.region ?_
  refine Aa.op (Ab.AF (i:=1) Tryz.underlying34 rf BJ rf rf rf) rf ?_
  refine Aa.AP (i:=0) (cs':=(BV (GF (fun x=> !p x) p k))) rf rf BJ rf rf (Ex _) rf ?_
  refine Aa.nil ?_
  refine At.Ad ?_
  refine Wp.ret ?_
  refine At.DB rf (RV.C' (i:=0) rf Tryz.underlying34 rf BJ (rf) rf) ?_
  exact fun w hs=>⟨by exact congrArg (fun c=>Ending.returned (.agg c)) (MM _ _ _ (by omega)),(hs.Cg 2).weaken hle2⟩
theorem Wi(p:Nat→Bool):
  Ca Tryz.prog 57 [(.agg (BV p))] H O (.tuple #[.int .u8 (De p:Nat), .bool (anyS p)]):=by
 intro w hs
 refine Bz Tryz.func57 rf rf rf ?_ hs
 clear hs w
 refine Wp.seq ?_
 refine Wp.region ?_
 refine Aa.box (cs:=BV p) rf rf rf fun Ba=>?_
 refine Aa.op (Ab.assign rf) rf ?_
 refine Aa.op (Ab.assign rf) rf ?_
 refine Aa.nil ?_
 refine At.Ad ?_
 refine Wp.seq ?_
 refine Wp.seq ?_
 refine Wp.region ?_
 refine Aa.op (Ab.move rf) rf ?_
 refine Aa.nil ?_
 refine At.Ad ?_
 refine Wp.block ?_
 refine Wp.loop (X:=Nat) (fun k=>[(5,(.int .i64 (((k:Nat):Int)))),(1,(ptr Ba (0)))]) (fun k=> .AM Ba (.cells (BV p) 34 (0,0))::O) (fun k H'=>k≤256∧∀x,x<k→p x=false) (fun k=>256-k) 0 ?_ ?_ ?_ ?_
 ·exact(⟨by omega,fun x hx=>by omega⟩)
 ·exact .cons (rf) (.cons (rf) (.nil))
 ·exact(rf)
 intro k H1 hle2 hi3
 have hk:k≤256:=hi3.1
 have h0:=hi3.2
 refine Wp.seq ?_
 refine Wp.region ?_
 refine Aa.op (Ab.lss rf rf) rf ?_
 refine Aa.nil ?_
 refine At.Ad ?_
 refine Wp.seq ?_
 refine Wp.cond (b:=decide (((k:Nat):Int)<256)) rf (fun hb4=>?_) (fun hb4=>?_)
 ·
  replace hb4:=of_decide_eq_true hb4
  refine Wp.skip ?_
  refine At.Ad ?_
  refine Wp.seq ?_
  refine Wp.block ?_
  refine Wp.seq ?_
  refine Wp.region ?_
  refine Aa.op (Ab.move rf) rf ?_
  refine Aa.op (Ab.assign rf) rf ?_
  refine Aa.nil ?_
  refine At.Ad ?_
  refine Wp.seq ?_
  refine Wp.region ?_
  refine Aa.op (Ab.AF (i:=0) Tryz.underlying34 rf BJ rf rf rf) rf ?_
  refine Aa.op (Ab.move rf) rf ?_
  refine Aa.op (Ab.conv Tryz.underlying3 Tryz.underlying5 rf (Cm (by omega))) rf ?_
  refine Aa.op (Ab.call M0 rf (N5 p k (by omega))) rf ?_
  refine Aa.nil ?_
  refine At.Ad ?_
  refine Wp.cond (b:=p k) rf (fun hb5=>?_) (fun hb5=>?_)
  ·
   refine Wp.seq ?_
   refine Wp.region ?_
   refine Aa.op (Ab.move rf) rf ?_
   refine Aa.op (Ab.conv Tryz.underlying3 Tryz.underlying5 rf (Cm (by omega))) rf ?_
   refine Aa.op (Ab.assign rf) rf ?_
   refine Aa.op (Ab.assign rf) rf ?_
   refine Aa.nil ?_
   refine At.Ad ?_
   refine Wp.ret ?_
   refine At.Be ?_
   refine At.Av ?_
   refine At.Av ?_
   refine At.Be ?_
   refine At.Av ?_
   refine At.I5 rf (RV.tmp (v:=(.int .u8 (((k:Nat):Int)))) rf) (RV.tmp (v:=(.bool (true))) rf) ?_
   exact fun w hs=>⟨by first|(have h:=NW p k (by omega) h0 (by assumption);rw[h.1,h.2];done)|(have h:=IL p k (by omega) h0;rw[h.1,h.2];done)|(have h:=IL p k (by omega) h0;rw[h.1,h.2];rfl),(hs.Cg 1).weaken hle2⟩
  ·
   refine Wp.skip ?_
   refine At.AE ?_
   refine At.Ad ?_
   refine Wp.region ?_
   refine Aa.op (Ab.add rf rf (Aq (by omega))) rf ?_
   refine Aa.op (Ab.move rf) rf ?_
   refine Aa.nil ?_
   refine At.next (k+1) (Hp.le.refl _) ?_ ?_ ?_ ?_
   ·exact(⟨by omega,S9 p k h0 (by assumption)⟩)
   ·exact .cons (rf) (.cons (rf) (.nil))
   ·exact(rf)
   ·exact(by(try dsimp only);omega)
 ·
  replace hb4:=of_decide_eq_false hb4
  refine Wp.exit ?_
  refine At.An ?_
  refine At.An ?_
  refine At.Az ?_
  refine At.Ad ?_
  refine Wp.seq ?_
  refine Wp.region ?_
  refine Aa.op (Ab.assign rf) rf ?_
  refine Aa.op (Ab.assign rf) rf ?_
  refine Aa.nil ?_
  refine At.Ad ?_
  refine Wp.ret ?_
  refine At.I5 rf (RV.tmp (v:=(.int .u8 (0))) rf) (RV.tmp (v:=(.bool (false))) rf) ?_
  exact fun w hs=>⟨by first|(have h:=NW p k (by omega) h0 (by assumption);rw[h.1,h.2];done)|(have h:=IL p k (by omega) h0;rw[h.1,h.2];done)|(have h:=IL p k (by omega) h0;rw[h.1,h.2];rfl),(hs.Cg 1).weaken hle2⟩
theorem T3(p:Nat→Bool):
  ED Tryz.prog 62 [(.agg (BV p))] H O (fun v H' O'=>O'=O∧Sl H' v 2 (CE p 256).length ((CE p 256).flatMap Iz)):=by
 intro w hs
 refine Bz Tryz.func62 rf rf rf ?_ hs
 clear hs w
 refine Wp.seq ?_
 refine Wp.region ?_
 refine Aa.box (cs:=BV p) rf rf rf fun Ba=>?_
 refine Aa.op (Ab.assign rf) rf ?_
 refine Aa.nil ?_
 refine At.Ad ?_
 refine Wp.seq ?_
 refine Wp.region ?_
 refine Aa.op (Ab.assign rf) rf ?_
 refine Aa.nil ?_
 refine At.Ad ?_
 refine Wp.seq ?_
 refine Wp.seq ?_
 refine Wp.BG 113 2 ?_
 refine Wp.region ?_
 refine Aa.op (Ab.move rf) rf ?_
 refine Aa.nil ?_
 refine At.Ad ?_
 refine Wp.block ?_
 refine Wp.loop (X:=Nat×Value) (fun x=>[(5,(.int .i64 (((x.1:Nat):Int)))),(3,x.2),(1,(ptr Ba (0))),(2,(.slice none 0 0))]) (fun x=> .row x.2 113 2 ((CE p x.1).length) ((CE p x.1).flatMap Iz):: .AM Ba (.cells (BV p) 34 (0,0))::O) (fun x H'=>x.1≤256) (fun x=>256-x.1) (0, .slice none 0 0) ?_ ?_ ?_ ?_
 ·exact(by omega)
 ·exact .cons (rf) (.cons (rf) (.cons (rf) (.cons (rf) (.nil))))
 ·exact(by first|rfl|(rw[K_];done)|(rw[K_];rfl))
 intro x H1 hle2 hi3
 have hc:=Mt p x.1
 refine Wp.seq ?_
 refine Wp.region ?_
 refine Aa.op (Ab.lss rf rf) rf ?_
 refine Aa.nil ?_
 refine At.Ad ?_
 refine Wp.seq ?_
 refine Wp.cond (b:=decide (((x.1:Nat):Int)<256)) rf (fun hb4=>?_) (fun hb4=>?_)
 ·
  replace hb4:=of_decide_eq_true hb4
  refine Wp.skip ?_
  refine At.Ad ?_
  refine Wp.seq ?_
  refine Wp.block ?_
  refine Wp.seq ?_
  refine Wp.region ?_
  refine Aa.op (Ab.move rf) rf ?_
  refine Aa.op (Ab.assign rf) rf ?_
  refine Aa.nil ?_
  refine At.Ad ?_
  refine Wp.block ?_
  refine Wp.seq ?_
  refine Wp.region ?_
  refine Aa.op (Ab.AF (i:=1) Tryz.underlying34 rf BJ rf rf rf) rf ?_
  refine Aa.op (Ab.move rf) rf ?_
  refine Aa.op (Ab.conv Tryz.underlying3 Tryz.underlying5 rf (Cm (by omega))) rf ?_
  refine Aa.op (Ab.call M0 rf (N5 p x.1 (by omega))) rf ?_
  refine Aa.op (Ab.not rf) rf ?_
  refine Aa.op (Ab.assign rf) rf ?_
  refine Aa.nil ?_
  refine At.Ad ?_
  refine Wp.cond (b:= !(p x.1)) rf (fun hb5=>?_) (fun hb5=>?_)
  ·
   refine Wp.skip ?_
   refine At.AE ?_
   refine At.AE ?_
   refine At.Ad ?_
   refine Wp.region ?_
   refine Aa.op (Ab.add rf rf (Aq (by omega))) rf ?_
   refine Aa.op (Ab.move rf) rf ?_
   refine Aa.nil ?_
   refine At.next (x.1+1,x.2) (Hp.le.refl _) ?_ ?_ ?_ ?_
   ·exact(by(try dsimp only);omega)
   ·exact .cons (rf) (.cons (rf) (.cons (rf) (.cons (rf) (.nil))))
   ·exact(by first|rfl|(rw[←EE p x.1 (by simp_all)];done)|(rw[←EE p x.1 (by simp_all)];rfl))
   ·exact(by(try dsimp only);omega)
  ·
   refine Wp.seq ?_
   refine Wp.region ?_
   refine Aa.op (Ab.move rf) rf ?_
   refine Aa.op (Ab.gtr rf rf) rf ?_
   refine Aa.op (Ab.move rf) rf ?_
   refine Aa.split (t:=25) (b:=decide (0<((x.1:Nat):Int))) rf (fun hb6=>?_) (fun hb6=>?_)
   ·
    replace hb6:=of_decide_eq_true hb6
    refine Aa.Ay rf rf (Ab.AF (i:=1) Tryz.underlying34 rf BJ rf rf rf) rf ?_
    refine Aa.Ay rf rf (Ab.move rf) rf ?_
    refine Aa.Ay rf rf (Ab.cast (v':=(.int .i64 ((((x.1-1):Nat):Int)))) (Ab.sub rf rf (Aq (by omega))) (congrArg (Value.int .i64) (by omega))) rf ?_
    refine Aa.Ay rf rf (Ab.conv Tryz.underlying3 Tryz.underlying5 rf (Cm (by omega))) rf ?_
    refine Aa.Ay rf rf (Ab.call M0 rf (N5 p (x.1-1) (by omega))) rf ?_
    refine Aa.op (Ab.AK rf rf) rf ?_
    refine Aa.op (Ab.assign rf) rf ?_
    refine Aa.nil ?_
    refine At.Ad ?_
    refine Wp.cond (b:=p (x.1-1)) rf (fun hb7=>?_) (fun hb7=>?_)
    ·
     refine Wp.region ?_
     refine Aa.op (Ab.move rf) rf ?_
     refine Aa.op (Ab.move rf) rf ?_
     refine Aa.op (Ab.BR (i:=0) Tryz.underlying111 rf rf) rf ?_
     refine Aa.op (Ab.cast (v':=(.int .i64 (((((CE p x.1).length-1):Nat):Int)))) (Ab.sub rf rf (Aq (by omega))) (congrArg (Value.int .i64) (by have:=K9 p x.1 (by omega) (by assumption);omega))) rf ?_
     refine Aa.op (Ab.move rf) rf ?_
     refine Aa.op (Ab.conv Tryz.underlying3 Tryz.underlying5 rf (Cm (by omega))) rf ?_
     refine Aa.op (Ab.Bu (j:=0) Tryz.underlying111 I_ rf rf rf (by have:=K9 p x.1 (by omega) (by assumption);omega)) rf ?_
     refine Aa.op (Ab.UA (q:=0) (j:=((CE p x.1).length-1)*2) Tryz.underlying113 VO rf rf (K9 p x.1 (by omega) (by assumption)) rf (by omega)) rf ?_
     refine Aa.Xq (i:=0) (k:=((CE p x.1).length-1)*2+1) rf rf rf VO rf (by rw[T1];have:=K9 p x.1 (by omega) (by assumption);omega) ?_
     refine Aa.own (O:= .row x.2 113 2 ((CE p (x.1+1)).length) ((CE p (x.1+1)).flatMap Iz):: .AM Ba (.cells (BV p) 34 (0,0))::O) ?_ (by rw[T0 p x.1 (by simp_all) (by omega) (by assumption),←SZ p x.1 (by simp_all) (by omega) (by assumption)];rfl)
     refine Aa.nil ?_
     refine At.AE ?_
     refine At.AE ?_
     refine At.Ad ?_
     refine Wp.region ?_
     refine Aa.op (Ab.add rf rf (Aq (by omega))) rf ?_
     refine Aa.op (Ab.move rf) rf ?_
     refine Aa.nil ?_
     refine At.next (x.1+1,x.2) (Hp.le.refl _) ?_ ?_ ?_ ?_
     ·exact(by(try dsimp only);omega)
     ·exact .cons (rf) (.cons (rf) (.cons (rf) (.cons (rf) (.nil))))
     ·exact(by first|rfl|(rw[←EE p x.1 (by simp_all)];done)|(rw[←EE p x.1 (by simp_all)];rfl))
     ·exact(by(try dsimp only);omega)
    ·
     refine Wp.region ?_
     refine Aa.op (Ab.move rf) rf ?_
     refine Aa.op (Ab.move rf) rf ?_
     refine Aa.op (Ab.conv Tryz.underlying3 Tryz.underlying5 rf (Cm (by omega))) rf ?_
     refine Aa.op (Ab.move rf) rf ?_
     refine Aa.op (Ab.conv Tryz.underlying3 Tryz.underlying5 rf (Cm (by omega))) rf ?_
     refine Aa.op (Ab.Ln (vs:=[(0,(.int .u8 (((x.1:Nat):Int)))),(1,(.int .u8 (((x.1:Nat):Int))))]) (cs:= #[(.int .u8 (((x.1:Nat):Int))),(.int .u8 (((x.1:Nat):Int)))]) Tryz.underlying113 I_ VO rf rf rf) rf ?_
     refine Aa.IB (cs:=(#[(.int .u8 (((x.1:Nat):Int))),(.int .u8 (((x.1:Nat):Int)))])) Tryz.underlying111 I_ rf rf rf rf rf rf fun v8=>?_
     refine Aa.append (z:=(.agg #[.int .u8 0, .int .u8 0])) (i:=1) Tryz.underlying111 I_ rf (by decide) rf rf rf (fun w hs=>hs.K8 (i:=0) rf) (RX rf) (by omega) (by omega) rf fun v9=>?_
     refine Aa.drop (i:=0) ?_
     refine Aa.own (O:= .row v9 113 2 ((CE p (x.1+1)).length) ((CE p (x.1+1)).flatMap Iz):: .AM Ba (.cells (BV p) 34 (0,0))::O) ?_ (by rw[Kk p x.1 (by simp_all) (by first|omega|simp_all)];simp[Iz])
     refine Aa.op (Ab.assign rf) rf ?_
     refine Aa.nil ?_
     refine At.AE ?_
     refine At.AE ?_
     refine At.Ad ?_
     refine Wp.region ?_
     refine Aa.op (Ab.add rf rf (Aq (by omega))) rf ?_
     refine Aa.op (Ab.move rf) rf ?_
     refine Aa.nil ?_
     refine At.next (x.1+1,v9) (Hp.le.refl _) ?_ ?_ ?_ ?_
     ·exact(by(try dsimp only);omega)
     ·exact .cons (rf) (.cons (rf) (.cons (rf) (.cons (rf) (.nil))))
     ·exact(by first|rfl|(rw[←EE p x.1 (by simp_all)];done)|(rw[←EE p x.1 (by simp_all)];rfl))
     ·exact(by(try dsimp only);omega)
   ·
    replace hb6:=of_decide_eq_false hb6
    refine Aa.Ai rf rf rf rf ?_
    refine Aa.Ai rf rf rf rf ?_
    refine Aa.Ai rf rf rf rf ?_
    refine Aa.Ai rf rf rf rf ?_
    refine Aa.Ai rf rf rf rf ?_
    refine Aa.op (Ab.AA rf rf) rf ?_
    refine Aa.op (Ab.assign rf) rf ?_
    refine Aa.nil ?_
    refine At.Ad ?_
    refine Wp.C2 rf ?_
    refine Wp.region ?_
    refine Aa.op (Ab.move rf) rf ?_
    refine Aa.op (Ab.move rf) rf ?_
    refine Aa.op (Ab.conv Tryz.underlying3 Tryz.underlying5 rf (Cm (by omega))) rf ?_
    refine Aa.op (Ab.move rf) rf ?_
    refine Aa.op (Ab.conv Tryz.underlying3 Tryz.underlying5 rf (Cm (by omega))) rf ?_
    refine Aa.op (Ab.Ln (vs:=[(0,(.int .u8 (((x.1:Nat):Int)))),(1,(.int .u8 (((x.1:Nat):Int))))]) (cs:= #[(.int .u8 (((x.1:Nat):Int))),(.int .u8 (((x.1:Nat):Int)))]) Tryz.underlying113 I_ VO rf rf rf) rf ?_
    refine Aa.IB (cs:=(#[(.int .u8 (((x.1:Nat):Int))),(.int .u8 (((x.1:Nat):Int)))])) Tryz.underlying111 I_ rf rf rf rf rf rf fun v10=>?_
    refine Aa.append (z:=(.agg #[.int .u8 0, .int .u8 0])) (i:=1) Tryz.underlying111 I_ rf (by decide) rf rf rf (fun w hs=>hs.K8 (i:=0) rf) (RX rf) (by omega) (by omega) rf fun v11=>?_
    refine Aa.drop (i:=0) ?_
    refine Aa.own (O:= .row v11 113 2 ((CE p (x.1+1)).length) ((CE p (x.1+1)).flatMap Iz):: .AM Ba (.cells (BV p) 34 (0,0))::O) ?_ (by rw[Kk p x.1 (by simp_all) (by first|omega|simp_all)];simp[Iz])
    refine Aa.op (Ab.assign rf) rf ?_
    refine Aa.nil ?_
    refine At.AE ?_
    refine At.AE ?_
    refine At.Ad ?_
    refine Wp.region ?_
    refine Aa.op (Ab.add rf rf (Aq (by omega))) rf ?_
    refine Aa.op (Ab.move rf) rf ?_
    refine Aa.nil ?_
    refine At.next (x.1+1,v11) (Hp.le.refl _) ?_ ?_ ?_ ?_
    ·exact(by(try dsimp only);omega)
    ·exact .cons (rf) (.cons (rf) (.cons (rf) (.cons (rf) (.nil))))
    ·exact(by first|rfl|(rw[←EE p x.1 (by simp_all)];done)|(rw[←EE p x.1 (by simp_all)];rfl))
    ·exact(by(try dsimp only);omega)
 ·
  replace hb4:=of_decide_eq_false hb4
  refine Wp.exit ?_
  refine At.An ?_
  refine At.An ?_
  refine At.Az ?_
  refine At.Ad ?_
  refine Wp.seq ?_
  refine Wp.region ?_
  refine Aa.op (Ab.move rf) rf ?_
  refine Aa.op (Ab.assign rf) rf ?_
  refine Aa.nil ?_
  refine At.Ad ?_
  refine Wp.ret ?_
  refine At.freeze (i:=0) rf fun H12 hle13 hsl14=>?_
  refine At.drop (i:=0) ?_
  refine At.DB rf (RV.tmp (v:=x.2) rf) ?_
  exact ZC.mk (hle2.trans hle13) (⟨rf,by have e:x.1=256:=(by omega);rw[e]at hsl14;exact hsl14⟩)
theorem XF(l:List St)(v:Value)(hl:Sl H v 4 l.length (l.flatMap JP))(hn:l.length≤4294967296):
  ED Tryz.prog 54 [v] H O (fun v H' O'=>O'=O∧Sl H' v 4 (partsOf l).length ((partsOf l).flatMap JP)):=by
 intro w hs
 refine Bz Tryz.func54 rf rf rf ?_ hs
 clear hs w
 refine Wp.seq ?_
 refine Wp.region ?_
 refine Aa.op (Ab.assign rf) rf ?_
 refine Aa.nil ?_
 refine At.Ad ?_
 refine Wp.seq ?_
 refine Wp.region ?_
 refine Aa.op (Ab.call Y1 rf (ZQ 0 255 (by decide) (by decide))) rf ?_
 refine Aa.IB (cs:=(BV (TB 0 255))) Tryz.underlying97 BJ rf rf rf rf rf rf fun v1=>?_
 refine Aa.op (Ab.assign rf) rf ?_
 refine Aa.nil ?_
 refine At.Ad ?_
 refine Wp.seq ?_
 refine Wp.seq ?_
 refine Wp.region ?_
 refine Aa.op (Ab.move rf) rf ?_
 refine Aa.op (Ab.XN Tryz.underlying97 rf hl) rf ?_
 refine Aa.op (Ab.move rf) rf ?_
 refine Aa.nil ?_
 refine At.Ad ?_
 refine Wp.block ?_
 refine Wp.loop (X:=Nat×Value) (fun x=>[(20,(.int .i64 (((x.1:Nat):Int)))),(3,x.2),(2,(.slice none 0 0)),(18,v),(19,(.int .i64 (((l.length:Nat):Int))))]) (fun x=> .row x.2 34 4 ((Bf l x.1).length) ((Bf l x.1).flatMap JP)::O) (fun x H'=>x.1≤l.length) (fun x=>l.length-x.1) (0,v1) ?_ ?_ ?_ ?_
 ·exact(by(try dsimp only);omega)
 ·exact .cons (rf) (.cons (rf) (.cons (rf) (.cons (rf) (.cons (rf) (.nil)))))
 ·exact(by rw[Jq];simp[JP])
 intro x H2 hle3 hi4
 have hp:=P7 l x.1
 refine Wp.seq ?_
 refine Wp.region ?_
 refine Aa.op (Ab.lss rf rf) rf ?_
 refine Aa.nil ?_
 refine At.Ad ?_
 refine Wp.seq ?_
 refine Wp.cond (b:=decide (((x.1:Nat):Int)<((l.length:Nat):Int))) rf (fun hb5=>?_) (fun hb5=>?_)
 ·
  replace hb5:=of_decide_eq_true hb5
  refine Wp.skip ?_
  refine At.Ad ?_
  refine Wp.seq ?_
  refine Wp.block ?_
  refine Wp.seq ?_
  refine Wp.region ?_
  refine Aa.op (Ab.YO Tryz.underlying97 BJ rf (hl.mono hle3) rf (by omega)) rf ?_
  refine Aa.op (Ab.XO (vs:=(JP (nth l x.1))) Tryz.underlying34 rf BJ (Rv _) rf (hl.mono hle3) (Rw l x.1 (by omega))) rf ?_
  refine Aa.alloc (cs:=BV (fun _=>false)) BJ CQ rf fun Bs=>?_
  refine Aa.AP (i:=0) (cs':=(BV (nth l x.1))) rf rf BJ rf rf (Ex _) rf ?_
  refine Aa.nil ?_
  refine At.Ad ?_
  refine Wp.seq ?_
  refine Wp.region ?_
  refine Aa.op (Ab.assign rf) rf ?_
  refine Aa.nil ?_
  refine At.Ad ?_
  refine Wp.seq ?_
  refine Wp.seq ?_
  refine Wp.BG 34 4 ?_
  refine Wp.region ?_
  refine Aa.op (Ab.move rf) rf ?_
  refine Aa.op (Ab.BR (i:=2) Tryz.underlying97 rf rf) rf ?_
  refine Aa.op (Ab.move rf) rf ?_
  refine Aa.nil ?_
  refine At.Ad ?_
  refine Wp.block ?_
  refine Wp.loop (X:=Nat×Value) (fun y=>[(26,(.int .i64 (((y.1:Nat):Int)))),(6,y.2),(20,(.int .i64 (((x.1:Nat):Int)))),(3,x.2),(2,(.slice none 0 0)),(18,v),(19,(.int .i64 (((l.length:Nat):Int)))),(21,(.bool (decide (((x.1:Nat):Int)<((l.length:Nat):Int))))),(22,(A2 v (x.1*4))),(23,(.agg (BV (nth l x.1)))),(5,(ptr Bs (0))),(24,x.2),(25,(.int .i64 ((((Bf l x.1).length:Nat):Int))))]) (fun y=> .row y.2 34 4 ((nx l x.1 y.1 0).length) ((nx l x.1 y.1 0).flatMap JP):: .AM Bs (.cells (BV (nth l x.1)) 34 (0,0)):: .row x.2 34 4 ((Bf l x.1).length) ((Bf l x.1).flatMap JP)::O) (fun y H'=>y.1≤(Bf l x.1).length) (fun y=>(Bf l x.1).length-y.1) (0, .slice none 0 0) ?_ ?_ ?_ ?_
  ·exact(by(try dsimp only);omega)
  ·exact .cons (rf) (.cons (rf) (.cons (rf) (.cons (rf) (.cons (rf) (.cons (rf) (.cons (rf) (.cons (rf) (.cons (rf) (.cons (rf) (.cons (rf) (.cons (rf) (.cons (rf) (.nil)))))))))))))
  ·exact(by first|rfl|(rw[RY];done)|(rw[RY];rfl))
  intro y H6 hle7 hi8
  refine Wp.seq ?_
  refine Wp.region ?_
  refine Aa.op (Ab.lss rf rf) rf ?_
  refine Aa.nil ?_
  refine At.Ad ?_
  refine Wp.seq ?_
  refine Wp.cond (b:=decide (((y.1:Nat):Int)<(((Bf l x.1).length:Nat):Int))) rf (fun hb9=>?_) (fun hb9=>?_)
  ·
   replace hb9:=of_decide_eq_true hb9
   refine Wp.skip ?_
   refine At.Ad ?_
   refine Wp.seq ?_
   refine Wp.block ?_
   refine Wp.seq ?_
   refine Wp.region ?_
   refine Aa.op (Ab.Bu (j:=2) Tryz.underlying97 BJ rf rf rf (by omega)) rf ?_
   refine Aa.op (Ab.Rl (i:=2) (vs:=(JP (nth (Bf l x.1) y.1))) Tryz.underlying34 rf BJ (Rv _) rf rf (Rw (Bf l x.1) y.1 (by omega))) rf ?_
   refine Aa.alloc (cs:=BV (fun _=>false)) BJ CQ rf fun Bp=>?_
   refine Aa.AP (i:=0) (cs':=(BV (nth (Bf l x.1) y.1))) rf rf BJ rf rf (Ex _) rf ?_
   refine Aa.nil ?_
   refine At.Ad ?_
   refine Wp.seq ?_
   refine Wp.CV 9 follows rf (by kernel_rfl) ?_
   refine Ag.A6 (Ab.AF (i:=0) Tryz.underlying34 rf BJ rf rf rf) rf ?_
   refine Ag.A6 (Ab.AF (i:=2) Tryz.underlying34 rf BJ rf rf rf) rf ?_
   refine Ag.A6 (Ab.cast (v':=(.agg (BV (EN (nth (Bf l x.1) y.1) (nth l x.1))))) (Ab.call W3 rf (Xh (nth (Bf l x.1) y.1) (nth l x.1))) (Wv _ _)) rf ?_
   refine Ag.A6 (Ab.AF (i:=0) Tryz.underlying34 rf BJ rf rf rf) rf ?_
   refine Ag.A6 (Ab.AF (i:=2) Tryz.underlying34 rf BJ rf rf rf) rf ?_
   refine Ag.A6 (Ab.call Y0 rf (YF (nth l x.1))) rf ?_
   refine Ag.A6 (Ab.cast (v':=(.agg (BV (EM (nth (Bf l x.1) y.1) (nth l x.1))))) (Ab.call W3 rf (Xh (nth (Bf l x.1) y.1) (fun t=> !(nth l x.1) t))) (Wu _ _)) rf ?_
   refine Ag.A6 (Ab.Ln (vs:=[(0, .agg (BV (EN (nth (Bf l x.1) y.1) (nth l x.1)))),(1, .agg (BV (EM (nth (Bf l x.1) y.1) (nth l x.1))))]) (cs:=Vl (EN (nth (Bf l x.1) y.1) (nth l x.1)) (EM (nth (Bf l x.1) y.1) (nth l x.1))) Tryz.underlying133 Yo BJ rf rf (YU _ _)) rf ?_
   refine Ag.A6 (Ab.move rf) rf ?_
   refine Ag.CW ?_
   refine Ap.is (t:=26) (v:=(.int .i64 (((y.1:Nat):Int)))) rf ?_
   refine Ap.is (t:=6) (v:=y.2) rf ?_
   refine Ap.is (t:=20) (v:=(.int .i64 (((x.1:Nat):Int)))) rf ?_
   refine Ap.is (t:=3) (v:=x.2) rf ?_
   refine Ap.is (t:=2) (v:=(.slice none 0 0)) rf ?_
   refine Ap.is (t:=18) (v:=v) rf ?_
   refine Ap.is (t:=19) (v:=(.int .i64 (((l.length:Nat):Int)))) rf ?_
   refine Ap.is (t:=21) (v:=(.bool (decide (((x.1:Nat):Int)<((l.length:Nat):Int))))) rf ?_
   refine Ap.is (t:=22) (v:=(A2 v (x.1*4))) rf ?_
   refine Ap.is (t:=23) (v:=(.agg (BV (nth l x.1)))) rf ?_
   refine Ap.is (t:=5) (v:=(ptr Bs (0))) rf ?_
   refine Ap.is (t:=24) (v:=x.2) rf ?_
   refine Ap.is (t:=25) (v:=(.int .i64 ((((Bf l x.1).length:Nat):Int)))) rf ?_
   refine Ap.is (t:=27) (v:=(.bool (decide (((y.1:Nat):Int)<(((Bf l x.1).length:Nat):Int))))) rf ?_
   refine Ap.is (t:=28) (v:=(A2 x.2 (y.1*4))) rf ?_
   refine Ap.is (t:=29) (v:=(.agg (BV (nth (Bf l x.1) y.1)))) rf ?_
   refine Ap.is (t:=8) (v:=(ptr Bp (0))) rf ?_
   refine Ap.is (t:=30) (v:=(.agg (BV (nth (Bf l x.1) y.1)))) rf ?_
   refine Ap.is (t:=31) (v:=(.agg (BV (nth l x.1)))) rf ?_
   refine Ap.is (t:=32) (v:=(.agg (BV (EN (nth (Bf l x.1) y.1) (nth l x.1))))) rf ?_
   refine Ap.is (t:=33) (v:=(.agg (BV (nth (Bf l x.1) y.1)))) rf ?_
   refine Ap.is (t:=34) (v:=(.agg (BV (nth l x.1)))) rf ?_
   refine Ap.is (t:=35) (v:=(.agg (BV (fun t=> !(nth l x.1) t)))) rf ?_
   refine Ap.is (t:=36) (v:=(.agg (BV (EM (nth (Bf l x.1) y.1) (nth l x.1))))) rf ?_
   refine Ap.is (t:=37) (v:=(.agg (Vl (EN (nth (Bf l x.1) y.1) (nth l x.1)) (EM (nth (Bf l x.1) y.1) (nth l x.1))))) rf ?_
   refine Ap.is (t:=38) (v:=(.int .i64 (0))) rf ?_
   refine Ap.JB ?_
   refine Aa.nil ?_
   refine At.Ad ?_
   refine Wp.block ?_
   refine Wp.loop (X:=Nat×Value) (fun z=>[(38,(.int .i64 (((z.1:Nat):Int)))),(6,z.2),(26,(.int .i64 (((y.1:Nat):Int)))),(20,(.int .i64 (((x.1:Nat):Int)))),(3,x.2),(2,(.slice none 0 0)),(18,v),(19,(.int .i64 (((l.length:Nat):Int)))),(21,(.bool (decide (((x.1:Nat):Int)<((l.length:Nat):Int))))),(22,(A2 v (x.1*4))),(23,(.agg (BV (nth l x.1)))),(5,(ptr Bs (0))),(24,x.2),(25,(.int .i64 ((((Bf l x.1).length:Nat):Int)))),(27,(.bool (decide (((y.1:Nat):Int)<(((Bf l x.1).length:Nat):Int))))),(28,(A2 x.2 (y.1*4))),(29,(.agg (BV (nth (Bf l x.1) y.1)))),(8,(ptr Bp (0))),(30,(.agg (BV (nth (Bf l x.1) y.1)))),(31,(.agg (BV (nth l x.1)))),(32,(.agg (BV (EN (nth (Bf l x.1) y.1) (nth l x.1))))),(33,(.agg (BV (nth (Bf l x.1) y.1)))),(34,(.agg (BV (nth l x.1)))),(35,(.agg (BV (fun t=> !(nth l x.1) t)))),(36,(.agg (BV (EM (nth (Bf l x.1) y.1) (nth l x.1))))),(37,(.agg (Vl (EN (nth (Bf l x.1) y.1) (nth l x.1)) (EM (nth (Bf l x.1) y.1) (nth l x.1)))))]) (fun z=> .AM Bp (.cells (BV (nth (Bf l x.1) y.1)) 34 (0,0)):: .row z.2 34 4 ((nx l x.1 y.1 z.1).length) ((nx l x.1 y.1 z.1).flatMap JP):: .AM Bs (.cells (BV (nth l x.1)) 34 (0,0)):: .row x.2 34 4 ((Bf l x.1).length) ((Bf l x.1).flatMap JP)::O) (fun z H'=>z.1≤2) (fun z=>2-z.1) (0,y.2) ?_ ?_ ?_ ?_
   ·exact(by(try dsimp only);omega)
   ·exact .cons (rf) (.cons (rf) (.cons (rf) (.cons (rf) (.cons (rf) (.cons (rf) (.cons (rf) (.cons (rf) (.cons (rf) (.cons (rf) (.cons (rf) (.cons (rf) (.cons (rf) (.cons (rf) (.cons (rf) (.cons (rf) (.cons (rf) (.cons (rf) (.cons (rf) (.cons (rf) (.cons (rf) (.cons (rf) (.cons (rf) (.cons (rf) (.cons (rf) (.cons (rf) (.nil))))))))))))))))))))))))))
   ·exact(rf)
   intro z H10 hle11 hi12
   have hx:=XH l x.1 y.1 z.1 (by omega)
   refine Wp.seq ?_
   refine Wp.region ?_
   refine Aa.op (Ab.lss rf rf) rf ?_
   refine Aa.nil ?_
   refine At.Ad ?_
   refine Wp.seq ?_
   refine Wp.cond (b:=decide (((z.1:Nat):Int)<2)) rf (fun hb13=>?_) (fun hb13=>?_)
   ·
    replace hb13:=of_decide_eq_true hb13
    refine Wp.skip ?_
    refine At.Ad ?_
    refine Wp.seq ?_
    refine Wp.block ?_
    refine Wp.seq ?_
    refine Wp.region ?_
    refine Aa.op (Ab.cast (v':= .agg (BV (Px (EN (nth (Bf l x.1) y.1) (nth l x.1)) (EM (nth (Bf l x.1) y.1) (nth l x.1)) z.1))) (Ab.XR Tryz.underlying133 Tryz.underlying34 rf BJ rf rf (by omega)) (WJ _ _ z.1 (by omega))) rf ?_
    refine Aa.alloc (cs:=BV (fun _=>false)) BJ CQ rf fun Bx=>?_
    refine Aa.AP (i:=0) (cs':=(BV (Px (EN (nth (Bf l x.1) y.1) (nth l x.1)) (EM (nth (Bf l x.1) y.1) (nth l x.1)) z.1))) rf rf BJ rf rf (Ex _) rf ?_
    refine Aa.nil ?_
    refine At.Ad ?_
    refine Wp.seq ?_
    refine Wp.region ?_
    refine Aa.op (Ab.AF (i:=0) Tryz.underlying34 rf BJ rf rf rf) rf ?_
    refine Aa.op (Ab.cast (Ab.Ln (ps:=[]) Tryz.underlying34 BJ FN rf rf rf) (congrArg Value.agg CQ)) rf ?_
    refine Aa.op (Ab.Bg (b:= !MZ (Px (EN (nth (Bf l x.1) y.1) (nth l x.1)) (EM (nth (Bf l x.1) y.1) (nth l x.1)) z.1) (fun _=>false)) (c:=ne (Px (EN (nth (Bf l x.1) y.1) (nth l x.1)) (EM (nth (Bf l x.1) y.1) (nth l x.1)) z.1)) (Ab.XJ (p:=(Px (EN (nth (Bf l x.1) y.1) (nth l x.1)) (EM (nth (Bf l x.1) y.1) (nth l x.1)) z.1)) (q:=(fun _=>false)) UP Tryz.underlying34 Tryz.underlying32 FN rf rf) (ne_eq _)) rf ?_
    refine Aa.nil ?_
    refine At.Ad ?_
    refine Wp.cond (b:=ne (Px (EN (nth (Bf l x.1) y.1) (nth l x.1)) (EM (nth (Bf l x.1) y.1) (nth l x.1)) z.1)) rf (fun hb14=>?_) (fun hb14=>?_)
    ·
     refine Wp.region ?_
     refine Aa.op (Ab.move rf) rf ?_
     refine Aa.op (Ab.AF (i:=0) Tryz.underlying34 rf BJ rf rf rf) rf ?_
     refine Aa.IB (cs:=(BV (Px (EN (nth (Bf l x.1) y.1) (nth l x.1)) (EM (nth (Bf l x.1) y.1) (nth l x.1)) z.1))) Tryz.underlying97 BJ rf rf rf rf rf rf fun v15=>?_
     refine Aa.append (z:=(.agg #[.int .u64 0, .int .u64 0, .int .u64 0, .int .u64 0])) (i:=3) Tryz.underlying97 BJ rf (by decide) rf rf rf (fun w hs=>hs.K8 (i:=0) rf) (by simpa using Ex _) (by omega) (by omega) rf fun v16=>?_
     refine Aa.drop (i:=0) ?_
     refine Aa.op (Ab.assign rf) rf ?_
     refine Aa.nil ?_
     refine At.AE ?_
     refine At.Ad ?_
     refine Wp.region ?_
     refine Aa.op (Ab.add rf rf (Aq (by omega))) rf ?_
     refine Aa.op (Ab.move rf) rf ?_
     refine Aa.nil ?_
     refine At.drop (i:=0) ?_
     refine At.next (z.1+1,v16) (Hp.le.refl _) ?_ ?_ ?_ ?_
     ·exact(by(try dsimp only);omega)
     ·exact .cons (rf) (.cons (rf) (.cons (rf) (.cons (rf) (.cons (rf) (.cons (rf) (.cons (rf) (.cons (rf) (.cons (rf) (.cons (rf) (.cons (rf) (.cons (rf) (.cons (rf) (.cons (rf) (.cons (rf) (.cons (rf) (.cons (rf) (.cons (rf) (.cons (rf) (.cons (rf) (.cons (rf) (.cons (rf) (.cons (rf) (.cons (rf) (.cons (rf) (.cons (rf) (.nil))))))))))))))))))))))))))
     ·exact(by first|(rw[Ud l x.1 y.1 z.1 (by omega) (by assumption)];simp[JP];done)|(rw[RZ l x.1 y.1 z.1 (by omega) (by assumption)];rfl))
     ·exact(by(try dsimp only);omega)
    ·
     refine Wp.skip ?_
     refine At.AE ?_
     refine At.Ad ?_
     refine Wp.region ?_
     refine Aa.op (Ab.add rf rf (Aq (by omega))) rf ?_
     refine Aa.op (Ab.move rf) rf ?_
     refine Aa.nil ?_
     refine At.drop (i:=0) ?_
     refine At.next (z.1+1,z.2) (Hp.le.refl _) ?_ ?_ ?_ ?_
     ·exact(by(try dsimp only);omega)
     ·exact .cons (rf) (.cons (rf) (.cons (rf) (.cons (rf) (.cons (rf) (.cons (rf) (.cons (rf) (.cons (rf) (.cons (rf) (.cons (rf) (.cons (rf) (.cons (rf) (.cons (rf) (.cons (rf) (.cons (rf) (.cons (rf) (.cons (rf) (.cons (rf) (.cons (rf) (.cons (rf) (.cons (rf) (.cons (rf) (.cons (rf) (.cons (rf) (.cons (rf) (.cons (rf) (.nil))))))))))))))))))))))))))
     ·exact(by first|(rw[Ud l x.1 y.1 z.1 (by omega) (by assumption)];simp[JP];done)|(rw[RZ l x.1 y.1 z.1 (by omega) (by assumption)];rfl))
     ·exact(by(try dsimp only);omega)
   ·
    replace hb13:=of_decide_eq_false hb13
    refine Wp.exit ?_
    refine At.An ?_
    refine At.An ?_
    refine At.Az ?_
    refine At.AE ?_
    refine At.Ad ?_
    refine Wp.region ?_
    refine Aa.op (Ab.add rf rf (Aq (by omega))) rf ?_
    refine Aa.op (Ab.move rf) rf ?_
    refine Aa.nil ?_
    refine At.drop (i:=0) ?_
    refine At.next (y.1+1,z.2) hle11 ?_ ?_ ?_ ?_
    ·exact(by(try dsimp only);omega)
    ·exact .cons (rf) (.cons (rf) (.cons (rf) (.cons (rf) (.cons (rf) (.cons (rf) (.cons (rf) (.cons (rf) (.cons (rf) (.cons (rf) (.cons (rf) (.cons (rf) (.cons (rf) (.nil)))))))))))))
    ·exact(by first|rfl|(rw[R0 l x.1 y.1 (by omega),show z.1=2 by omega];done)|(rw[R0 l x.1 y.1 (by omega),show z.1=2 by omega];rfl))
    ·exact(by(try dsimp only);omega)
  ·
   replace hb9:=of_decide_eq_false hb9
   refine Wp.exit ?_
   refine At.An ?_
   refine At.An ?_
   refine At.Az ?_
   refine At.Ad ?_
   refine Wp.region ?_
   refine Aa.op (Ab.move rf) rf ?_
   refine Aa.op (Ab.assign rf) rf ?_
   refine Aa.nil ?_
   refine At.drop (i:=2) ?_
   refine At.AE ?_
   refine At.Ad ?_
   refine Wp.region ?_
   refine Aa.op (Ab.add rf rf (Aq (by omega))) rf ?_
   refine Aa.op (Ab.move rf) rf ?_
   refine Aa.nil ?_
   refine At.drop (i:=1) ?_
   refine At.next (x.1+1,y.2) hle7 ?_ ?_ ?_ ?_
   ·exact(by(try dsimp only);omega)
   ·exact .cons (rf) (.cons (rf) (.cons (rf) (.cons (rf) (.cons (rf) (.nil)))))
   ·exact(by first|rfl|(rw[R1 l x.1 y.1 (by omega) (by omega)];done)|(rw[R1 l x.1 y.1 (by omega) (by omega)];rfl))
   ·exact(by(try dsimp only);omega)
 ·
  replace hb5:=of_decide_eq_false hb5
  refine Wp.exit ?_
  refine At.An ?_
  refine At.An ?_
  refine At.Az ?_
  refine At.Ad ?_
  refine Wp.seq ?_
  refine Wp.region ?_
  refine Aa.op (Ab.assign rf) rf ?_
  refine Aa.nil ?_
  refine At.Ad ?_
  refine Wp.seq ?_
  refine Wp.BG 34 4 ?_
  refine Wp.region ?_
  refine Aa.op (Ab.cast (Ab.Ln (ps:=[]) Tryz.underlying34 BJ FN rf rf rf) (congrArg Value.agg CQ)) rf ?_
  refine Aa.alloc (cs:=BV (fun _=>false)) BJ CQ rf fun Bn=>?_
  refine Aa.AP (i:=0) (cs':=(BV (fun _=>false))) rf rf BJ rf rf (Ex _) rf ?_
  refine Aa.nil ?_
  refine At.Ad ?_
  refine Wp.seq ?_
  refine Wp.seq ?_
  refine Wp.region ?_
  refine Aa.op (Ab.move rf) rf ?_
  refine Aa.nil ?_
  refine At.Ad ?_
  refine Wp.block ?_
  refine Wp.loop (X:=Nat×Value) (fun b=>[(53,(.int .i64 (((b.1:Nat):Int)))),(11,b.2),(3,x.2),(2,(.slice none 0 0)),(12,(ptr Bn (0)))]) (fun b=> .AM Bn (.cells (BV (CB (Bf l x.1) b.1).2) 34 (0,0)):: .row b.2 34 4 (((CB (Bf l x.1) b.1).1).length) (((CB (Bf l x.1) b.1).1).flatMap JP):: .row x.2 34 4 ((Bf l x.1).length) ((Bf l x.1).flatMap JP)::O) (fun b H'=>b.1≤256) (fun b=>256-b.1) (0, .slice none 0 0) ?_ ?_ ?_ ?_
  ·exact(by(try dsimp only);omega)
  ·exact .cons (rf) (.cons (rf) (.cons (rf) (.cons (rf) (.cons (rf) (.nil)))))
  ·exact(by first|rfl|(rw[JZ];done)|(rw[JZ];rfl))
  intro b H17 hle18 hi19
  refine Wp.seq ?_
  refine Wp.region ?_
  refine Aa.op (Ab.lss rf rf) rf ?_
  refine Aa.nil ?_
  refine At.Ad ?_
  refine Wp.seq ?_
  refine Wp.cond (b:=decide (((b.1:Nat):Int)<256)) rf (fun hb20=>?_) (fun hb20=>?_)
  ·
   replace hb20:=of_decide_eq_true hb20
   refine Wp.skip ?_
   refine At.Ad ?_
   refine Wp.seq ?_
   refine Wp.block ?_
   refine Wp.seq ?_
   refine Wp.region ?_
   refine Aa.op (Ab.move rf) rf ?_
   refine Aa.op (Ab.assign rf) rf ?_
   refine Aa.nil ?_
   refine At.Ad ?_
   refine Wp.seq ?_
   refine Wp.seq ?_
   refine Wp.region ?_
   refine Aa.op (Ab.AF (i:=0) Tryz.underlying34 rf BJ rf rf rf) rf ?_
   refine Aa.op (Ab.move rf) rf ?_
   refine Aa.op (Ab.conv Tryz.underlying3 Tryz.underlying5 rf (Cm (by omega))) rf ?_
   refine Aa.op (Ab.call M0 rf (N5 ((CB (Bf l x.1) b.1).2) b.1 (by omega))) rf ?_
   refine Aa.nil ?_
   refine At.Ad ?_
   refine Wp.cond (b:=((CB (Bf l x.1) b.1).2) b.1) rf (fun hb21=>?_) (fun hb21=>?_)
   ·
    refine Wp.exit ?_
    refine At.An ?_
    refine At.Az ?_
    refine At.Ad ?_
    refine Wp.region ?_
    refine Aa.op (Ab.add rf rf (Aq (by omega))) rf ?_
    refine Aa.op (Ab.move rf) rf ?_
    refine Aa.nil ?_
    refine At.next (b.1+1,b.2) (Hp.le.refl _) ?_ ?_ ?_ ?_
    ·exact(by(try dsimp only);omega)
    ·exact .cons (rf) (.cons (rf) (.cons (rf) (.cons (rf) (.cons (rf) (.nil)))))
    ·exact(by first|(rw[Hr _ b.1 (by assumption)];done)|(rw[Hr _ b.1 (by assumption)];rfl)|(rw[Im _ b.1 m.1 (by assumption) (by omega)];done)|(rw[Im _ b.1 m.1 (by assumption) (by omega)];rfl))
    ·exact(by(try dsimp only);omega)
   ·
    refine Wp.skip ?_
    refine At.Ad ?_
    refine Wp.seq ?_
    refine Wp.region ?_
    refine Aa.op (Ab.move rf) rf ?_
    refine Aa.op (Ab.BR (i:=2) Tryz.underlying97 rf rf) rf ?_
    refine Aa.op (Ab.move rf) rf ?_
    refine Aa.nil ?_
    refine At.Ad ?_
    refine Wp.block ?_
    refine Wp.loop (X:=Nat×Value) (fun m=>[(62,(.int .i64 (((m.1:Nat):Int)))),(11,m.2),(53,(.int .i64 (((b.1:Nat):Int)))),(3,x.2),(2,(.slice none 0 0)),(12,(ptr Bn (0))),(54,(.bool (decide (((b.1:Nat):Int)<256)))),(55,(.int .i64 (((b.1:Nat):Int)))),(13,(.int .i64 (((b.1:Nat):Int)))),(56,(.agg (BV (CB (Bf l x.1) b.1).2))),(57,(.int .i64 (((b.1:Nat):Int)))),(58,(.int .u8 (((b.1:Nat):Int)))),(59,(.bool (((CB (Bf l x.1) b.1).2) b.1))),(60,x.2),(61,(.int .i64 ((((Bf l x.1).length:Nat):Int))))]) (fun m=> .AM Bn (.cells (BV (Fl (Bf l x.1) b.1 m.1).2) 34 (0,0)):: .row m.2 34 4 (((Fl (Bf l x.1) b.1 m.1).1).length) (((Fl (Bf l x.1) b.1 m.1).1).flatMap JP):: .row x.2 34 4 ((Bf l x.1).length) ((Bf l x.1).flatMap JP)::O) (fun m H'=>m.1≤(Bf l x.1).length) (fun m=>(Bf l x.1).length-m.1) (0,b.2) ?_ ?_ ?_ ?_
    ·exact(by(try dsimp only);omega)
    ·exact .cons (rf) (.cons (rf) (.cons (rf) (.cons (rf) (.cons (rf) (.cons (rf) (.cons (rf) (.cons (rf) (.cons (rf) (.cons (rf) (.cons (rf) (.cons (rf) (.cons (rf) (.cons (rf) (.cons (rf) (.nil)))))))))))))))
    ·exact(by first|rfl|(rw[MG];done)|(rw[MG];rfl))
    intro m H22 hle23 hi24
    have ho:=S4 (Bf l x.1) (by omega) b.1 m.1
    refine Wp.seq ?_
    refine Wp.region ?_
    refine Aa.op (Ab.lss rf rf) rf ?_
    refine Aa.nil ?_
    refine At.Ad ?_
    refine Wp.seq ?_
    refine Wp.cond (b:=decide (((m.1:Nat):Int)<(((Bf l x.1).length:Nat):Int))) rf (fun hb25=>?_) (fun hb25=>?_)
    ·
     replace hb25:=of_decide_eq_true hb25
     refine Wp.skip ?_
     refine At.Ad ?_
     refine Wp.seq ?_
     refine Wp.block ?_
     refine Wp.seq ?_
     refine Wp.region ?_
     refine Aa.op (Ab.Bu (j:=2) Tryz.underlying97 BJ rf rf rf (by omega)) rf ?_
     refine Aa.op (Ab.Rl (i:=2) (vs:=(JP (nth (Bf l x.1) m.1))) Tryz.underlying34 rf BJ (Rv _) rf rf (Rw (Bf l x.1) m.1 (by omega))) rf ?_
     refine Aa.alloc (cs:=BV (fun _=>false)) BJ CQ rf fun Bq=>?_
     refine Aa.AP (i:=0) (cs':=(BV (nth (Bf l x.1) m.1))) rf rf BJ rf rf (Ex _) rf ?_
     refine Aa.nil ?_
     refine At.Ad ?_
     refine Wp.seq ?_
     refine Wp.region ?_
     refine Aa.op (Ab.AF (i:=0) Tryz.underlying34 rf BJ rf rf rf) rf ?_
     refine Aa.op (Ab.move rf) rf ?_
     refine Aa.op (Ab.conv Tryz.underlying3 Tryz.underlying5 rf (Cm (by omega))) rf ?_
     refine Aa.op (Ab.call M0 rf (N5 (nth (Bf l x.1) m.1) b.1 (by omega))) rf ?_
     refine Aa.nil ?_
     refine At.Ad ?_
     refine Wp.cond (b:=(nth (Bf l x.1) m.1) b.1) rf (fun hb26=>?_) (fun hb26=>?_)
     ·
      refine Wp.seq ?_
      refine Wp.region ?_
      refine Aa.op (Ab.move rf) rf ?_
      refine Aa.op (Ab.AF (i:=0) Tryz.underlying34 rf BJ rf rf rf) rf ?_
      refine Aa.IB (cs:=(BV (nth (Bf l x.1) m.1))) Tryz.underlying97 BJ rf rf rf rf rf rf fun v27=>?_
      refine Aa.append (z:=(.agg #[.int .u64 0, .int .u64 0, .int .u64 0, .int .u64 0])) (i:=3) Tryz.underlying97 BJ rf (by decide) rf rf rf (fun w hs=>hs.K8 (i:=0) rf) (by simpa using Ex _) (by omega) (by omega) rf fun v28=>?_
      refine Aa.drop (i:=0) ?_
      refine Aa.op (Ab.assign rf) rf ?_
      refine Aa.nil ?_
      refine At.Ad ?_
      refine Wp.region ?_
      refine Aa.op (Ab.AF (i:=1) Tryz.underlying34 rf BJ rf rf rf) rf ?_
      refine Aa.op (Ab.AF (i:=0) Tryz.underlying34 rf BJ rf rf rf) rf ?_
      refine Aa.op (Ab.call YZ rf (ZO (Fl (Bf l x.1) b.1 m.1).2 (nth (Bf l x.1) m.1))) rf ?_
      refine Aa.AP (i:=1) (cs':=(BV (fun y=>(Fl (Bf l x.1) b.1 m.1).2 y||(nth (Bf l x.1) m.1) y))) rf rf BJ rf rf (Ex _) rf ?_
      refine Aa.nil ?_
      refine At.AE ?_
      refine At.Ad ?_
      refine Wp.region ?_
      refine Aa.op (Ab.add rf rf (Aq (by omega))) rf ?_
      refine Aa.op (Ab.move rf) rf ?_
      refine Aa.nil ?_
      refine At.drop (i:=0) ?_
      refine At.next (m.1+1,v28) (Hp.le.refl _) ?_ ?_ ?_ ?_
      ·exact(by(try dsimp only);omega)
      ·exact .cons (rf) (.cons (rf) (.cons (rf) (.cons (rf) (.cons (rf) (.cons (rf) (.cons (rf) (.cons (rf) (.cons (rf) (.cons (rf) (.cons (rf) (.cons (rf) (.cons (rf) (.cons (rf) (.cons (rf) (.nil)))))))))))))))
      ·exact(by first|(rw[NO _ b.1 m.1 (by omega) (by assumption)];simp[JP];done)|(rw[MH _ b.1 m.1 (by omega) (by assumption)];rfl))
      ·exact(by(try dsimp only);omega)
     ·
      refine Wp.skip ?_
      refine At.AE ?_
      refine At.Ad ?_
      refine Wp.region ?_
      refine Aa.op (Ab.add rf rf (Aq (by omega))) rf ?_
      refine Aa.op (Ab.move rf) rf ?_
      refine Aa.nil ?_
      refine At.drop (i:=0) ?_
      refine At.next (m.1+1,m.2) (Hp.le.refl _) ?_ ?_ ?_ ?_
      ·exact(by(try dsimp only);omega)
      ·exact .cons (rf) (.cons (rf) (.cons (rf) (.cons (rf) (.cons (rf) (.cons (rf) (.cons (rf) (.cons (rf) (.cons (rf) (.cons (rf) (.cons (rf) (.cons (rf) (.cons (rf) (.cons (rf) (.cons (rf) (.nil)))))))))))))))
      ·exact(by first|(rw[NO _ b.1 m.1 (by omega) (by assumption)];simp[JP];done)|(rw[MH _ b.1 m.1 (by omega) (by assumption)];rfl))
      ·exact(by(try dsimp only);omega)
    ·
     replace hb25:=of_decide_eq_false hb25
     refine Wp.exit ?_
     refine At.An ?_
     refine At.An ?_
     refine At.Az ?_
     refine At.AE ?_
     refine At.Ad ?_
     refine Wp.region ?_
     refine Aa.op (Ab.add rf rf (Aq (by omega))) rf ?_
     refine Aa.op (Ab.move rf) rf ?_
     refine Aa.nil ?_
     refine At.next (b.1+1,m.2) hle23 ?_ ?_ ?_ ?_
     ·exact(by(try dsimp only);omega)
     ·exact .cons (rf) (.cons (rf) (.cons (rf) (.cons (rf) (.cons (rf) (.nil)))))
     ·exact(by first|(rw[Hr _ b.1 (by assumption)];done)|(rw[Hr _ b.1 (by assumption)];rfl)|(rw[Im _ b.1 m.1 (by assumption) (by omega)];done)|(rw[Im _ b.1 m.1 (by assumption) (by omega)];rfl))
     ·exact(by(try dsimp only);omega)
  ·
   replace hb20:=of_decide_eq_false hb20
   refine Wp.exit ?_
   refine At.An ?_
   refine At.An ?_
   refine At.Az ?_
   refine At.Ad ?_
   refine Wp.seq ?_
   refine Wp.region ?_
   refine Aa.op (Ab.move rf) rf ?_
   refine Aa.op (Ab.assign rf) rf ?_
   refine Aa.nil ?_
   refine At.Ad ?_
   refine Wp.ret ?_
   refine At.freeze (i:=1) rf fun H29 hle30 hsl31=>?_
   refine At.drop (i:=0) ?_
   refine At.drop (i:=0) ?_
   refine At.DB rf (RV.tmp (v:=b.2) rf) ?_
   exact ZC.mk ((hle3.trans hle18).trans hle30) (⟨rf,by have e:x.1=l.length:=(by omega);have e2:b.1=256:=(by omega);rw[e,e2]at hsl31;exact hsl31⟩)
theorem Qt{p:AD}{b:Int}(h0:0≤b)(h1:b≤255):Ca Tryz.prog 58 [.agg (BV p), .int .u8 b] H O (.bool (p b.toNat)):=Ca.Qt (fun b hb=>N5 p b hb) h0 h1
theorem OE{p:AD}{b:Int}(h0:0≤b)(h1:b≤255):Ca Tryz.prog 69 [.agg (BV p), .int .u8 b] H O (.bool (p b.toNat)):=Ca.Qt (fun b hb=>Xw p b hb) h0 h1
theorem Se{p:AD} :Ca Tryz.prog 57 [.agg (BV p)] H O (.tuple #[.int .u8 (De p:Nat), .bool (anyS p)]):=Wi p
theorem Mw{p:AD} :ED Tryz.prog 62 [.agg (BV p)] H O (fun v H' O'=>(∃v1,v1=v∧AW (cP AZ AZ) H' (Py p) v1)∧O=O'):=ED.Mw (T3 p)
theorem OL{l:List AD}{v:Value}(hl:AW IG H l v)(hn:l.length≤4294967296):ED Tryz.prog 54 [v] H O (fun v H' O'=>(∃v1,v1=v∧AW IG H' (BH l) v1)∧O=O'):=ED.OL (fun l v h hn=>XF l v h hn) hl hn
end Go.Proofs.YtjmbmodmepdmjaaGreatDoor
namespace Go.Proofs.YtjmbmodmepdmjaaGreatDoor
open Go.GK
variable {H : Hp} {O : List Bj}
abbrev Vx:Cd (AD×Int×Int):=cP IG (cP Ao Ao)
abbrev V'(B:Nat)(v1 v2:Value)(m:Int):Bj:= .AM B (.cells #[v1,v2, .int .i64 m] 66 (0,0))
abbrev Wa(v1:Value)(F:K3 Int):Bj:= .row v1 55 1 (A4 F).length (A4 F)
abbrev V_(v2:Value)(G:K3 (AD×Int×Int)):Bj:= .row v2 94 1 (A4 G).length (A4 G)
abbrev S_(F:K3 Int)(G:K3 (AD×Int×Int))(O:List Bj):List Bj:=BE 3 1 F++(BE 96 6 G++O)
abbrev QV(B:Nat)(v1 v2:Value)(m:Int)(F:K3 Int)(G:K3 (AD×Int×Int))(O:List Bj):List Bj:=V' B v1 v2 m::Wa v1 F::V_ v2 G::S_ F G O
section
variable {P : Program} {Q : Exit → Act → World → Prop} {n : Nat} {L : List (Nat × Value)} {ops : Array Oper} {rest : List Oper} {B : Nat} {v1 v2 : Value} {m : Int} {F : K3 Int} {G : K3 (AD × Int × Int)}
theorem SH.HR{w:World}{A:List Bj}(h:SH w H (A++QV B v1 v2 m F G O)):SH w H (QV B v1 v2 m F G (A++O)):=by
 have h':SH w H (A++(([V' B v1 v2 m,Wa v1 F,V_ v2 G]++(BE 3 1 F++BE 96 6 G))++O)):=by simpa [QV,S_]using h
 simpa [QV,S_]using h'.Z3
theorem SH.JK{w:World}{A:List Bj}(h:SH w H (QV B v1 v2 m F G (A++O))):SH w H (A++QV B v1 v2 m F G O):=by
 have h':SH w H (([V' B v1 v2 m,Wa v1 F,V_ v2 G]++(BE 3 1 F++BE 96 6 G))++(A++O)):=by simpa [QV,S_]using h
 simpa [QV,S_]using h'.Z3
theorem Aa.HR(A:List Bj)(k:Aa P ops Q rest n L H (QV B v1 v2 m F G (A++O))):Aa P ops Q rest n L H (A++QV B v1 v2 m F G O):=fun a w hf hs=>k a w hf (SH.HR hs)
theorem Aa.JK(A:List Bj)(k:Aa P ops Q rest n L H (A++QV B v1 v2 m F G O)):Aa P ops Q rest n L H (QV B v1 v2 m F G (A++O)):=fun a w hf hs=>k a w hf (SH.JK hs)
end
abbrev V8{α:Type} :Value×List α×List Value:=(.slice none 0 0,[],[])
theorem LU{B:Nat}{v1 v2:Value}{m:Int}{F:K3 Int}{G:K3 (AD×Int×Int)}{D:List (List Int)}{E:List (List (AD×Int×Int))}(hF:Bk Ao H D F)(hG:Bk Vx H E G)(h1:D.length+1≤AH)(h2:E.length+1≤AH):
   ED Tryz.prog 36 [ptr B 0] H (QV B v1 v2 m F G O) (fun r H' O'=> ∃v1' v2', .int .i64 ((E.length:Nat):Int)=r∧QV B v1' v2' m (F++[V8]) (G++[V8]) O=O'):=by
 have l1:=KI hF
 have l2:=KI hG
 intro w hs
 refine Bz Tryz.func36 rf rf rf ?_ hs
 clear hs w
 refine Wp.seq ?_
 refine Wp.region ?_
 refine Aa.op (Ab.assign rf) rf ?_
 refine Aa.nil ?_
 refine At.Ad ?_
 refine Wp.seq ?_
 refine Wp.region ?_
 refine Aa.op (Ab.move rf) rf ?_
 refine Aa.op (Ab.move rf) rf ?_
 refine Aa.op (Ab.nilCheck rf) rf ?_
 refine Aa.op (Ab.AV (o':=0) IV rf rf) rf ?_
 refine Aa.op (Ab.Am (i:=0) (v:=v1) Tryz.underlying63 rf rf rf rf) rf ?_
 refine Aa.A1 (c:=cV) (y:= .slice none 0 0) (cs:=[.slice none 0 0]) Tryz.underlying63 Dx rf rf rf rf ⟨rf,rf⟩ rfl fun v8 xs8 hq8=>?_
 refine Aa.Df (c:=cV) (i:=2) (j:=0) hF.row hq8 Tryz.underlying63 Dx rf (by decide) rf rf rf rf (by decide) (by rw[l1];exact h1) rf fun v9 xs9 hq9=>?_
 refine Aa.op (Ab.nilCheck rf) rf ?_
 refine Aa.op (Ab.AV (o':=0) IV rf rf) rf ?_
 refine Aa.Bm (i:=2) rf fun h3=>?_
 refine Aa.Cc (i:=1) rf rf h3 Xn rf (Nat.le_of_ble_eq_true rf) ?_
 refine Aa.nil ?_
 refine At.Ad ?_
 refine Wp.seq ?_
 refine Wp.region ?_
 refine Aa.op (Ab.move rf) rf ?_
 refine Aa.op (Ab.move rf) rf ?_
 refine Aa.op (Ab.nilCheck rf) rf ?_
 refine Aa.op (Ab.AV (o':=1) IU rf rf) rf ?_
 refine Aa.op (Ab.Am (i:=1) (v:=v2) Tryz.underlying64 rf rf rf rf) rf ?_
 refine Aa.A1 (c:=cV) (y:= .slice none 0 0) (cs:=[.slice none 0 0]) Tryz.underlying64 PG rf rf rf rf ⟨rf,rf⟩ rfl fun v17 xs17 hq17=>?_
 refine Aa.Df (c:=cV) (i:=4) (j:=0) hG.row hq17 Tryz.underlying64 PG rf (by decide) rf rf rf rf (by decide) (by rw[l2];exact h2) rf fun v18 xs18 hq18=>?_
 refine Aa.op (Ab.nilCheck rf) rf ?_
 refine Aa.op (Ab.AV (o':=1) IU rf rf) rf ?_
 refine Aa.Bm (i:=4) rf fun h4=>?_
 refine Aa.Cc (i:=2) rf rf h4 ZJ rf (Nat.le_of_ble_eq_true rf) ?_
 refine Aa.nil ?_
 refine At.Ad ?_
 refine Wp.seq ?_
 refine Wp.region ?_
 refine Aa.op (Ab.move rf) rf ?_
 refine Aa.op (Ab.nilCheck rf) rf ?_
 refine Aa.op (Ab.AV (o':=1) IU rf rf) rf ?_
 refine Aa.op (Ab.Am (i:=2) (v:=v18) Tryz.underlying64 rf rf rf rf) rf ?_
 refine Aa.op (Ab.BR (i:=4) Tryz.underlying64 rf rf) rf ?_
 refine Aa.op (Ab.sub rf rf (Aq (by simp only[List.length_append,List.length_cons,List.length_nil,l2,AH]at*;omega))) rf ?_
 refine Aa.op (Ab.assign rf) rf ?_
 refine Aa.nil ?_
 refine At.Ad ?_
 refine Wp.ret ?_
 obtain rfl:=XP hq9
 obtain rfl:=XP hq18
 refine At.DB rf (RV.tmp rf) (fun w hs=>⟨_,_,_,rf,Hp.le.refl _,?_,v9,v18,?_,rf⟩)
 ·have e1:A4 (F++[V8])=A4 F++[Value.slice none 0 0]:=by simp[A4]
  have e2:A4 (G++[V8])=A4 G++[Value.slice none 0 0]:=by simp[A4]
  have hs':=hs.AR [2,3,4] 5 rfl rfl rfl
  have k1:=SH.grow (A:=[V' B v9 v18 m, .row v9 55 1 (A4 F++[Value.slice none 0 0]).length (A4 F++[Value.slice none 0 0]), .row v18 94 1 (A4 G++[Value.slice none 0 0]).length (A4 G++[Value.slice none 0 0])]) (F:=F) (e:=3) (sz:=1) (R:=BE 96 6 G++O) hs'
  have k2:=SH.YQ k1
  show SH w H _
  simp only[QV,Wa,V_,S_,e1,e2]
  exact k2
 ·rw[List.length_append,l2];simp
end Go.Proofs.YtjmbmodmepdmjaaGreatDoor
namespace Go.GK
def C4(fu:Nat)(a0:List (Bool×(List (Int×Int×Int))))(k249:Nat)(nx248:Nat→Option Bool)(x259:Bool×(List (Int×Int×Int)))(k343:Nat)(nx342:Nat→Option Bool):Option Bool:=
 bif decide (((k343:Nat):Int)<((x259.2.length:Nat):Int))then(AX (idx x259.2 ((k343:Nat):Int)) (fun x353=>bif decide (x353.2.1<x353.1)then(some false)else(bif decide (x353.2.2<0)then(some false)else(bif decide (((a0.length:Nat):Int)≤x353.2.2)then(some false)else(bif decide (0<((k343:Nat):Int))then(A0 (C0 (((k343:Nat):Int)-1)) (AX (idx x259.2 (((k343:Nat):Int)-1)) (fun x380=>bif decide (x353.1≤x380.2.1)then(some false)else(nx342 (k343+1)))))else(nx342 (k343+1)))))))else(nx248 (k249+1))
def C5(fu:Nat)(a0:List (Bool×(List (Int×Int×Int))))(k249:Nat)(nx248:Nat→Option Bool):Option Bool:=
 bif decide (((k249:Nat):Int)<((a0.length:Nat):Int))then(AX (idx a0 ((k249:Nat):Int)) (fun x259=>Ax fu (C4 fu a0 k249 nx248 x259) 0))else(some true)
def DJ(fu:Nat)(a0:List (Bool×(List (Int×Int×Int)))):Option Bool:=
 Ax fu (C5 fu a0) 0
def Gr(fu:Nat)(a1:Cb)(i231:Int)(nx229:(Int×Int)→Option Bool)(x241:Bool×(List (Int×Int×Int)))(k291:Nat)(nx290:Nat→Option Bool):Option Bool:=
 bif decide (((k291:Nat):Int)<((x241.2.length:Nat):Int))then(AX (idx x241.2 ((k291:Nat):Int)) (fun x301=>AX (Qq a1 i231) (fun x314=>bif decide (x301.1≤x314)then(AX (Qq a1 i231) (fun x317=>bif decide (x317≤x301.2.1)then(A0 (C0 (i231+1)) (nx229 (x301.2.2,i231+1)))else(nx290 (k291+1))))else(nx290 (k291+1)))))else(some false)
def Gs(fu:Nat)(a0:List (Bool×(List (Int×Int×Int))))(a1:Cb)(i230:Int)(i231:Int)(nx229:(Int×Int)→Option Bool):Option Bool:=
 bif decide (i231<((a1.length:Nat):Int))then(AX (idx a0 i230) (fun x241=>Ax fu (Gr fu a1 i231 nx229 x241) 0))else(AX (idx a0 i230) (fun x321=>some x321.1))
def HB(fu:Nat)(a0:List (Bool×(List (Int×Int×Int))))(a1:Cb):Option Bool:=
 bif decide (((a0.length:Nat):Int)=0)then(some false)else(AX (DJ fu a0) (fun x6=>bif !x6 then(some false)else(Ax fu (fun p nx=>Gs fu a0 a1 p.1 p.2 nx) (0,0))))
def Di(fu:Nat)(a0:List (Int×Int×Int))(a1:List (Int×Int×Int))(k72:Nat)(nx71:Nat→Option Bool):Option Bool:=
 bif decide (((k72:Nat):Int)<((a0.length:Nat):Int))then(AX (idx a0 ((k72:Nat):Int)) (fun x96=>AX (idx a1 ((k72:Nat):Int)) (fun x103=>bif !(decide (([x96.1,x96.2.1,x96.2.2]:List Int)=[x103.1,x103.2.1,x103.2.2]))then(some false)else(nx71 (k72+1)))))else(some true)
def Fy(fu:Nat)(a0:List (Int×Int×Int))(a1:List (Int×Int×Int)):Option Bool:=
 bif decide (((a0.length:Nat):Int)≠((a1.length:Nat):Int))then(some false)else(Ax fu (Di fu a0 a1) 0)
def Fg(fu:Nat)(k280:Nat)(nx279:Nat→Option Bool)(x308:Bool×(List (Int×Int×Int)))(x313:Bool×(List (Int×Int×Int)))(k392:Nat)(nx391:Nat→Option Bool):Option Bool:=
 bif decide (((k392:Nat):Int)<((x308.2.length:Nat):Int))then(AX (idx x308.2 ((k392:Nat):Int)) (fun x416=>AX (idx x313.2 ((k392:Nat):Int)) (fun x423=>bif !(decide (([x416.1,x416.2.1,x416.2.2]:List Int)=[x423.1,x423.2.1,x423.2.2]))then(some false)else(nx391 (k392+1)))))else(nx279 (k280+1))
def Fh(fu:Nat)(a0:List (Bool×(List (Int×Int×Int))))(a1:List (Bool×(List (Int×Int×Int))))(k280:Nat)(nx279:Nat→Option Bool):Option Bool:=
 bif decide (((k280:Nat):Int)<((a0.length:Nat):Int))then(AX (idx a0 ((k280:Nat):Int)) (fun x308=>AX (idx a1 ((k280:Nat):Int)) (fun x313=>bif !(x308.1==x313.1)then(some false)else(bif decide (((x308.2.length:Nat):Int)≠((x313.2.length:Nat):Int))then(some false)else(Ax fu (Fg fu k280 nx279 x308 x313) 0)))))else(some true)
def GC(fu:Nat)(a0:List (Bool×(List (Int×Int×Int))))(a1:List (Bool×(List (Int×Int×Int)))):Option Bool:=
 bif decide (((a0.length:Nat):Int)≠((a1.length:Nat):Int))then(some false)else(Ax fu (Fh fu a0 a1) 0)
def IC(fu:Nat)(a0:Bool×(List (Int×Int×Int)))(a1:Bool×(List (Int×Int×Int))):Option Bool:=
 bif a0.1==a1.1 then(AX (Fy fu a0.2 a1.2) (fun x8=>some x8))else(some false)
def BD(fu:Nat)(a0:List (Bool×(List (Int×Int×Int))))(a1:List (Bool×(List (Int×Int×Int))))(k48:Nat)(nx47:Nat→Option Bool):Option Bool:=
 bif decide (((k48:Nat):Int)<((a0.length:Nat):Int))then(AX (idx a0 ((k48:Nat):Int)) (fun x58=>AX (idx a1 ((k48:Nat):Int)) (fun x65=>AX (IC fu x58 x65) (fun x72=>bif !x72 then(some false)else(nx47 (k48+1))))))else(some true)
def Cy(fu:Nat)(a0:List (Bool×(List (Int×Int×Int))))(a1:List (Bool×(List (Int×Int×Int)))):Option Bool:=
 bif decide (((a0.length:Nat):Int)≠((a1.length:Nat):Int))then(some false)else(Ax fu (BD fu a0 a1) 0)
def KR(fu:Nat)(a0:List (Bool×(List (Int×Int×Int))))(a1:List (Bool×(List (Int×Int×Int)))):Option Bool:=
 AX (Cy fu a0 a1) (fun x7=>some x7)
def IY(fu:Nat)(a0:Cb)(l143:List (Bool×(List (Int×Int×Int))))(i147:Int)(nx142:((List (Bool×(List (Int×Int×Int))))×Int)→Option (List (Bool×(List (Int×Int×Int))))):Option (List (Bool×(List (Int×Int×Int)))):=
 bif decide (i147<((a0.length:Nat):Int))then(AX (Qq a0 i147) (fun x177=>AX (Qq a0 i147) (fun x179=>A0 (C0 (i147+1)) (A0 (l143.length+([(false,([(x177,x179,i147+1)]:List (Int×Int×Int)))]:List (Bool×(List (Int×Int×Int)))).length≤AH) (A0 (C0 (i147+1)) (nx142 (l143++([(false,([(x177,x179,i147+1)]:List (Int×Int×Int)))]:List (Bool×(List (Int×Int×Int)))),i147+1)))))))else(A0 (l143.length+([(true,([]:List (Int×Int×Int)))]:List (Bool×(List (Int×Int×Int)))).length≤AH) (some (l143++([(true,([]:List (Int×Int×Int)))]:List (Bool×(List (Int×Int×Int)))))))
def Po(fu:Nat)(a0:Cb):Option (List (Bool×(List (Int×Int×Int)))):=
 Ax fu (fun p nx=>IY fu a0 p.1 p.2 nx) (([]:List (Bool×(List (Int×Int×Int)))),0)
def Ry(fu:Nat):Option (List (Bool×(List (Int×Int×Int)))):=
 some ([(true,([(0,255,0)]:List (Int×Int×Int)))]:List (Bool×(List (Int×Int×Int))))
def Hi(fu:Nat)(k190:Nat)(nx186:((List Bool)×Nat)→Option (List Int))(x200:Bool×(List (Int×Int×Int)))(l258:List Bool)(k261:Nat)(nx257:((List Bool)×Nat)→Option (List Int)):Option (List Int):=
 bif decide (((k261:Nat):Int)<((x200.2.length:Nat):Int))then(AX (idx x200.2 ((k261:Nat):Int)) (fun x271=>AX (idx l258 x271.1) (fun x279=>A0 (C0 (x271.2.1+1)) (AX (idx (l258.set x271.1.toNat true) (x271.2.1+1)) (fun x286=>nx257 ((l258.set x271.1.toNat true).set ((x271.2.1+1).toNat) true,k261+1))))))else(nx186 (l258,k190+1))
def Hg(fu:Nat)(l187:List Bool)(l327:List Int)(k331:Nat)(nx326:((List Int)×Nat)→Option (List Int)):Option (List Int):=
 bif decide (((k331:Nat):Int)<256)then(AX (idx l187 ((k331:Nat):Int)) (fun x341=>bif x341 then(A0 (l327.length+([((k331:Nat):Int)]:List Int).length≤AH) (nx326 (l327++([((k331:Nat):Int)]:List Int),k331+1)))else(nx326 (l327,k331+1))))else(some l327)
def Hj(fu:Nat)(a0:List (Bool×(List (Int×Int×Int))))(l187:List Bool)(k190:Nat)(nx186:((List Bool)×Nat)→Option (List Int)):Option (List Int):=
 bif decide (((k190:Nat):Int)<((a0.length:Nat):Int))then(AX (idx a0 ((k190:Nat):Int)) (fun x200=>Ax fu (fun p nx=>Hi fu k190 nx186 x200 p.1 p.2 nx) (l187,0)))else(Ax fu (fun p nx=>Hg fu l187 p.1 p.2 nx) (([]:List Int),0))
def Lo(fu:Nat)(a0:List (Bool×(List (Int×Int×Int)))):Option (List Int):=
 AX (idx (List.replicate 257 false:List Bool) 0) (fun x6=>Ax fu (fun p nx=>Hj fu a0 p.1 p.2 nx) ((List.replicate 257 false:List Bool).set 0 true,0))
def D5(fu:Nat)(x576:Bool×(List (Int×Int×Int)))(k742:Nat)(nx737:((List Int)×Nat)→Option ((List Int)×(List (List Int))×(List Bool)×(List Int)))(x752:Int)(l802:List Int)(k806:Nat)(nx801:((List Int)×Nat)→Option ((List Int)×(List (List Int))×(List Bool)×(List Int))):Option ((List Int)×(List (List Int))×(List Bool)×(List Int)):=
 bif decide (((k806:Nat):Int)<((x576.2.length:Nat):Int))then(AX (idx x576.2 ((k806:Nat):Int)) (fun x816=>bif decide (x816.1≤x752)then(bif decide (x752≤x816.2.1)then(AX (idx l802 ((k742:Nat):Int)) (fun x826=>nx801 (l802.set k742 x816.2.2,k806+1)))else(nx801 (l802,k806+1)))else(nx801 (l802,k806+1))))else(nx737 (l802,k742+1))
def D6(fu:Nat)(a0:List (Bool×(List (Int×Int×Int))))(x3:List Int)(l558:List (List Int))(l562:List Bool)(k566:Nat)(nx557:((List (List Int))×(List Bool)×Nat)→Option ((List Int)×(List (List Int))×(List Bool)×(List Int)))(x576:Bool×(List (Int×Int×Int)))(l738:List Int)(k742:Nat)(nx737:((List Int)×Nat)→Option ((List Int)×(List (List Int))×(List Bool)×(List Int))):Option ((List Int)×(List (List Int))×(List Bool)×(List Int)):=
 bif decide (((k742:Nat):Int)<((x3.length:Nat):Int))then(AX (idx x3 ((k742:Nat):Int)) (fun x752=>AX (idx l738 ((k742:Nat):Int)) (fun x755=>Ax fu (fun p nx=>D5 fu x576 k742 nx737 x752 p.1 p.2 nx) (l738.set k742 ((a0.length:Nat):Int),0))))else(A0 (l558.length+([l738]:List (List Int)).length≤AH) (A0 (l562.length+([x576.1]:List Bool).length≤AH) (nx557 (l558++([l738]:List (List Int)),l562++([x576.1]:List Bool),k566+1))))
def D4(fu:Nat)(a0:List (Bool×(List (Int×Int×Int))))(x3:List Int)(l558:List (List Int))(l562:List Bool)(l883:List Int)(k887:Nat)(nx882:((List Int)×Nat)→Option ((List Int)×(List (List Int))×(List Bool)×(List Int))):Option ((List Int)×(List (List Int))×(List Bool)×(List Int)):=
 bif decide (((k887:Nat):Int)<(((List.replicate x3.length 0:List Int).length:Nat):Int))then(AX (idx l883 ((k887:Nat):Int)) (fun x897=>nx882 (l883.set k887 ((a0.length:Nat):Int),k887+1)))else(A0 (l558.length+([l883]:List (List Int)).length≤AH) (A0 (l562.length+([false]:List Bool).length≤AH) (some (x3,l558++([l883]:List (List Int)),l562++([false]:List Bool),([]:List Int)))))
def D7(fu:Nat)(a0:List (Bool×(List (Int×Int×Int))))(x3:List Int)(l558:List (List Int))(l562:List Bool)(k566:Nat)(nx557:((List (List Int))×(List Bool)×Nat)→Option ((List Int)×(List (List Int))×(List Bool)×(List Int))):Option ((List Int)×(List (List Int))×(List Bool)×(List Int)):=
 bif decide (((k566:Nat):Int)<((a0.length:Nat):Int))then(AX (idx a0 ((k566:Nat):Int)) (fun x576=>A0 (x3.length≤AH) (Ax fu (fun p nx=>D6 fu a0 x3 l558 l562 k566 nx557 x576 p.1 p.2 nx) ((List.replicate x3.length 0:List Int),0))))else(A0 (x3.length≤AH) (Ax fu (fun p nx=>D4 fu a0 x3 l558 l562 p.1 p.2 nx) ((List.replicate x3.length 0:List Int),0)))
def GM(fu:Nat)(a0:List (Bool×(List (Int×Int×Int)))):Option ((List Int)×(List (List Int))×(List Bool)×(List Int)):=
 AX (Lo fu a0) (fun x3=>Ax fu (fun p nx=>D7 fu a0 x3 p.1 p.2.1 p.2.2 nx) (([]:List (List Int)),([]:List Bool),0))
def C6(fu:Nat)(a0:(List Int)×(List (List Int))×(List Bool)×(List Int))(l599:List Bool)(b603:Bool)(k604:Nat)(nx598:((List Bool)×Bool×Nat)→Option (List Bool))(x617:List Int)(b650:Bool)(k651:Nat)(nx649:(Bool×Nat)→Option (List Bool)):Option (List Bool):=
 bif decide (((k651:Nat):Int)<((x617.length:Nat):Int))then(AX (idx x617 ((k651:Nat):Int)) (fun x661=>bif b650 then(nx649 (true,k651+1))else(AX (idx a0.2.2.2 x661) (fun x665=>AX (idx l599 x665) (fun x668=>nx649 (x668,k651+1))))))else(bif b650 then(AX (idx a0.2.2.2 ((k604:Nat):Int)) (fun x672=>AX (idx l599 x672) (fun x675=>bif !x675 then(AX (idx a0.2.2.2 ((k604:Nat):Int)) (fun x679=>AX (idx l599 x679) (fun x682=>nx598 (l599.set x679.toNat true,true,k604+1))))else(nx598 (l599,b603,k604+1)))))else(nx598 (l599,b603,k604+1)))
def C7(fu:Nat)(a0:(List Int)×(List (List Int))×(List Bool)×(List Int))(nx443:((List Bool)×Bool)→Option (List Bool))(l599:List Bool)(b603:Bool)(k604:Nat)(nx598:((List Bool)×Bool×Nat)→Option (List Bool)):Option (List Bool):=
 bif decide (((k604:Nat):Int)<((a0.2.1.length:Nat):Int))then(AX (idx a0.2.2.1 ((k604:Nat):Int)) (fun x614=>AX (idx a0.2.1 ((k604:Nat):Int)) (fun x617=>Ax fu (fun p nx=>C6 fu a0 l599 b603 k604 nx598 x617 p.1 p.2 nx) (x614,0))))else(nx443 (l599,b603))
def D0(fu:Nat)(a0:(List Int)×(List (List Int))×(List Bool)×(List Int))(l444:List Bool)(b448:Bool)(nx443:((List Bool)×Bool)→Option (List Bool)):Option (List Bool):=
 bif b448 then(Ax fu (fun p nx=>C7 fu a0 nx443 p.1 p.2.1 p.2.2 nx) (l444,false,0))else(some l444)
def EZ(fu:Nat)(a0:(List Int)×(List (List Int))×(List Bool)×(List Int)):Option (List Bool):=
 A0 (a0.2.1.length≤AH) (Ax fu (fun p nx=>D0 fu a0 p.1 p.2 nx) ((List.replicate a0.2.1.length false:List Bool),true))
def CZ(fu:Nat)(a0:(List Int)×(List (List Int))×(List Bool)×(List Int))(a1:Int):Option Int:=
 A0 (C0 (a1+1)) (bif decide ((a1+1)<((a0.1.length:Nat):Int))then(A0 (C0 (a1+1)) (AX (idx a0.1 (a1+1)) (fun x13=>A0 (C0 (x13-1)) (A0 (F8 (x13-1)) (some (x13-1))))))else(some 255))
def Ce(fu:Nat)(a0:(List Int)×(List (List Int))×(List Bool)×(List Int))(l1653:List (Int×Int×Int))(k1658:Nat)(nx1648:((List Int)×(List (Int×Int×Int))×(List (Int×Int))×Nat)→Option (List (Bool×(List (Int×Int×Int)))))(x1671:Int)(l1691:List Int)(m1695:List (Int×Int)):Option (List (Bool×(List (Int×Int×Int)))):=
 bif decide (0<((l1653.length:Nat):Int))then(A0 (C0 (((l1653.length:Nat):Int)-1)) (AX (idx l1653 (((l1653.length:Nat):Int)-1)) (fun x1727=>A0 (C0 x1671) (bif decide (x1727.2.2=((AQ m1695 x1671).getD 0))then(A0 (C0 (((l1653.length:Nat):Int)-1)) (AX (idx l1653 (((l1653.length:Nat):Int)-1)) (fun x1737=>A0 (C0 (x1737.2.1+1)) (AX (idx a0.1 ((k1658:Nat):Int)) (fun x1745=>bif decide ((x1737.2.1+1)=x1745)then(A0 (C0 (((l1653.length:Nat):Int)-1)) (AX (CZ fu a0 ((k1658:Nat):Int)) (fun x1770=>A0 (F8 x1770) (AX (idx l1653 (((l1653.length:Nat):Int)-1)) (fun x1775=>nx1648 (l1691,l1653.set ((((l1653.length:Nat):Int)-1).toNat) (x1775.1,x1770,x1775.2.2),m1695,k1658+1))))))else(AX (idx a0.1 ((k1658:Nat):Int)) (fun x1805=>A0 (F8 x1805) (AX (CZ fu a0 ((k1658:Nat):Int)) (fun x1809=>A0 (F8 x1809) (A0 (C0 x1671) (A0 (l1653.length+([(x1805,x1809,(AQ m1695 x1671).getD 0)]:List (Int×Int×Int)).length≤AH) (nx1648 (l1691,l1653++([(x1805,x1809,(AQ m1695 x1671).getD 0)]:List (Int×Int×Int)),m1695,k1658+1)))))))))))))else(AX (idx a0.1 ((k1658:Nat):Int)) (fun x1839=>A0 (F8 x1839) (AX (CZ fu a0 ((k1658:Nat):Int)) (fun x1843=>A0 (F8 x1843) (A0 (C0 x1671) (A0 (l1653.length+([(x1839,x1843,(AQ m1695 x1671).getD 0)]:List (Int×Int×Int)).length≤AH) (nx1648 (l1691,l1653++([(x1839,x1843,(AQ m1695 x1671).getD 0)]:List (Int×Int×Int)),m1695,k1658+1))))))))))))else(AX (idx a0.1 ((k1658:Nat):Int)) (fun x1873=>A0 (F8 x1873) (AX (CZ fu a0 ((k1658:Nat):Int)) (fun x1877=>A0 (F8 x1877) (A0 (C0 x1671) (A0 (l1653.length+([(x1873,x1877,(AQ m1695 x1671).getD 0)]:List (Int×Int×Int)).length≤AH) (nx1648 (l1691,l1653++([(x1873,x1877,(AQ m1695 x1671).getD 0)]:List (Int×Int×Int)),m1695,k1658+1))))))))
def Cf(fu:Nat)(a0:(List Int)×(List (List Int))×(List Bool)×(List Int))(x11:List Bool)(l1270:List (Bool×(List (Int×Int×Int))))(k1275:Nat)(nx1265:((List Int)×(List (Bool×(List (Int×Int×Int))))×(List (Int×Int))×Nat)→Option (List (Bool×(List (Int×Int×Int)))))(x1303:Bool)(x1324:List Int)(l1649:List Int)(l1653:List (Int×Int×Int))(m1657:List (Int×Int))(k1658:Nat)(nx1648:((List Int)×(List (Int×Int×Int))×(List (Int×Int))×Nat)→Option (List (Bool×(List (Int×Int×Int))))):Option (List (Bool×(List (Int×Int×Int)))):=
 bif decide (((k1658:Nat):Int)<((x1324.length:Nat):Int))then(AX (idx x1324 ((k1658:Nat):Int)) (fun x1668=>AX (idx a0.2.2.2 x1668) (fun x1671=>AX (idx x11 x1671) (fun x1674=>bif !x1674 then(nx1648 (l1649,l1653,m1657,k1658+1))else(A0 (C0 x1671) (bif !((AQ m1657 x1671).isSome)then(A0 (C0 x1671) (A0 (C0 ((l1649.length:Nat):Int)) (A0 (m1657.length≤AH) (A0 (l1649.length+([x1668]:List Int).length≤AH) (Ce fu a0 l1653 k1658 nx1648 x1671 (l1649++([x1668]:List Int)) (DY m1657 x1671 ((l1649.length:Nat):Int)))))))else(Ce fu a0 l1653 k1658 nx1648 x1671 l1649 m1657)))))))else(A0 (l1270.length+([(x1303,l1653)]:List (Bool×(List (Int×Int×Int)))).length≤AH) (nx1265 (l1649,l1270++([(x1303,l1653)]:List (Bool×(List (Int×Int×Int)))),m1657,k1275+1)))
def CF(fu:Nat)(a0:(List Int)×(List (List Int))×(List Bool)×(List Int))(x11:List Bool)(l1266:List Int)(l1270:List (Bool×(List (Int×Int×Int))))(m1274:List (Int×Int))(k1275:Nat)(nx1265:((List Int)×(List (Bool×(List (Int×Int×Int))))×(List (Int×Int))×Nat)→Option (List (Bool×(List (Int×Int×Int))))):Option (List (Bool×(List (Int×Int×Int)))):=
 bif decide (((k1275:Nat):Int)<((l1266.length:Nat):Int))then(AX (idx l1266 ((k1275:Nat):Int)) (fun x1300=>AX (idx a0.2.2.1 x1300) (fun x1303=>AX (idx l1266 ((k1275:Nat):Int)) (fun x1321=>AX (idx a0.2.1 x1321) (fun x1324=>Ax fu (fun p nx=>Cf fu a0 x11 l1270 k1275 nx1265 x1303 x1324 p.1 p.2.1 p.2.2.1 p.2.2.2 nx) (l1266,([]:List (Int×Int×Int)),m1274,0))))))else(some l1270)
def Dc(fu:Nat)(a0:(List Int)×(List (List Int))×(List Bool)×(List Int)):Option (List (Bool×(List (Int×Int×Int)))):=
 AX (EZ fu a0) (fun x11=>AX (idx a0.2.2.2 0) (fun x17=>AX (idx x11 x17) (fun x20=>bif !x20 then(some ([]:List (Bool×(List (Int×Int×Int)))))else(AX (idx a0.2.2.2 0) (fun x29=>A0 (C0 x29) (A0 (([]:List (Int×Int)).length≤AH) (Ax fu (fun p nx=>CF fu a0 x11 p.1 p.2.1 p.2.2.1 p.2.2.2 nx) (([0]:List Int),([]:List (Bool×(List (Int×Int×Int)))),DY ([]:List (Int×Int)) x29 0,0))))))))
def Ci(fu:Nat)(a0:(List Int)×(List (List Int))×(List Bool)×(List Int))(x21:List Int)(l65:Cb)(k70:Nat)(nx64:(Cb×Nat)→Option Cb):Option Cb:=
 bif decide (((k70:Nat):Int)<((x21.length:Nat):Int))then(AX (idx x21 ((k70:Nat):Int)) (fun x80=>AX (idx a0.2.2.2 x80) (fun x83=>A0 (C0 x83) (A0 (([44]:Cb).length+(Lib.itoa x83).length≤AH) (A0 (l65.length+(([44]:Cb)++(Lib.itoa x83)).length≤AH) (nx64 (l65++(([44]:Cb)++(Lib.itoa x83)),k70+1)))))))else(some l65)
def Da(fu:Nat)(a0:(List Int)×(List (List Int))×(List Bool)×(List Int))(a1:Int):Option Cb:=
 AX (idx a0.2.2.2 a1) (fun x11=>A0 (C0 x11) (A0 (([]:Cb).length+(Lib.itoa x11).length≤AH) (AX (idx a0.2.1 a1) (fun x21=>Ax fu (fun p nx=>Ci fu a0 x21 p.1 p.2 nx) (([]:Cb)++(Lib.itoa x11),0)))))
def Cz(fu:Nat)(l365:List Int)(l368:List Int)(k373:Nat)(nx364:((List Int)×(List Int)×(List (Cb×Int))×Nat)→Option ((List Int)×(List (List Int))×(List Bool)×(List Int)))(m390:List (Cb×Int))(i391:Int):Option ((List Int)×(List (List Int))×(List Bool)×(List Int)):=
 AX (idx l368 ((k373:Nat):Int)) (fun x397=>nx364 (l365,l368.set k373 i391,m390,k373+1))
def CA(fu:Nat)(a0:(List Int)×(List (List Int))×(List Bool)×(List Int))(k279:Nat)(nx278:(Nat×(List Int))→Option ((List Int)×(List (List Int))×(List Bool)×(List Int)))(l365:List Int)(l368:List Int)(m372:List (Cb×Int))(k373:Nat)(nx364:((List Int)×(List Int)×(List (Cb×Int))×Nat)→Option ((List Int)×(List (List Int))×(List Bool)×(List Int))):Option ((List Int)×(List (List Int))×(List Bool)×(List Int)):=
 bif decide (((k373:Nat):Int)<((a0.2.1.length:Nat):Int))then(AX (Da fu (a0.1,a0.2.1,a0.2.2.1,l365) ((k373:Nat):Int)) (fun x383=>A0 (x383.length≤AH) (bif !((AQ m372 x383).isSome)then(A0 (x383.length≤AH) (A0 (C0 ((m372.length:Nat):Int)) (A0 (m372.length≤AH) (Cz fu l365 l368 k373 nx364 (DY m372 x383 ((m372.length:Nat):Int)) ((m372.length:Nat):Int)))))else(Cz fu l365 l368 k373 nx364 m372 ((AQ m372 x383).getD 0)))))else(bif decide (((m372.length:Nat):Int)=((k279:Nat):Int))then(some (a0.1,a0.2.1,a0.2.2.1,l368))else(nx278 (m372.length,l368)))
def Db(fu:Nat)(a0:(List Int)×(List (List Int))×(List Bool)×(List Int))(k279:Nat)(l280:List Int)(nx278:(Nat×(List Int))→Option ((List Int)×(List (List Int))×(List Bool)×(List Int))):Option ((List Int)×(List (List Int))×(List Bool)×(List Int)):=
 A0 (a0.2.1.length≤AH) (Ax fu (fun p nx=>CA fu a0 k279 nx278 p.1 p.2.1 p.2.2.1 p.2.2.2 nx) (l280,(List.replicate a0.2.1.length 0:List Int),([]:List (Cb×Int)),0))
def CJ(fu:Nat)(a0:(List Int)×(List (List Int))×(List Bool)×(List Int))(l44:List Int)(k48:Nat)(nx43:((List Int)×Nat)→Option ((List Int)×(List (List Int))×(List Bool)×(List Int))):Option ((List Int)×(List (List Int))×(List Bool)×(List Int)):=
 bif decide (((k48:Nat):Int)<((a0.2.2.1.length:Nat):Int))then(AX (idx a0.2.2.1 ((k48:Nat):Int)) (fun x58=>bif x58 then(AX (idx l44 ((k48:Nat):Int)) (fun x62=>nx43 (l44.set k48 1,k48+1)))else(nx43 (l44,k48+1))))else(Ax fu (fun p nx=>Db fu a0 p.1 p.2 nx) (0,l44))
def Em(fu:Nat)(a0:(List Int)×(List (List Int))×(List Bool)×(List Int)):Option ((List Int)×(List (List Int))×(List Bool)×(List Int)):=
 A0 (a0.2.1.length≤AH) (Ax fu (fun p nx=>CJ fu a0 p.1 p.2 nx) ((List.replicate a0.2.1.length 0:List Int),0))
def EC(fu:Nat)(a0:List (Bool×(List (Int×Int×Int)))):Option ((List (Bool×(List (Int×Int×Int))))×Int):=
 AX (DJ fu a0) (fun x5=>bif !x5 then(some (([]:List (Bool×(List (Int×Int×Int)))),11))else(bif decide (((a0.length:Nat):Int)=0)then(some (([]:List (Bool×(List (Int×Int×Int)))),0))else(AX (GM fu a0) (fun x12=>AX (Em fu x12) (fun x25=>AX (Dc fu x25) (fun x37=>some (x37,0)))))))
def Jl(fu:Nat)(a0:List (Bool×(List (Int×Int×Int)))):Option Bool:=
 AX (EC fu a0) (fun x4=>bif decide (x4.2=0)then(AX (KR fu a0 x4.1) (fun x13=>some x13))else(some false))
def D1(fu:Nat)(k127:Nat)(nx122:((List AD)×Nat)→Option (List AD))(x137:List (AD×Int×Int))(l174:List AD)(k178:Nat)(nx173:((List AD)×Nat)→Option (List AD)):Option (List AD):=
 bif decide (((k178:Nat):Int)<((x137.length:Nat):Int))then(AX (idx x137 ((k178:Nat):Int)) (fun x188=>A0 (l174.length+([x188.1]:List AD).length≤AH) (nx173 (l174++([x188.1]:List AD),k178+1))))else(nx122 (l174,k127+1))
def D2(fu:Nat)(a0:(List (List Int))×(List (List (AD×Int×Int)))×Int)(l123:List AD)(k127:Nat)(nx122:((List AD)×Nat)→Option (List AD)):Option (List AD):=
 bif decide (((k127:Nat):Int)<((a0.2.1.length:Nat):Int))then(AX (idx a0.2.1 ((k127:Nat):Int)) (fun x137=>Ax fu (fun p nx=>D1 fu k127 nx122 x137 p.1 p.2 nx) (l123,0)))else(some l123)
def Fv(fu:Nat)(a0:(List (List Int))×(List (List (AD×Int×Int)))×Int):Option (List AD):=
 Ax fu (fun p nx=>D2 fu a0 p.1 p.2 nx) (([]:List AD),0)
def CR(fu:Nat)(l89:List Bool)(l166:List Int)(k170:Nat)(nx165:((List Int)×Nat)→Option (List Int)):Option (List Int):=
 bif decide (((k170:Nat):Int)<((l89.length:Nat):Int))then(AX (idx l89 ((k170:Nat):Int)) (fun x180=>bif x180 then(A0 (l166.length+([((k170:Nat):Int)]:List Int).length≤AH) (nx165 (l166++([((k170:Nat):Int)]:List Int),k170+1)))else(nx165 (l166,k170+1))))else(some l166)
def DG(fu:Nat)(a0:(List (List Int))×(List (List (AD×Int×Int)))×Int)(l85:List Int)(l89:List Bool)(nx84:((List Int)×(List Bool))→Option (List Int)):Option (List Int):=
 bif decide (0<((l85.length:Nat):Int))then(A0 (C0 (((l85.length:Nat):Int)-1)) (AX (idx l85 (((l85.length:Nat):Int)-1)) (fun x105=>A0 (C0 (((l85.length:Nat):Int)-1)) (A0 (0≤(((l85.length:Nat):Int)-1)∧(((l85.length:Nat):Int)-1)≤((l85.length:Nat):Int)) (AX (idx l89 x105) (fun x114=>bif !x114 then(AX (idx l89 x105) (fun x118=>AX (idx a0.1 x105) (fun x123=>A0 ((l85.take (((l85.length:Nat):Int)-1).toNat).length+x123.length≤AH) (nx84 ((l85.take (((l85.length:Nat):Int)-1).toNat)++x123,l89.set x105.toNat true)))))else(nx84 (l85.take (((l85.length:Nat):Int)-1).toNat,l89))))))))else(Ax fu (fun p nx=>CR fu l89 p.1 p.2 nx) (([]:List Int),0))
def CP(fu:Nat)(a0:(List (List Int))×(List (List (AD×Int×Int)))×Int)(a1:List Int):Option (List Int):=
 A0 (a0.2.1.length≤AH) (Ax fu (fun p nx=>DG fu a0 p.1 p.2 nx) (a1,(List.replicate a0.2.1.length false:List Bool)))
def Hf(fu:Nat)(a0:List Int)(l38:Cb)(k43:Nat)(nx37:(Cb×Nat)→Option Cb):Option Cb:=
 bif decide (((k43:Nat):Int)<((a0.length:Nat):Int))then(AX (idx a0 ((k43:Nat):Int)) (fun x53=>A0 (C0 x53) (A0 ((Lib.itoa x53).length+([44]:Cb).length≤AH) (A0 (l38.length+((Lib.itoa x53)++([44]:Cb)).length≤AH) (nx37 (l38++((Lib.itoa x53)++([44]:Cb)),k43+1))))))else(some l38)
def Kf(fu:Nat)(a0:List Int):Option Cb:=
 Ax fu (fun p nx=>Hf fu a0 p.1 p.2 nx) (([]:Cb),0)
def Dd(fu:Nat)(x3099:AD)(k3337:Nat)(nx3328:((List Int)×(List Int)×Nat)→Option Bool)(x3350:List (AD×Int×Int))(l3416:List Int)(l3420:List Int)(k3424:Nat)(nx3415:((List Int)×(List Int)×Nat)→Option Bool):Option Bool:=
 bif decide (((k3424:Nat):Int)<((x3350.length:Nat):Int))then(AX (idx x3350 ((k3424:Nat):Int)) (fun x3434=>bif x3434.1 (((De x3099:Nat):Int)).toNat then(A0 (l3416.length+([x3434.2.2]:List Int).length≤AH) (A0 (l3420.length+([x3434.2.1]:List Int).length≤AH) (nx3415 (l3416++([x3434.2.2]:List Int),l3420++([x3434.2.1]:List Int),k3424+1))))else(nx3415 (l3416,l3420,k3424+1))))else(nx3328 (l3416,l3420,k3337+1))
def CN(fu:Nat)(a0:(List (List Int))×(List (List (AD×Int×Int)))×Int)(l3084:List (List Int))(m3088:List (Cb×Bool))(k3089:Nat)(nx3083:((List (List Int))×(List (Cb×Bool))×Nat)→Option Bool)(x3099:AD)(x3105:List Int)(l3329:List Int)(l3333:List Int)(k3337:Nat)(nx3328:((List Int)×(List Int)×Nat)→Option Bool):Option Bool:=
 bif decide (((k3337:Nat):Int)<((x3105.length:Nat):Int))then(AX (idx x3105 ((k3337:Nat):Int)) (fun x3347=>AX (idx a0.2.1 x3347) (fun x3350=>Ax fu (fun p nx=>Dd fu x3099 k3337 nx3328 x3350 p.1 p.2.1 p.2.2 nx) (l3329,l3333,0))))else(A0 (l3329.length≤AH) (AX (Kf fu (CD l3329)) (fun x3467=>bif decide ((((CD l3329).length:Nat):Int)=0)then(nx3083 (l3084,m3088,k3089+1))else(A0 (x3467.length≤AH) (bif (AQ m3088 x3467).getD false then(nx3083 (l3084,m3088,k3089+1))else(bif decide (((m3088.length:Nat):Int)=500)then(some true)else(A0 (x3467.length≤AH) (A0 (m3088.length≤AH) (AX (CP fu a0 l3333) (fun x3476=>A0 (l3084.length+([x3476]:List (List Int)).length≤AH) (nx3083 (l3084++([x3476]:List (List Int)),DY m3088 x3467 true,k3089+1))))))))))))
def CO(fu:Nat)(a0:(List (List Int))×(List (List (AD×Int×Int)))×Int)(x5:List AD)(k2316:Nat)(nx2310:((List (List Int))×(List (Cb×Bool))×Nat)→Option Bool)(l3084:List (List Int))(m3088:List (Cb×Bool))(k3089:Nat)(nx3083:((List (List Int))×(List (Cb×Bool))×Nat)→Option Bool):Option Bool:=
 bif decide (((k3089:Nat):Int)<(((BH x5).length:Nat):Int))then(AX (idx (BH x5) ((k3089:Nat):Int)) (fun x3099=>AX (idx l3084 ((k2316:Nat):Int)) (fun x3105=>Ax fu (fun p nx=>CN fu a0 l3084 m3088 k3089 nx3083 x3099 x3105 p.1 p.2.1 p.2.2 nx) (([]:List Int),([]:List Int),0))))else(nx2310 (l3084,m3088,k2316+1))
def D3(fu:Nat)(a0:(List (List Int))×(List (List (AD×Int×Int)))×Int)(x5:List AD)(l2311:List (List Int))(m2315:List (Cb×Bool))(k2316:Nat)(nx2310:((List (List Int))×(List (Cb×Bool))×Nat)→Option Bool):Option Bool:=
 bif decide (((k2316:Nat):Int)<((l2311.length:Nat):Int))then(Ax fu (fun p nx=>CO fu a0 x5 k2316 nx2310 p.1 p.2.1 p.2.2 nx) (l2311,m2315,0))else(some false)
def Ea(fu:Nat)(a0:(List (List Int))×(List (List (AD×Int×Int)))×Int)(a1:Int):Option Bool:=
 AX (Fv fu a0) (fun x5=>A0 (x5.length≤4294967296) (AX (CP fu a0 ([a1]:List Int)) (fun x20=>Ax fu (fun p nx=>D3 fu a0 x5 p.1 p.2.1 p.2.2 nx) (([x20]:List (List Int)),([]:List (Cb×Bool)),0))))
def Dh(fu:Nat)(a0:List Int)(a1:Int)(k17:Nat)(nx16:Nat→Option Int):Option Int:=
 bif decide (((k17:Nat):Int)<((a0.length:Nat):Int))then(AX (idx a0 ((k17:Nat):Int)) (fun x27=>bif decide (a1=x27)then(some ((k17:Nat):Int))else(nx16 (k17+1))))else(some (-1))
def GZ(fu:Nat)(a0:List Int)(a1:Int):Option Int:=
 Ax fu (Dh fu a0 a1) 0
def Ef(fu:Nat)(a0:List Int)(a1:Int):Option Bool:=
 AX (GZ fu a0 a1) (fun x3=>some (decide (0≤x3)))
def B9(fu:Nat)(x2646:AD)(k2790:Nat)(nx2785:((List Int)×Nat)→Option (List (Bool×(List (Int×Int×Int)))))(x2803:List (AD×Int×Int))(l2843:List Int)(k2847:Nat)(nx2842:((List Int)×Nat)→Option (List (Bool×(List (Int×Int×Int))))):Option (List (Bool×(List (Int×Int×Int)))):=
 bif decide (((k2847:Nat):Int)<((x2803.length:Nat):Int))then(AX (idx x2803 ((k2847:Nat):Int)) (fun x2857=>bif x2857.1 (((De x2646:Nat):Int)).toNat then(A0 (l2843.length+([x2857.2.1]:List Int).length≤AH) (nx2842 (l2843++([x2857.2.1]:List Int),k2847+1)))else(nx2842 (l2843,k2847+1))))else(nx2785 (l2843,k2790+1))
def Ct(fu:Nat)(l2631:List (AD×Int))(k2636:Nat)(nx2626:((List (List Int))×(List (AD×Int))×(List (Cb×Int))×Nat)→Option (List (Bool×(List (Int×Int×Int)))))(x2646:AD)(x2877:Cb)(l2892:List (List Int))(m2896:List (Cb×Int)):Option (List (Bool×(List (Int×Int×Int)))):=
 A0 (x2877.length≤AH) (A0 (l2631.length+([(x2646,(AQ m2896 x2877).getD 0)]:List (AD×Int)).length≤AH) (nx2626 (l2892,l2631++([(x2646,(AQ m2896 x2877).getD 0)]:List (AD×Int)),m2896,k2636+1)))
def B_(fu:Nat)(a0:(List (List Int))×(List (List (AD×Int×Int)))×Int)(l2627:List (List Int))(l2631:List (AD×Int))(m2635:List (Cb×Int))(k2636:Nat)(nx2626:((List (List Int))×(List (AD×Int))×(List (Cb×Int))×Nat)→Option (List (Bool×(List (Int×Int×Int)))))(x2646:AD)(x2651:List Int)(l2786:List Int)(k2790:Nat)(nx2785:((List Int)×Nat)→Option (List (Bool×(List (Int×Int×Int))))):Option (List (Bool×(List (Int×Int×Int)))):=
 bif decide (((k2790:Nat):Int)<((x2651.length:Nat):Int))then(AX (idx x2651 ((k2790:Nat):Int)) (fun x2800=>AX (idx a0.2.1 x2800) (fun x2803=>Ax fu (fun p nx=>B9 fu x2646 k2790 nx2785 x2803 p.1 p.2 nx) (l2786,0))))else(bif decide (((l2786.length:Nat):Int)=0)then(nx2626 (l2627,l2631,m2635,k2636+1))else(AX (CP fu a0 l2786) (fun x2871=>AX (Kf fu x2871) (fun x2877=>A0 (x2877.length≤AH) (bif !((AQ m2635 x2877).isSome)then(A0 (x2877.length≤AH) (A0 (C0 ((l2627.length:Nat):Int)) (A0 (m2635.length≤AH) (A0 (l2627.length+([x2871]:List (List Int)).length≤AH) (Ct fu l2631 k2636 nx2626 x2646 x2877 (l2627++([x2871]:List (List Int))) (DY m2635 x2877 ((l2627.length:Nat):Int)))))))else(Ct fu l2631 k2636 nx2626 x2646 x2877 l2627 m2635))))))
def B8(fu:Nat)(k3088:Nat)(nx3083:((List (Int×Int×Int))×Nat)→Option (List (Bool×(List (Int×Int×Int)))))(x3098:AD×Int)(l3148:List (Int×Int×Int))(k3152:Nat)(nx3147:((List (Int×Int×Int))×Nat)→Option (List (Bool×(List (Int×Int×Int))))):Option (List (Bool×(List (Int×Int×Int)))):=
 bif decide (((k3152:Nat):Int)<(((Py x3098.1).length:Nat):Int))then(AX (idx (Py x3098.1) ((k3152:Nat):Int)) (fun x3162=>A0 (l3148.length+([(x3162.1,x3162.2,x3098.2)]:List (Int×Int×Int)).length≤AH) (nx3147 (l3148++([(x3162.1,x3162.2,x3098.2)]:List (Int×Int×Int)),k3152+1))))else(nx3083 (l3148,k3088+1))
def Cu(fu:Nat)(l2102:List (Bool×(List (Int×Int×Int))))(k2107:Nat)(nx2097:((List (List Int))×(List (Bool×(List (Int×Int×Int))))×(List (Cb×Int))×Nat)→Option (List (Bool×(List (Int×Int×Int)))))(l2627:List (List Int))(l2631:List (AD×Int))(m2635:List (Cb×Int))(x2927:Bool)(l3084:List (Int×Int×Int))(k3088:Nat)(nx3083:((List (Int×Int×Int))×Nat)→Option (List (Bool×(List (Int×Int×Int))))):Option (List (Bool×(List (Int×Int×Int)))):=
 bif decide (((k3088:Nat):Int)<((l2631.length:Nat):Int))then(AX (idx l2631 ((k3088:Nat):Int)) (fun x3098=>Ax fu (fun p nx=>B8 fu k3088 nx3083 x3098 p.1 p.2 nx) (l3084,0)))else(A0 (On FK l3084) (A0 (l3084.length≤AH) (A0 (l2102.length+([(x2927,EV FK l3084)]:List (Bool×(List (Int×Int×Int)))).length≤AH) (nx2097 (l2627,l2102++([(x2927,EV FK l3084)]:List (Bool×(List (Int×Int×Int)))),m2635,k2107+1)))))
def B'(fu:Nat)(a0:(List (List Int))×(List (List (AD×Int×Int)))×Int)(a2:Int)(x6:List AD)(l2102:List (Bool×(List (Int×Int×Int))))(k2107:Nat)(nx2097:((List (List Int))×(List (Bool×(List (Int×Int×Int))))×(List (Cb×Int))×Nat)→Option (List (Bool×(List (Int×Int×Int)))))(l2627:List (List Int))(l2631:List (AD×Int))(m2635:List (Cb×Int))(k2636:Nat)(nx2626:((List (List Int))×(List (AD×Int))×(List (Cb×Int))×Nat)→Option (List (Bool×(List (Int×Int×Int))))):Option (List (Bool×(List (Int×Int×Int)))):=
 bif decide (((k2636:Nat):Int)<(((BH x6).length:Nat):Int))then(AX (idx (BH x6) ((k2636:Nat):Int)) (fun x2646=>AX (idx l2627 ((k2107:Nat):Int)) (fun x2651=>Ax fu (fun p nx=>B_ fu a0 l2627 l2631 m2635 k2636 nx2626 x2646 x2651 p.1 p.2 nx) (([]:List Int),0))))else(AX (idx l2627 ((k2107:Nat):Int)) (fun x2922=>AX (Ef fu x2922 a2) (fun x2927=>Ax fu (fun p nx=>Cu fu l2102 k2107 nx2097 l2627 l2631 m2635 x2927 p.1 p.2 nx) (([]:List (Int×Int×Int)),0))))
def CX(fu:Nat)(a0:(List (List Int))×(List (List (AD×Int×Int)))×Int)(a2:Int)(x6:List AD)(l2098:List (List Int))(l2102:List (Bool×(List (Int×Int×Int))))(m2106:List (Cb×Int))(k2107:Nat)(nx2097:((List (List Int))×(List (Bool×(List (Int×Int×Int))))×(List (Cb×Int))×Nat)→Option (List (Bool×(List (Int×Int×Int))))):Option (List (Bool×(List (Int×Int×Int)))):=
 bif decide (((k2107:Nat):Int)<((l2098.length:Nat):Int))then(Ax fu (fun p nx=>B' fu a0 a2 x6 l2102 k2107 nx2097 p.1 p.2.1 p.2.2.1 p.2.2.2 nx) (l2098,([]:List (AD×Int)),m2106,0))else(some l2102)
def C8(fu:Nat)(a0:(List (List Int))×(List (List (AD×Int×Int)))×Int)(a1:Int)(a2:Int):Option (List (Bool×(List (Int×Int×Int)))):=
 AX (Fv fu a0) (fun x6=>A0 (x6.length≤4294967296) (AX (CP fu a0 ([a1]:List Int)) (fun x20=>AX (idx ([x20]:List (List Int)) 0) (fun x30=>AX (Kf fu x30) (fun x35=>A0 (x35.length≤AH) (A0 (([]:List (Cb×Int)).length≤AH) (Ax fu (fun p nx=>CX fu a0 a2 x6 p.1 p.2.1 p.2.2.1 p.2.2.2 nx) (([x20]:List (List Int)),([]:List (Bool×(List (Int×Int×Int)))),DY ([]:List (Cb×Int)) x35 0,0))))))))
def E'(fu:Nat)(a0:Rx)(a1:Int)(slf:Rx→Int→Option Int)(k57:Nat)(nx56:Nat→Option Int):Option Int:=
 bif decide (((k57:Nat):Int)<((a0.AL.length:Nat):Int))then(AX (idx a0.AL ((k57:Nat):Int)) (fun x67=>A0 (C0 (a1+1)) (AX (slf x67 (a1+1)) (fun x76=>bif decide (x76≠0)then(some x76)else(nx56 (k57+1))))))else(some 0)
def DA(fu:Nat)(a0:Rx)(a1:Int)(slf:Rx→Int→Option Int):Option Int:=
 Ax fu (E' fu a0 a1 slf) 0
def Dz(fu:Nat)(a0:Rx)(a1:Int)(slf:Rx→Int→Option Int)(b80:Bool):Option Int:=
 bif b80 then(bif decide (((a0.AL.length:Nat):Int)<2)then(some 2)else(DA fu a0 a1 slf))else(bif decide (a0.kind=5)then(bif decide (((a0.AL.length:Nat):Int)≠1)then(some 2)else(DA fu a0 a1 slf))else(bif decide (((a0.AL.length:Nat):Int)≠0)then(some 2)else(DA fu a0 a1 slf)))
def HF(fu:Nat)(a0:Rx)(a1:Int)(slf:Rx→Int→Option Int)(k140:Nat)(nx139:Nat→Option Int):Option Int:=
 bif decide (((k140:Nat):Int)<((a0.AL.length:Nat):Int))then(AX (idx a0.AL ((k140:Nat):Int)) (fun x150=>A0 (C0 (a1+1)) (AX (slf x150 (a1+1)) (fun x159=>bif decide (x159≠0)then(some x159)else(nx139 (k140+1))))))else(some 0)
def Gu(fu:Nat)(a0:Rx)(a1:Int)(slf:Rx→Int→Option Int):Option Int:=
 Ax fu (HF fu a0 a1 slf) 0
def Gt(fu:Nat)(a0:Rx)(a1:Int)(slf:Rx→Int→Option Int)(b163:Bool):Option Int:=
 bif b163 then(bif decide (((a0.AL.length:Nat):Int)<2)then(some 2)else(Gu fu a0 a1 slf))else(bif decide (a0.kind=5)then(bif decide (((a0.AL.length:Nat):Int)≠1)then(some 2)else(Gu fu a0 a1 slf))else(bif decide (((a0.AL.length:Nat):Int)≠0)then(some 2)else(Gu fu a0 a1 slf)))
def CM(fu:Nat)(slf:Rx→Int→Option Int)(a0:Rx)(a1:Int):Option Int:=
 bif decide (16<a1)then(some 9)else(bif decide (a0.kind<0)then(some 11)else(bif decide (5<a0.kind)then(some 11)else(bif decide (a0.kind≠2)then(bif !MZ a0.set (fun _=>false)then(some 11)else(bif decide (a0.kind=3)then(Dz fu a0 a1 slf (decide (a0.kind=3)))else(Dz fu a0 a1 slf (decide (a0.kind=4)))))else(bif decide (a0.kind=3)then(Gt fu a0 a1 slf (decide (a0.kind=3)))else(Gt fu a0 a1 slf (decide (a0.kind=4)))))))
def CT:Nat→Rx→Int→Option Int
 |0,_,_=>none
 |fu+1,a0,a1=>CM fu (CT fu) a0 a1
def Ie(fu:Nat)(a0:Rx):Option Int:=
 AX (CT fu a0 1) (fun x4=>some x4)
def BO(fu:Nat)(a1:Rx)(a2:Int)(a3:Int)(slf:((List (List Int))×(List (List (AD×Int×Int)))×Int)→Rx→Int→Int→Option ((List (List Int))×(List (List (AD×Int×Int)))×Int))(d119:List (List Int))(e120:List (List (AD×Int×Int)))(k127:Nat)(i128:Int)(nx118:((List (List Int))×(List (List (AD×Int×Int)))×Nat×Int)→Option ((List (List Int))×(List (List (AD×Int×Int)))×Int)):Option ((List (List Int))×(List (List (AD×Int×Int)))×Int):=
 bif decide (((k127:Nat):Int)<((a1.AL.length:Nat):Int))then(AX (idx a1.AL ((k127:Nat):Int)) (fun x138=>AX (slf (d119,e120,i128) x138 a2 a3) (fun x146=>nx118 (x146.1,x146.2.1,k127+1,x146.2.2))))else(some (d119,e120,i128))
def C3(fu:Nat)(slf:((List (List Int))×(List (List (AD×Int×Int)))×Int)→Rx→Int→Int→Option ((List (List Int))×(List (List (AD×Int×Int)))×Int))(i266:Int)(k267:Nat)(i268:Int)(nx257:((List (List Int))×(List (List (AD×Int×Int)))×Int×Nat×Int)→Option ((List (List Int))×(List (List (AD×Int×Int)))×Int))(x278:Rx)(d296:List (List Int))(e297:List (List (AD×Int×Int)))(i304:Int):Option ((List (List Int))×(List (List (AD×Int×Int)))×Int):=
 AX (slf (d296,e297,i268) x278 i266 i304) (fun x310=>nx257 (x310.1,x310.2.1,i304,k267+1,x310.2.2))
def BN(fu:Nat)(a1:Rx)(a3:Int)(slf:((List (List Int))×(List (List (AD×Int×Int)))×Int)→Rx→Int→Int→Option ((List (List Int))×(List (List (AD×Int×Int)))×Int))(d258:List (List Int))(e259:List (List (AD×Int×Int)))(i266:Int)(k267:Nat)(i268:Int)(nx257:((List (List Int))×(List (List (AD×Int×Int)))×Int×Nat×Int)→Option ((List (List Int))×(List (List (AD×Int×Int)))×Int)):Option ((List (List Int))×(List (List (AD×Int×Int)))×Int):=
 bif decide (((k267:Nat):Int)<((a1.AL.length:Nat):Int))then(AX (idx a1.AL ((k267:Nat):Int)) (fun x278=>bif decide ((((k267:Nat):Int)+1)<((a1.AL.length:Nat):Int))then(A0 (d258.length+1≤AH) (A0 (e259.length+1≤AH) (C3 fu slf i266 k267 i268 nx257 x278 (d258++[[]]) (e259++[[]]) ((e259.length:Nat):Int))))else(C3 fu slf i266 k267 i268 nx257 x278 d258 e259 a3)))else(some (d258,e259,i268))
def DK(fu:Nat)(slf:((List (List Int))×(List (List (AD×Int×Int)))×Int)→Rx→Int→Int→Option ((List (List Int))×(List (List (AD×Int×Int)))×Int))(a0:(List (List Int))×(List (List (AD×Int×Int)))×Int)(a1:Rx)(a2:Int)(a3:Int):Option ((List (List Int))×(List (List (AD×Int×Int)))×Int):=
 bif decide (a1.kind=1)then(AX (idx a0.1 a2) (fun x6=>A0 (x6.length+([a3]:List Int).length≤AH) (some ((List.set a0.1 (Int.toNat a2) (x6++([a3]:List Int))),a0.2.1,a0.2.2))))else(bif decide (a1.kind=2)then(AX (idx a0.2.1 a2) (fun x37=>A0 (x37.length+([(a1.set,a3,a0.2.2)]:List (AD×Int×Int)).length≤AH) (A0 (C0 (a0.2.2+1)) (some (a0.1,(List.set a0.2.1 (Int.toNat a2) (x37++([(a1.set,a3,a0.2.2)]:List (AD×Int×Int)))),a0.2.2+1)))))else(bif decide (a1.kind=4)then(Ax fu (fun p nx=>BO fu a1 a2 a3 slf p.1 p.2.1 p.2.2.1 p.2.2.2 nx) (a0.1,a0.2.1,0,a0.2.2))else(bif decide (a1.kind=3)then(Ax fu (fun p nx=>BN fu a1 a3 slf p.1 p.2.1 p.2.2.1 p.2.2.2.1 p.2.2.2.2 nx) (a0.1,a0.2.1,a2,0,a0.2.2))else(bif decide (a1.kind=5)then(A0 (a0.1.length+1≤AH) (A0 (a0.2.1.length+1≤AH) (AX (idx (a0.1++[[]]) a2) (fun x339=>A0 (x339.length+([((a0.2.1.length:Nat):Int)]:List Int).length≤AH) (AX (idx (List.set (a0.1++[[]]) (Int.toNat a2) (x339++([((a0.2.1.length:Nat):Int)]:List Int))) ((a0.2.1.length:Nat):Int)) (fun x369=>A0 (x369.length+([a3]:List Int).length≤AH) (AX (idx a1.AL 0) (fun x398=>AX (slf ((List.set (List.set (a0.1++[[]]) (Int.toNat a2) (x339++([((a0.2.1.length:Nat):Int)]:List Int))) a0.2.1.length (x369++([a3]:List Int))),(a0.2.1++[[]]),a0.2.2) x398 ((a0.2.1.length:Nat):Int) ((a0.2.1.length:Nat):Int)) (fun x404=>some (x404.1,x404.2.1,x404.2.2))))))))))else(some (a0.1,a0.2.1,a0.2.2))))))
def Cr:Nat→((List (List Int))×(List (List (AD×Int×Int)))×Int)→Rx→Int→Int→Option ((List (List Int))×(List (List (AD×Int×Int)))×Int)
 |0,_,_,_,_=>none
 |fu+1,a0,a1,a2,a3=>DK fu (Cr fu) a0 a1 a2 a3
def KS(fu:Nat)(a0:Rx):Option ((List (Bool×(List (Int×Int×Int))))×Int):=
 AX (Ie fu a0) (fun x6=>bif decide (x6≠0)then(some (([]:List (Bool×(List (Int×Int×Int)))),x6))else(A0 (([]:List (List Int)).length+1≤AH) (A0 (([]:List (List (AD×Int×Int))).length+1≤AH) (A0 ((([]:List (List Int))++[[]]).length+1≤AH) (A0 ((([]:List (List (AD×Int×Int)))++[[]]).length+1≤AH) (AX (Cr fu (((([]:List (List Int))++[[]])++[[]]),((([]:List (List (AD×Int×Int)))++[[]])++[[]]),0) a0 ((([]:List (List (AD×Int×Int))).length:Nat):Int) (((([]:List (List (AD×Int×Int)))++[[]]).length:Nat):Int)) (fun x29=>AX (Ea fu x29 ((([]:List (List (AD×Int×Int))).length:Nat):Int)) (fun x55=>bif x55 then(some (([]:List (Bool×(List (Int×Int×Int)))),10))else(AX (C8 fu x29 ((([]:List (List (AD×Int×Int))).length:Nat):Int) (((([]:List (List (AD×Int×Int)))++[[]]).length:Nat):Int)) (fun x59=>AX (EC fu x59) (fun x65=>bif decide (200<((x65.1.length:Nat):Int))then(some (([]:List (Bool×(List (Int×Int×Int)))),10))else(some (x65.1,0)))))))))))))
def Fx(fu:Nat)(a0:Int)(i26:Int)(w28:BitVec 64)(nx25:(Int×(BitVec 64))→Option Rx):Option Rx:=
 bif decide (i26≤a0)then(bif decide (i26<104)then(A0 (F8 (i26-64)) (A0 (F8 (i26+1)) (nx25 (i26+1,w28+((1#64)<<<(i26-64).toNat)))))else(some (Rx.mk 2 (bitsOf (word (fun _=>false) 0) w28 (word (fun _=>false) 2) (word (fun _=>false) 3)) ([]:List Rx))))else(some (Rx.mk 2 (bitsOf (word (fun _=>false) 0) w28 (word (fun _=>false) 2) (word (fun _=>false) 3)) ([]:List Rx)))
def HE(fu:Nat)(a0:Int):Option Rx:=
 Ax fu (fun p nx=>Fx fu a0 p.1 p.2 nx) (97,word (fun _=>false) 1)
def FV(fu:Nat):Option Bool:=
 AX (HE fu 97) (fun x29=>AX (KS fu (Rx.mk 4 (fun _=>false) ([x29,(Rx.mk 2 (bitsOf (word (fun _=>false) 0) (17179869184#64) (word (fun _=>false) 2) (word (fun _=>false) 3)) ([]:List Rx))]:List Rx))) (fun x34=>AX (HE fu 98) (fun x46=>AX (KS fu x46) (fun x52=>AX (EC fu ([(false,([]:List (Int×Int×Int)))]:List (Bool×(List (Int×Int×Int))))) (fun x69=>AX (EC fu ([(false,([(2,1,0)]:List (Int×Int×Int)))]:List (Bool×(List (Int×Int×Int))))) (fun x95=>bif decide (x34.2≠0)then(some false)else(bif decide (x52.2≠0)then(some false)else(AX (GC fu x34.1 ([(false,([(97,98,1)]:List (Int×Int×Int))),(true,([]:List (Int×Int×Int)))]:List (Bool×(List (Int×Int×Int))))) (fun x147=>bif !x147 then(some false)else(AX (GC fu x52.1 ([(false,([(97,98,1)]:List (Int×Int×Int))),(true,([]:List (Int×Int×Int)))]:List (Bool×(List (Int×Int×Int))))) (fun x150=>bif !x150 then(some false)else(bif decide (x69.2≠0)then(some false)else(bif decide (((x69.1.length:Nat):Int)≠0)then(some false)else(bif decide (x95.2≠11)then(some false)else(AX (Ry fu) (fun x284=>AX (GC fu x284 ([(true,([(0,255,0)]:List (Int×Int×Int)))]:List (Bool×(List (Int×Int×Int))))) (fun x288=>bif x288 then(AX (Po fu ([97,98]:Cb)) (fun x291=>bif decide (((x291.length:Nat):Int)=3)then(AX (HB fu x34.1 ([98]:Cb)) (fun x297=>bif x297 then(AX (HB fu x34.1 ([99]:Cb)) (fun x300=>bif !x300 then(AX (HB fu x34.1 ([]:Cb)) (fun x303=>bif !x303 then(AX (Jl fu ([(false,([(97,98,1)]:List (Int×Int×Int))),(true,([]:List (Int×Int×Int)))]:List (Bool×(List (Int×Int×Int))))) (fun x306=>bif x306 then(AX (Jl fu ([]:List (Bool×(List (Int×Int×Int))))) (fun x310=>bif x310 then(AX (Jl fu ([(false,([]:List (Int×Int×Int)))]:List (Bool×(List (Int×Int×Int))))) (fun x316=>some (!x316)))else(some false)))else(some false)))else(some false)))else(some false)))else(some false)))else(some false)))else(some false))))))))))))))))))
end Go.GK
