/- Part 3 of the texts of this claim: what its theorem leans on. -/
import Derived.Test.YtjmbmodmepdmjabGreatDoorZAutomatonMatches2
import Derived.Shelf.Slices.In.SortNone
set_option maxRecDepth 100000
set_option maxHeartbeats 4000000
namespace Go.Proofs.YtjmbmodmepdmjabGreatDoor
open Go.GK Go.Proofs Go.Shelf Go.Sort
variable {H : Hp} {O : List A2}
theorem Yd:∃j,Tryz.prog.info? 112=some j∧j.size≠0:=by
 have h:(Tryz.prog.info? 112).map (fun j=>j.size)=some 2:=by kernel_rfl
 cases hj:Tryz.prog.info? 112 with
 |none=>rw[hj]at h;cases h
 |some j=>rw[hj]at h;simp at h;exact⟨j,rfl,by omega⟩
theorem Uj{B:Nat}{v:Value} :Eg Tryz.prog 74 [ptr B 0] H (.Az B (.cells #[.pointer none,v] 112 (0,0))::O) (fun r H' O'=> .tuple #[]=r∧ .Az B (.cells #[ptr B 0,v] 112 (0,0))::O=O'):=by
 obtain⟨j,hj,hj0⟩:=Yd
 intro w hs
 refine Bo Tryz.func74 rf rf rf ?_ hs
 clear hs w
 refine Wp.seq ?_
 refine Wp.region ?_
 refine Aa.op (Ab.move rf) rf ?_
 refine Aa.op (Ab.nilCheck rf) rf ?_
 refine Aa.op (Ab.A6 (o':=0) KN rf rf) rf ?_
 refine Aa.op (Ab.Am (i:=0) (v:= .pointer none) Tryz.underlying109 rf rf rf rf) rf ?_
 refine Aa.op (Ab.Yl Tryz.underlying109 hj rf rf) rf ?_
 refine Aa.nil ?_
 refine At.Ae ?_
 refine Wp.EY rf ?_
 refine Wp.region ?_
 refine Aa.op (Ab.move rf) rf ?_
 refine Aa.op (Ab.move rf) rf ?_
 refine Aa.op (Ab.Su (i:=0) Tryz.underlying109 Tryz.underlying147 hj hj0 rf rf (Nat.le_of_ble_eq_true rf)) rf ?_
 refine Aa.op (Ab.Td Tryz.func90 (by kernel_rfl) (by kernel_rfl) (by kernel_rfl) (by kernel_rfl) rf) rf ?_
 refine Aa.op (Ab.S4 (i:=0) Tryz.underlying147 Tryz.underlying109 hj rf rf (by kernel_rfl)) rf ?_
 refine Aa.op (Ab.nilCheck rf) rf ?_
 refine Aa.op (Ab.A6 (o':=0) KN rf rf) rf ?_
 refine Aa.Dc (i:=0) rf rf rf XL rf (Nat.le_of_ble_eq_true rf) ?_
 refine Aa.nil ?_
 exact At.IH rf (fun w hs=>⟨_,_,_,rf,Hp.le.refl _,hs,rf,rf⟩)
theorem R5{B:Nat}{v:Value} :Eg Tryz.prog 74 [ptr B 0] H (.Az B (.cells #[ptr B 0,v] 112 (0,0))::O) (fun r H' O'=> .tuple #[]=r∧ .Az B (.cells #[ptr B 0,v] 112 (0,0))::O=O'):=by
 obtain⟨j,hj,hj0⟩:=Yd
 intro w hs
 refine Bo Tryz.func74 rf rf rf ?_ hs
 clear hs w
 refine Wp.seq ?_
 refine Wp.region ?_
 refine Aa.op (Ab.move rf) rf ?_
 refine Aa.op (Ab.nilCheck rf) rf ?_
 refine Aa.op (Ab.A6 (o':=0) KN rf rf) rf ?_
 refine Aa.op (Ab.Am (i:=0) (v:=ptr B 0) Tryz.underlying109 rf rf rf rf) rf ?_
 refine Aa.op (Ab.W9 Tryz.underlying109 hj rf rf) rf ?_
 refine Aa.nil ?_
 refine At.Ae ?_
 refine Wp.Hd rf ?_
 refine Wp.seq ?_
 refine Wp.region ?_
 refine Aa.op (Ab.move rf) rf ?_
 refine Aa.op (Ab.nilCheck rf) rf ?_
 refine Aa.op (Ab.A6 (o':=0) KN rf rf) rf ?_
 refine Aa.op (Ab.Am (i:=0) (v:=ptr B 0) Tryz.underlying109 rf rf rf rf) rf ?_
 refine Aa.op (Ab.move rf) rf ?_
 refine Aa.op (Ab.WR Tryz.underlying109 hj rf rf) rf ?_
 refine Aa.nil ?_
 refine At.Ae ?_
 refine Wp.Hd rf ?_
 refine Wp.skip ?_
 exact At.IH rf (fun w hs=>⟨_,_,_,rf,Hp.le.refl _,hs,rf,rf⟩)
theorem Zu{B:Nat}{a v:Value}(ha:a= .pointer none∨a=ptr B 0):Eg Tryz.prog 74 [ptr B 0] H (.Az B (.cells #[a,v] 112 (0,0))::O) (fun r H' O'=> .tuple #[]=r∧ .Az B (.cells #[ptr B 0,v] 112 (0,0))::O=O'):=by
 rcases ha with rfl|rfl
 ·exact Uj
 ·exact R5
theorem Zs{B:Nat}{a v:Value}{l s:BF}{xs:List Value}(ha:a= .pointer none∨a=ptr B 0)(hL:Ap Sf H l xs)(hv:v= .slice none 0 0∨l≠ [])(hb:l.length+s.length≤AJ):
  Eg Tryz.prog 55 [ptr B 0,sv s] H (.Az B (.cells #[a,v] 112 (0,0)):: .row v 5 1 l.length xs::O) (fun r H' O'=> ∃v' xs', .tuple #[.int .i64 ((s.length:Nat):Int), .nilIface]=r∧(v'= .slice none 0 0∨l++s≠ [])∧Ap Sf H' (l++s) xs'∧ .Az B (.cells #[ptr B 0,v'] 112 (0,0)):: .row v' 5 1 (l++s).length xs'::O=O'):=by
 intro w hs
 refine Bo Tryz.func55 rf rf rf ?_ hs
 clear hs w
 refine Wp.seq ?_
 refine Wp.region ?_
 refine Aa.op (Ab.assign rf) rf ?_
 refine Aa.op (Ab.assign rf) rf ?_
 refine Aa.nil ?_
 refine At.Ae ?_
 refine Wp.seq ?_
 refine Wp.region ?_
 refine Aa.op (Ab.move rf) rf ?_
 refine Aa.Fi (Bc.call Yn rf (Zu ha)) rf ?_
 rintro _ H1 _ hl1 ⟨rfl,rfl⟩
 refine Aa.nil ?_
 refine At.Ae ?_
 refine Wp.seq ?_
 refine Wp.region ?_
 refine Aa.op (Ab.move rf) rf ?_
 refine Aa.op (Ab.move rf) rf ?_
 refine Aa.op (Ab.nilCheck rf) rf ?_
 refine Aa.op (Ab.A6 (o':=1) Iv rf rf) rf ?_
 refine Aa.op (Ab.Am (i:=0) (v:=v) Tryz.underlying110 rf rf rf rf) rf ?_
 refine Aa.op (Ab.move rf) rf ?_
 refine Aa.PY 1 Tryz.underlying110 Tryz.underlying9 V5 rf rf rf (hL.mono hl1) hv hb rf fun v' xs' hv' hL'=>?_
 refine Aa.op (Ab.nilCheck rf) rf ?_
 refine Aa.op (Ab.A6 (o':=1) Iv rf rf) rf ?_
 refine Aa.BU (i:=1) rf fun h1=>?_
 refine Aa.Dc (i:=0) rf rf h1 XK rf (Nat.le_of_ble_eq_true rf) ?_
 refine Aa.nil ?_
 refine At.Ae ?_
 refine Wp.seq ?_
 refine Wp.region ?_
 refine Aa.op (Ab.move rf) rf ?_
 refine Aa.op (Ab.Tu Tryz.underlying9 rf) rf ?_
 refine Aa.op (Ab.assign rf) rf ?_
 refine Aa.op (Ab.assign rf) rf ?_
 refine Aa.nil ?_
 refine At.Ae ?_
 refine Wp.ret ?_
 exact At.Mj rf (RV.tmp rf) (RV.tmp rf) (fun w hs=>⟨_,_,_,rf,hl1,hs,v',xs',rf,hv',hL',rf⟩)
theorem Ui{B:Nat}{a:Value} :Eg Tryz.prog 57 [ptr B 0] H (.Az B (.cells #[a, .slice none 0 0] 112 (0,0))::O) (fun r H' O'=>sv []=r∧O=O'):=by
 intro w hs
 refine Bo Tryz.func57 rf rf rf ?_ hs
 clear hs w
 refine Wp.seq ?_
 refine Wp.region ?_
 refine Aa.op (Ab.assign rf) rf ?_
 refine Aa.nil ?_
 refine At.Ae ?_
 refine Wp.seq ?_
 refine Wp.Ea 12 follows rf (by kernel_rfl) ?_
 refine Ai.A7 (Ab.move rf) rf ?_
 refine Ai.A7 (Ab.nilCheck rf) rf ?_
 refine Ai.A7 (Ab.A6 (o':=1) Iv rf rf) rf ?_
 refine Ai.A7 (Ab.Am (i:=0) (v:= .slice none 0 0) Tryz.underlying110 rf rf rf rf) rf ?_
 refine Ai.A7 (Ab.M9 rf) rf ?_
 refine Ai.A7 (Ab.move rf) rf ?_
 refine Ai.A7 (Ab.nilCheck rf) rf ?_
 refine Ai.A7 (Ab.A6 (o':=1) Iv rf rf) rf ?_
 refine Ai.A7 (Ab.Am (i:=0) (v:= .slice none 0 0) Tryz.underlying110 rf rf rf rf) rf ?_
 refine Ai.A7 (Ab.len Tryz.underlying110 rf (.inl ⟨rf,rf⟩)) rf ?_
 refine Ai.A7 (Ab.KC rf rf) rf ?_
 refine Ai.A7 (Ab.assign rf) rf ?_
 refine Ai.Eb ?_
 refine As.is (t:=2) rf ?_
 refine As.Me ?_
 refine Aa.nil ?_
 refine At.Ae ?_
 refine Wp.ret ?_
 exact At.C_ rf (RV.tmp rf) (fun w hs=>⟨_,_,_,rf,Hp.le.refl _,hs.BW 1,rf,rf⟩)
theorem R4{B:Nat}{a v:Value}{l:BF}{xs:List Value}(hL:Ap Sf H l xs)(h0:l≠ []):Eg Tryz.prog 57 [ptr B 0] H (.Az B (.cells #[a,v] 112 (0,0)):: .row v 5 1 l.length xs::O) (fun r H' O'=>sv l=r∧O=O'):=by
 have hpos:0<l.length:=List.length_pos_iff.2 h0
 intro w hs
 refine Bo Tryz.func57 rf rf rf ?_ hs
 clear hs w
 refine Wp.seq ?_
 refine Wp.region ?_
 refine Aa.op (Ab.assign rf) rf ?_
 refine Aa.nil ?_
 refine At.Ae ?_
 refine Wp.seq ?_
 refine Af.runK 2 [⟨[],[],[]⟩,⟨[],[],[]⟩,⟨[],[],[]⟩,⟨[0],[],[]⟩,⟨[1],[],[]⟩,⟨[],[],[]⟩,⟨[],[],[]⟩,⟨[],[],[]⟩,⟨[0],[],[]⟩,⟨[1],[],[]⟩,⟨[],[1],[]⟩,⟨[],[],[]⟩] follows rf (by kernel_rfl) ?_
 refine Af.op (val:=fun _=>ptr B 0) rf rf (fun _=>rfl) (fun _ p _ hx hf hy=>Ab.move rf) rf ?_
 refine Af.op (val:=fun _=>ptr B 0) rf rf (fun _=>rfl) (fun _ p _ hx hf hy=>Ab.nilCheck rf) rf ?_
 refine Af.op (val:=fun _=>ptr B 1) rf rf (fun _=>rfl) (fun _ p _ hx hf hy=>Ab.A6 (o':=1) Iv rf rf) rf ?_
 refine Af.op (val:=fun _=>v) rf rf (fun _=>rfl) (fun _ p _ hx hf hy=>Ab.Am (i:=0) (v:=v) Tryz.underlying110 rf rf (hy 0 _ rf rf) rf) rf ?_
 refine Af.op (val:=fun _=>AG v 0) rf rf (fun _=>rfl) (fun _ p _ hx hf hy=>Ab.Rp (i:=1) rf (hy 1 _ rf rf) hpos) rf ?_
 refine Af.op (val:=fun _=>ptr B 0) rf rf (fun _=>rfl) (fun _ p _ hx hf hy=>Ab.move rf) rf ?_
 refine Af.op (val:=fun _=>ptr B 0) rf rf (fun _=>rfl) (fun _ p _ hx hf hy=>Ab.nilCheck rf) rf ?_
 refine Af.op (val:=fun _=>ptr B 1) rf rf (fun _=>rfl) (fun _ p _ hx hf hy=>Ab.A6 (o':=1) Iv rf rf) rf ?_
 refine Af.op (val:=fun _=>v) rf rf (fun _=>rfl) (fun _ p _ hx hf hy=>Ab.Am (i:=0) (v:=v) Tryz.underlying110 rf rf (hy 0 _ rf rf) rf) rf ?_
 refine Af.op (val:=fun _=> .int .i64 ((l.length:Nat):Int)) rf rf (fun _=>rfl) (fun _ p _ hx hf hy=>Ab.CW (i:=1) Tryz.underlying110 rf (hy 1 _ rf rf)) rf ?_
 refine Af.Xy (val:=fun _=>sv l) (res:=fun _=> .emp) 1 rfl rfl (fun _=>rfl) (fun _=>rfl) (fun H' p _ hx hf hy=>(Bc.unsafeString (l:=l) Tryz.underlying135 (by kernel_rfl) rfl rfl (hy 1 _ rfl rfl) (hL.mono hx) h0).mono (by rintro u HH OO ⟨h1,h2,h3⟩;exact⟨h1,h2,h3.symm⟩)) rfl ?_
 refine Af.op (val:=fun _=>sv l) rf rf (fun _=>rfl) (fun _ p _ hx hf hy=>Ab.assign rf) rf ?_
 refine Af.done fun H1 p hl1 hF=>?_
 refine At.sub (L':=[(2,sv l)]) (.cons rf .nil) ?_
 refine At.Ae ?_
 refine Wp.ret ?_
 exact At.C_ rf (RV.tmp (v:=sv l) rf) (fun w hs=>⟨_,_,_,rf,hl1,hs.BW 2,rf,rf⟩)
theorem Zt{B:Nat}{a v:Value}{l:BF}{xs:List Value}(hL:Ap Sf H l xs)(hv:v= .slice none 0 0∨l≠ [])(hb:l=[]→v= .slice none 0 0):Eg Tryz.prog 57 [ptr B 0] H (.Az B (.cells #[a,v] 112 (0,0)):: .row v 5 1 l.length xs::O) (fun r H' O'=>sv l=r∧O=O'):=by
 by_cases h0:l=[]
 ·subst h0
  rw[hb rfl]
  intro w hs
  have hs':=hs.AW [0] 2 rfl rfl rfl
  exact Ui (a:=a) w hs'
 ·exact R4 hL h0
theorem Uh{B:Nat}{a v:Value}{l s:BF}{xs:List Value}(h:Ih H B a v l xs)(hb:l.length+s.length≤AJ):
  Eg Tryz.prog 55 [ptr B 0,sv s] H (.Az B (.cells #[a,v] 112 (0,0)):: .row v 5 1 l.length xs::O) (fun r H' O'=> ∃v' xs', .tuple #[.int .i64 ((s.length:Nat):Int), .nilIface]=r∧Ih H' B (ptr B 0) v' (l++s) xs'∧ .Az B (.cells #[ptr B 0,v'] 112 (0,0)):: .row v' 5 1 (l++s).length xs'::O=O'):=
 (Zs h.a h.L h.v hb).mono fun _ _ _ _ ⟨v',xs',h1,h2,h3,h4⟩=>⟨v',xs',h1,⟨.inr rfl,h2,h3⟩,h4⟩
theorem Wo{B:Nat}{a v:Value}{l:BF}{xs:List Value}(h:Ih H B a v l xs):Eg Tryz.prog 57 [ptr B 0] H (.Az B (.cells #[a,v] 112 (0,0)):: .row v 5 1 l.length xs::O) (fun r H' O'=>sv l=r∧O=O'):=
 Zt h.L h.v (fun h0=>h.v.resolve_right (fun k=>k h0))
theorem TG{n:Int}(hG:El Tryz.prog H)(hn:Dw n):CB Tryz.prog 56 [.int .i64 n] H O (sv (Lib.itoa n)):=
 CB.itoa (fun n h0 h1 w ht=>Go.Proofs.Tryz.strconv_Itoa n h0 h1 w ht) hG hn
theorem XN{l:List Int}{v:Value}{e:TypeId}{xs:List Value}(hL:Ap Ar H l xs)(hn:l.length≤AJ):
  Eg Tryz.prog 34 [v] H (.row v e 1 l.length xs::O) (fun r H' O'=> ∃xs', .tuple #[]=r∧Ap Ar H' (GK.DB l) xs'∧ .row v e 1 (GK.DB l).length xs'::O=O'):=
 Eg.DB (fun Az off cap zs w h1 h2 h3=>Go.Proofs.Tryz.slices_Sort_int Az off cap zs w h1 h2 h3) (fun p cap w=>Go.Proofs.Any.slices_Sort_int_none Go.Proofs.Tryz.QI p cap w) hL hn
theorem Ud(a b c a' b' c':Int)(h0:0≤a)(h1:a≤255)(h2:0≤a')(h3:a'≤255)(W:World):Calls Tryz.prog 39 #[.agg #[.int .u8 a, .int .u8 b, .int .i64 c], .agg #[.int .u8 a', .int .u8 b', .int .i64 c']] W fun e w'=>e= .returned (.int .i64 (a-a'))∧∃q os',w'=grow (W.drewN q) os':=by
 have e1:IntKind.i64.wrap a=a:=by simp[IntKind.wrap,IntKind.bits,IntKind.signed];omega
 have e2:IntKind.i64.wrap a'=a':=by simp[IntKind.wrap,IntKind.bits,IntKind.signed];omega
 have e3:IntKind.i64.wrap (a-a')=a-a':=by simp[IntKind.wrap,IntKind.bits,IntKind.signed];omega
 go_enter Tryz.func39,Tryz.ntmps39
 go_wp2
 go_ret
 exact⟨by simp[e1,e2,e3],0,_,by rw[alloc_eq_grow,alloc_eq_grow,grow_grow];rfl⟩
theorem WE{l:List (Int×Int×Int)}{v:Value}{e:TypeId}{xs:List Value}(hL:Ap (cP A0 (cP A0 Ar)) H l xs)(hok:M0 ES l)(hn:l.length≤AJ):
  Eg Tryz.prog 38 [v, .func (.func 39) #[] #[]] H (.row v e 3 l.length xs::O) (fun r H' O'=> ∃xs', .tuple #[]=r∧Ap (cP A0 (cP A0 Ar)) H' (Ei ES l) xs'∧ .row v e 3 (Ei ES l).length xs'::O=O'):=
 Eg.WD (c:=cP A0 (cP A0 Ar)) Tryz.XO Tryz.isAgg47 Tryz.sizeOf47 (enters_of Tryz.func39 (by kernel_rfl) rfl) (fun H x y r cs1 cs2 h1 h2 hr W=>by
  obtain⟨_,_,rfl,⟨rfl,a1,a2⟩,_,_,rfl,⟨rfl,a3,a4⟩,rfl⟩:=h1
  obtain⟨_,_,rfl,⟨rfl,b1,b2⟩,_,_,rfl,⟨rfl,b3,b4⟩,rfl⟩:=h2
  cases hr
  exact Ud _ _ _ _ _ _ a1 a2 b1 b2 W) hL hok hn
end Go.Proofs.YtjmbmodmepdmjabGreatDoor
namespace Go.Proofs.YtjmbmodmepdmjabGreatDoor
open Go.GK
variable {H : Hp} {O : List A2}
theorem MM(p:Nat→Bool)(b:Nat)(hb:b<256):
  CB Tryz.prog 33 [(.agg (BE p)),(.int .u8 (((b:Nat):Int)))] H O (.bool (p b)):=by
 intro w hs
 refine Bo Tryz.func33 rf rf rf ?_ hs
 clear hs w
 refine Wp.seq ?_
 refine Wp.region ?_
 refine Aa.box (cs:=BE p) rf rf rf fun B1=>?_
 refine Aa.op (Ab.assign rf) rf ?_
 refine Aa.nil ?_
 refine At.Ae ?_
 refine Wp.seq ?_
 refine Wp.region ?_
 refine Aa.op (Ab.move rf) rf ?_
 refine Aa.op (Ab.quo rf rf (by omega) (by omega) (Zo (by omega))) rf ?_
 refine Aa.op (Ab.ED (off':=b/64) Tryz.underlying24 E2 rf rf (by omega) (by omega)) rf ?_
 refine Aa.op (Ab.Am (i:=0) (v:=(Ad (word p (b/64)))) Tryz.underlying22 rf rf rf (ET p _ (by omega))) rf ?_
 refine Aa.op (Ab.move rf) rf ?_
 refine Aa.op (Ab.rem rf rf (by omega) (by omega)) rf ?_
 refine Aa.op (Ab.Zd (n:=b %64) rf rf) rf ?_
 refine Aa.op (Ab.YQ (b:=1#64) rf rf) rf ?_
 refine Aa.op (Ab.ZP (b:=1#64) rf rf) rf ?_
 refine Aa.op (Ab.assign rf) rf ?_
 refine Aa.nil ?_
 refine At.Ae ?_
 refine Wp.ret ?_
 refine At.C_ rf (RV.tmp (v:=(.bool (decide ((((word p (b/64))>>>(b %64))&&&(1#64))=(1#64))))) rf) ?_
 exact fun w hs=>⟨congrArg (fun b=>Ending.returned (.bool b)) (by rw[Bool.eq_iff_iff,decide_eq_true_iff];exact Vq p b),(hs.BW 1).weaken (Hp.le.refl _)⟩
theorem Zj(lo hi:Nat)(h1:lo<256)(h2:hi<256):
  CB Tryz.prog 49 [(.int .u8 (((lo:Nat):Int))),(.int .u8 (((hi:Nat):Int)))] H O (bs (Sc lo hi)):=by
 intro w hs
 refine Bo Tryz.func49 rf rf rf ?_ hs
 clear hs w
 refine Wp.seq ?_
 refine Wp.region ?_
 refine Aa.alloc (cs:=BE (fun _=>false)) Bu Cx rf fun Br=>?_
 refine Aa.nil ?_
 refine At.Ae ?_
 refine Wp.seq ?_
 refine Wp.region ?_
 refine Aa.alloc (cs:=BE (fun _=>false)) Bu Cx rf fun Bs=>?_
 refine Aa.nil ?_
 refine At.Ae ?_
 refine Wp.seq ?_
 refine Wp.seq ?_
 refine Wp.region ?_
 refine Aa.op (Ab.move rf) rf ?_
 refine Aa.nil ?_
 refine At.Ae ?_
 refine Wp.block ?_
 refine Wp.loop (X:=Nat) (fun k=>[(7,(.int .i64 (((k:Nat):Int)))),(0,(.int .u8 (((lo:Nat):Int)))),(1,(.int .u8 (((hi:Nat):Int)))),(4,(ptr Br (0))),(5,(ptr Bs (0)))]) (fun k=> .Az Bs (.cells (BE (I1 lo hi k)) 24 (0,0)):: .Az Br (.cells (BE (fun _=>false)) 24 (0,0))::O) (fun k H'=>k≤256) (fun k=>256-k) 0 ?_ ?_ ?_ ?_
 ·exact(by omega)
 ·exact .cons (rf) (.cons (rf) (.cons (rf) (.cons (rf) (.cons (rf) (.nil)))))
 ·exact(by rw[RD])
 intro k H1 hle2 hi3
 have hi3:k≤256:=hi3
 refine Wp.seq ?_
 refine Wp.region ?_
 refine Aa.op (Ab.lss rf rf) rf ?_
 refine Aa.nil ?_
 refine At.Ae ?_
 refine Wp.seq ?_
 refine Wp.cond (b:=decide (((k:Nat):Int)<256)) rf (fun hb4=>?_) (fun hb4=>?_)
 ·
  replace hb4:=of_decide_eq_true hb4
  refine Wp.skip ?_
  refine At.Ae ?_
  refine Wp.seq ?_
  refine Wp.block ?_
  refine Wp.seq ?_
  refine Wp.region ?_
  refine Aa.op (Ab.move rf) rf ?_
  refine Aa.op (Ab.assign rf) rf ?_
  refine Aa.nil ?_
  refine At.Ae ?_
  refine Wp.seq ?_
  refine Wp.region ?_
  refine Aa.op (Ab.move rf) rf ?_
  refine Aa.op (Ab.move rf) rf ?_
  refine Aa.op (Ab.conv Tryz.underlying5 Tryz.underlying3 rf (Av (by omega))) rf ?_
  refine Aa.op (Ab.geq rf rf) rf ?_
  refine Aa.op (Ab.move rf) rf ?_
  refine Aa.split (t:=14) (b:=decide (((lo:Nat):Int)≤((k:Nat):Int))) rf (fun hb5=>?_) (fun hb5=>?_)
  ·
   replace hb5:=of_decide_eq_true hb5
   refine Aa.AQ rf rf (Ab.move rf) rf ?_
   refine Aa.AQ rf rf (Ab.move rf) rf ?_
   refine Aa.AQ rf rf (Ab.conv Tryz.underlying5 Tryz.underlying3 rf (Av (by omega))) rf ?_
   refine Aa.AQ rf rf (Ab.leq rf rf) rf ?_
   refine Aa.op (Ab.AU rf rf) rf ?_
   refine Aa.nil ?_
   refine At.Ae ?_
   refine Wp.cond (b:=decide (((k:Nat):Int)≤((hi:Nat):Int))) rf (fun hb6=>?_) (fun hb6=>?_)
   ·
    replace hb6:=of_decide_eq_true hb6
    refine Wp.Ea 9 follows rf (by kernel_rfl) ?_
    refine Ai.A7 (Ab.move rf) rf ?_
    refine Ai.A7 (Ab.quo rf rf (by omega) (by omega) (X_ (by omega))) rf ?_
    refine Ai.A7 (Ab.ED (off':=k/64) Tryz.underlying24 E2 rf rf (by omega) (by omega)) rf ?_
    refine Ai.A7 (Ab.Am (i:=0) (v:=(Ad (word (I1 lo hi k) (k/64)))) Tryz.underlying22 rf rf rf (ET _ _ (by omega))) rf ?_
    refine Ai.A7 (Ab.move rf) rf ?_
    refine Ai.A7 (Ab.rem rf rf (by omega) (by omega)) rf ?_
    refine Ai.A7 (Ab.XQ (a:=1#64) (n:=k %64) rf rf) rf ?_
    refine Ai.A7 (Ab.Zz rf rf) rf ?_
    refine Ai.A7 (Ab.ED (off':=k/64) Tryz.underlying24 E2 rf rf (by omega) (by omega)) rf ?_
    refine Ai.Eb ?_
    refine As.is (t:=7) (v:=(.int .i64 (((k:Nat):Int)))) rf ?_
    refine As.is (t:=0) (v:=(.int .u8 (((lo:Nat):Int)))) rf ?_
    refine As.is (t:=1) (v:=(.int .u8 (((hi:Nat):Int)))) rf ?_
    refine As.is (t:=4) (v:=(ptr Br (0))) rf ?_
    refine As.is (t:=5) (v:=(ptr Bs (0))) rf ?_
    refine As.is (t:=8) (v:=(.bool (decide (((k:Nat):Int)<256)))) rf ?_
    refine As.is (t:=9) (v:=(.int .i64 (((k:Nat):Int)))) rf ?_
    refine As.is (t:=6) (v:=(.int .i64 (((k:Nat):Int)))) rf ?_
    refine As.is (t:=10) (v:=(.int .i64 (((k:Nat):Int)))) rf ?_
    refine As.is (t:=11) (v:=(.int .u8 (((lo:Nat):Int)))) rf ?_
    refine As.is (t:=12) (v:=(.int .i64 (((lo:Nat):Int)))) rf ?_
    refine As.is (t:=13) (v:=(.bool (decide (((lo:Nat):Int)≤((k:Nat):Int))))) rf ?_
    refine As.is (t:=14) (v:=(.bool (true))) rf ?_
    refine As.is (t:=15) (v:=(.int .i64 (((k:Nat):Int)))) rf ?_
    refine As.is (t:=16) (v:=(.int .u8 (((hi:Nat):Int)))) rf ?_
    refine As.is (t:=17) (v:=(.int .i64 (((hi:Nat):Int)))) rf ?_
    refine As.is (t:=18) (v:=(.bool (decide (((k:Nat):Int)≤((hi:Nat):Int))))) rf ?_
    refine As.is (t:=19) (v:=(.bool (decide (((k:Nat):Int)≤((hi:Nat):Int))))) rf ?_
    refine As.is (t:=20) (v:=(.int .i64 (((k:Nat):Int)))) rf ?_
    refine As.is (t:=21) (v:=(.int .i64 (((k:Nat):Int)/64))) rf ?_
    refine As.is (t:=22) (v:=(ptr Bs (k/64))) rf ?_
    refine As.is (t:=23) (v:=(Ad (word (I1 lo hi k) (k/64)))) rf ?_
    refine As.is (t:=24) (v:=(.int .i64 (((k:Nat):Int)))) rf ?_
    refine As.is (t:=25) (v:=(.int .i64 (((k:Nat):Int) %64))) rf ?_
    refine As.is (t:=26) (v:=(Ad (1#64<<<(k %64)))) rf ?_
    refine As.is (t:=27) (v:=(Ad ((word (I1 lo hi k) (k/64))|||(1#64<<<(k %64))))) rf ?_
    refine As.is (t:=28) (v:=(ptr Bs (k/64))) rf ?_
    refine As.Me ?_
    refine Aa.Dc (i:=0) rf rf rf E2 rf (by rw[Fp];omega) ?_
    rw[VM _ k (by omega),S5 lo hi k (by omega) (by omega)]
    refine Aa.nil ?_
    refine At.AF ?_
    refine At.Ae ?_
    refine Wp.region ?_
    refine Aa.op (Ab.add rf rf (Av (by omega))) rf ?_
    refine Aa.op (Ab.move rf) rf ?_
    refine Aa.nil ?_
    refine At.next (k+1) (Hp.le.refl _) ?_ ?_ ?_ ?_
    ·exact(by omega)
    ·exact .cons (rf) (.cons (rf) (.cons (rf) (.cons (rf) (.cons (rf) (.nil)))))
    ·exact(by first|rfl|rw[J_ lo hi k (by omega)])
    ·exact(by(try dsimp only);omega)
   ·
    replace hb6:=of_decide_eq_false hb6
    refine Wp.skip ?_
    refine At.AF ?_
    refine At.Ae ?_
    refine Wp.region ?_
    refine Aa.op (Ab.add rf rf (Av (by omega))) rf ?_
    refine Aa.op (Ab.move rf) rf ?_
    refine Aa.nil ?_
    refine At.next (k+1) (Hp.le.refl _) ?_ ?_ ?_ ?_
    ·exact(by omega)
    ·exact .cons (rf) (.cons (rf) (.cons (rf) (.cons (rf) (.cons (rf) (.nil)))))
    ·exact(by first|rfl|rw[J_ lo hi k (by omega)])
    ·exact(by(try dsimp only);omega)
  ·
   replace hb5:=of_decide_eq_false hb5
   refine Aa.Ak rf rf rf rf ?_
   refine Aa.Ak rf rf rf rf ?_
   refine Aa.Ak rf rf rf rf ?_
   refine Aa.Ak rf rf rf rf ?_
   refine Aa.op (Ab.AP rf rf) rf ?_
   refine Aa.nil ?_
   refine At.Ae ?_
   refine Wp.Hd rf ?_
   refine Wp.skip ?_
   refine At.AF ?_
   refine At.Ae ?_
   refine Wp.region ?_
   refine Aa.op (Ab.add rf rf (Av (by omega))) rf ?_
   refine Aa.op (Ab.move rf) rf ?_
   refine Aa.nil ?_
   refine At.next (k+1) (Hp.le.refl _) ?_ ?_ ?_ ?_
   ·exact(by omega)
   ·exact .cons (rf) (.cons (rf) (.cons (rf) (.cons (rf) (.cons (rf) (.nil)))))
   ·exact(by first|rfl|rw[J_ lo hi k (by omega)])
   ·exact(by(try dsimp only);omega)
 ·
  replace hb4:=of_decide_eq_false hb4
  refine Wp.exit ?_
  refine At.Ao ?_
  refine At.Ao ?_
  refine At.AB ?_
  refine At.Ae ?_
  refine Wp.seq ?_
  refine Wp.region ?_
  refine Aa.op (Ab.Aw (i:=0) Tryz.underlying24 rf Bu rf rf rf) rf ?_
  refine Aa.AM (i:=1) (cs':=(BE (I1 lo hi k))) rf rf Bu rf rf (DN _) rf ?_
  refine Aa.nil ?_
  refine At.Ae ?_
  refine Wp.ret ?_
  refine At.C_ rf (RV.CQ (i:=1) rf Tryz.underlying24 rf Bu (rf) rf) ?_
  exact fun w hs=>⟨by exact congrArg (fun c=>Ending.returned (.agg c)) (RE lo hi _ (by omega)),(hs.BW 2).weaken hle2⟩
theorem Zi(p q:Nat→Bool):
  CB Tryz.prog 52 [(.agg (BE p)),(.agg (BE q))] H O (bs (fun x=>p x||q x)):=by
 intro w hs
 refine Bo Tryz.func52 rf rf rf ?_ hs
 clear hs w
 refine Wp.seq ?_
 refine Wp.region ?_
 refine Aa.box (cs:=BE p) rf rf rf fun Ba=>?_
 refine Aa.box (cs:=BE q) rf rf rf fun Bb=>?_
 refine Aa.alloc (cs:=BE (fun _=>false)) Bu Cx rf fun Br=>?_
 refine Aa.nil ?_
 refine At.Ae ?_
 refine Wp.seq ?_
 refine Wp.seq ?_
 refine Wp.region ?_
 refine Aa.op (Ab.move rf) rf ?_
 refine Aa.nil ?_
 refine At.Ae ?_
 refine Wp.block ?_
 refine Wp.loop (X:=Nat) (fun k=>[(6,(.int .i64 (((k:Nat):Int)))),(2,(ptr Ba (0))),(3,(ptr Bb (0))),(4,(ptr Br (0)))]) (fun k=> .Az Br (.cells (BE (fun _=>false)) 24 (0,0)):: .Az Bb (.cells (BE q) 24 (0,0)):: .Az Ba (.cells (BE (Fk (fun x=>p x||q x) p k)) 24 (0,0))::O) (fun k H'=>k≤4) (fun k=>4-k) 0 ?_ ?_ ?_ ?_
 ·exact(by omega)
 ·exact .cons (rf) (.cons (rf) (.cons (rf) (.cons (rf) (.nil))))
 ·exact(by first|rfl|(rw[←G0];done)|(rw[←G0];rfl))
 intro k H1 hle2 hi3
 refine Wp.seq ?_
 refine Wp.region ?_
 refine Aa.op (Ab.lss rf rf) rf ?_
 refine Aa.nil ?_
 refine At.Ae ?_
 refine Wp.seq ?_
 refine Wp.cond (b:=decide (((k:Nat):Int)<4)) rf (fun hb4=>?_) (fun hb4=>?_)
 ·
  replace hb4:=of_decide_eq_true hb4
  refine Wp.skip ?_
  refine At.Ae ?_
  refine Wp.seq ?_
  refine Wp.block ?_
  refine Wp.seq ?_
  refine Wp.region ?_
  refine Aa.op (Ab.move rf) rf ?_
  refine Aa.op (Ab.assign rf) rf ?_
  refine Aa.nil ?_
  refine At.Ae ?_
  refine Wp.Ea 8 follows rf (by kernel_rfl) ?_
  refine Ai.A7 (Ab.move rf) rf ?_
  refine Ai.A7 (Ab.ED (off':=k) Tryz.underlying24 E2 rf rf (by omega) (by omega)) rf ?_
  refine Ai.A7 (Ab.Am (i:=2) (v:=(Ad (word p k))) Tryz.underlying22 rf rf rf (Ns _ _ _ (by omega))) rf ?_
  refine Ai.A7 (Ab.move rf) rf ?_
  refine Ai.A7 (Ab.ED (off':=k) Tryz.underlying24 E2 rf rf (by omega) (by omega)) rf ?_
  refine Ai.A7 (Ab.Am (i:=1) (v:=(Ad (word q k))) Tryz.underlying22 rf rf rf (ET _ _ (by omega))) rf ?_
  refine Ai.A7 (Ab.Zz rf rf) rf ?_
  refine Ai.A7 (Ab.ED (off':=k) Tryz.underlying24 E2 rf rf (by omega) (by omega)) rf ?_
  refine Ai.Eb ?_
  refine As.is (t:=6) (v:=(.int .i64 (((k:Nat):Int)))) rf ?_
  refine As.is (t:=2) (v:=(ptr Ba (0))) rf ?_
  refine As.is (t:=3) (v:=(ptr Bb (0))) rf ?_
  refine As.is (t:=4) (v:=(ptr Br (0))) rf ?_
  refine As.is (t:=7) (v:=(.bool (decide (((k:Nat):Int)<4)))) rf ?_
  refine As.is (t:=8) (v:=(.int .i64 (((k:Nat):Int)))) rf ?_
  refine As.is (t:=5) (v:=(.int .i64 (((k:Nat):Int)))) rf ?_
  refine As.is (t:=9) (v:=(.int .i64 (((k:Nat):Int)))) rf ?_
  refine As.is (t:=10) (v:=(ptr Ba (k))) rf ?_
  refine As.is (t:=11) (v:=(Ad (word p k))) rf ?_
  refine As.is (t:=12) (v:=(.int .i64 (((k:Nat):Int)))) rf ?_
  refine As.is (t:=13) (v:=(ptr Bb (k))) rf ?_
  refine As.is (t:=14) (v:=(Ad (word q k))) rf ?_
  refine As.is (t:=15) (v:=(Ad ((word p k)|||(word q k)))) rf ?_
  refine As.is (t:=16) (v:=(ptr Ba (k))) rf ?_
  refine As.Me ?_
  refine Aa.Dc (i:=2) rf rf rf E2 rf (by rw[Fp];omega) ?_
  rw[Lz _ _ k _ (by omega) (UG p q k)]
  refine Aa.nil ?_
  refine At.AF ?_
  refine At.Ae ?_
  refine Wp.region ?_
  refine Aa.op (Ab.add rf rf (Av (by omega))) rf ?_
  refine Aa.op (Ab.move rf) rf ?_
  refine Aa.nil ?_
  refine At.next (k+1) (Hp.le.refl _) ?_ ?_ ?_ ?_
  ·exact(by omega)
  ·exact .cons (rf) (.cons (rf) (.cons (rf) (.cons (rf) (.nil))))
  ·exact(rf)
  ·exact(by(try dsimp only);omega)
 ·
  replace hb4:=of_decide_eq_false hb4
  refine Wp.exit ?_
  refine At.Ao ?_
  refine At.Ao ?_
  refine At.AB ?_
  refine At.Ae ?_
  refine Wp.seq ?_
  refine Wp.region ?_
  refine Aa.op (Ab.Aw (i:=2) Tryz.underlying24 rf Bu rf rf rf) rf ?_
  refine Aa.AM (i:=0) (cs':=(BE (Fk (fun x=>p x||q x) p k))) rf rf Bu rf rf (DN _) rf ?_
  refine Aa.nil ?_
  refine At.Ae ?_
  refine Wp.ret ?_
  refine At.C_ rf (RV.CQ (i:=0) rf Tryz.underlying24 rf Bu (rf) rf) ?_
  exact fun w hs=>⟨by exact congrArg (fun c=>Ending.returned (.agg c)) (LA _ _ _ (by omega)),(hs.BW 3).weaken hle2⟩
theorem Wq(p q:Nat→Bool):
  CB Tryz.prog 50 [(.agg (BE p)),(.agg (BE q))] H O (bs (fun x=>p x&&q x)):=by
 intro w hs
 refine Bo Tryz.func50 rf rf rf ?_ hs
 clear hs w
 refine Wp.seq ?_
 refine Wp.region ?_
 refine Aa.box (cs:=BE p) rf rf rf fun Ba=>?_
 refine Aa.box (cs:=BE q) rf rf rf fun Bb=>?_
 refine Aa.alloc (cs:=BE (fun _=>false)) Bu Cx rf fun Br=>?_
 refine Aa.nil ?_
 refine At.Ae ?_
 refine Wp.seq ?_
 refine Wp.seq ?_
 refine Wp.region ?_
 refine Aa.op (Ab.move rf) rf ?_
 refine Aa.nil ?_
 refine At.Ae ?_
 refine Wp.block ?_
 refine Wp.loop (X:=Nat) (fun k=>[(6,(.int .i64 (((k:Nat):Int)))),(2,(ptr Ba (0))),(3,(ptr Bb (0))),(4,(ptr Br (0)))]) (fun k=> .Az Br (.cells (BE (fun _=>false)) 24 (0,0)):: .Az Bb (.cells (BE q) 24 (0,0)):: .Az Ba (.cells (BE (Fk (fun x=>p x&&q x) p k)) 24 (0,0))::O) (fun k H'=>k≤4) (fun k=>4-k) 0 ?_ ?_ ?_ ?_
 ·exact(by omega)
 ·exact .cons (rf) (.cons (rf) (.cons (rf) (.cons (rf) (.nil))))
 ·exact(by first|rfl|(rw[←G0];done)|(rw[←G0];rfl))
 intro k H1 hle2 hi3
 refine Wp.seq ?_
 refine Wp.region ?_
 refine Aa.op (Ab.lss rf rf) rf ?_
 refine Aa.nil ?_
 refine At.Ae ?_
 refine Wp.seq ?_
 refine Wp.cond (b:=decide (((k:Nat):Int)<4)) rf (fun hb4=>?_) (fun hb4=>?_)
 ·
  replace hb4:=of_decide_eq_true hb4
  refine Wp.skip ?_
  refine At.Ae ?_
  refine Wp.seq ?_
  refine Wp.block ?_
  refine Wp.seq ?_
  refine Wp.region ?_
  refine Aa.op (Ab.move rf) rf ?_
  refine Aa.op (Ab.assign rf) rf ?_
  refine Aa.nil ?_
  refine At.Ae ?_
  refine Wp.Ea 8 follows rf (by kernel_rfl) ?_
  refine Ai.A7 (Ab.move rf) rf ?_
  refine Ai.A7 (Ab.ED (off':=k) Tryz.underlying24 E2 rf rf (by omega) (by omega)) rf ?_
  refine Ai.A7 (Ab.Am (i:=2) (v:=(Ad (word p k))) Tryz.underlying22 rf rf rf (Ns _ _ _ (by omega))) rf ?_
  refine Ai.A7 (Ab.move rf) rf ?_
  refine Ai.A7 (Ab.ED (off':=k) Tryz.underlying24 E2 rf rf (by omega) (by omega)) rf ?_
  refine Ai.A7 (Ab.Am (i:=1) (v:=(Ad (word q k))) Tryz.underlying22 rf rf rf (ET _ _ (by omega))) rf ?_
  refine Ai.A7 (Ab.YQ rf rf) rf ?_
  refine Ai.A7 (Ab.ED (off':=k) Tryz.underlying24 E2 rf rf (by omega) (by omega)) rf ?_
  refine Ai.Eb ?_
  refine As.is (t:=6) (v:=(.int .i64 (((k:Nat):Int)))) rf ?_
  refine As.is (t:=2) (v:=(ptr Ba (0))) rf ?_
  refine As.is (t:=3) (v:=(ptr Bb (0))) rf ?_
  refine As.is (t:=4) (v:=(ptr Br (0))) rf ?_
  refine As.is (t:=7) (v:=(.bool (decide (((k:Nat):Int)<4)))) rf ?_
  refine As.is (t:=8) (v:=(.int .i64 (((k:Nat):Int)))) rf ?_
  refine As.is (t:=5) (v:=(.int .i64 (((k:Nat):Int)))) rf ?_
  refine As.is (t:=9) (v:=(.int .i64 (((k:Nat):Int)))) rf ?_
  refine As.is (t:=10) (v:=(ptr Ba (k))) rf ?_
  refine As.is (t:=11) (v:=(Ad (word p k))) rf ?_
  refine As.is (t:=12) (v:=(.int .i64 (((k:Nat):Int)))) rf ?_
  refine As.is (t:=13) (v:=(ptr Bb (k))) rf ?_
  refine As.is (t:=14) (v:=(Ad (word q k))) rf ?_
  refine As.is (t:=15) (v:=(Ad ((word p k)&&&(word q k)))) rf ?_
  refine As.is (t:=16) (v:=(ptr Ba (k))) rf ?_
  refine As.Me ?_
  refine Aa.Dc (i:=2) rf rf rf E2 rf (by rw[Fp];omega) ?_
  rw[Lz _ _ k _ (by omega) (Si p q k)]
  refine Aa.nil ?_
  refine At.AF ?_
  refine At.Ae ?_
  refine Wp.region ?_
  refine Aa.op (Ab.add rf rf (Av (by omega))) rf ?_
  refine Aa.op (Ab.move rf) rf ?_
  refine Aa.nil ?_
  refine At.next (k+1) (Hp.le.refl _) ?_ ?_ ?_ ?_
  ·exact(by omega)
  ·exact .cons (rf) (.cons (rf) (.cons (rf) (.cons (rf) (.nil))))
  ·exact(rf)
  ·exact(by(try dsimp only);omega)
 ·
  replace hb4:=of_decide_eq_false hb4
  refine Wp.exit ?_
  refine At.Ao ?_
  refine At.Ao ?_
  refine At.AB ?_
  refine At.Ae ?_
  refine Wp.seq ?_
  refine Wp.region ?_
  refine Aa.op (Ab.Aw (i:=2) Tryz.underlying24 rf Bu rf rf rf) rf ?_
  refine Aa.AM (i:=0) (cs':=(BE (Fk (fun x=>p x&&q x) p k))) rf rf Bu rf rf (DN _) rf ?_
  refine Aa.nil ?_
  refine At.Ae ?_
  refine Wp.ret ?_
  refine At.C_ rf (RV.CQ (i:=0) rf Tryz.underlying24 rf Bu (rf) rf) ?_
  exact fun w hs=>⟨by exact congrArg (fun c=>Ending.returned (.agg c)) (LA _ _ _ (by omega)),(hs.BW 3).weaken hle2⟩
theorem X2(p:Nat→Bool):
  CB Tryz.prog 51 [(.agg (BE p))] H O (bs (fun x=> !p x)):=by
 intro w hs
 refine Bo Tryz.func51 rf rf rf ?_ hs
 clear hs w
 refine Wp.seq ?_
 refine Wp.region ?_
 refine Aa.box (cs:=BE p) rf rf rf fun Ba=>?_
 refine Aa.alloc (cs:=BE (fun _=>false)) Bu Cx rf fun Br=>?_
 refine Aa.nil ?_
 refine At.Ae ?_
 refine Wp.seq ?_
 refine Wp.seq ?_
 refine Wp.region ?_
 refine Aa.op (Ab.move rf) rf ?_
 refine Aa.nil ?_
 refine At.Ae ?_
 refine Wp.block ?_
 refine Wp.loop (X:=Nat) (fun k=>[(4,(.int .i64 (((k:Nat):Int)))),(1,(ptr Ba (0))),(2,(ptr Br (0)))]) (fun k=> .Az Br (.cells (BE (fun _=>false)) 24 (0,0)):: .Az Ba (.cells (BE (Fk (fun x=> !p x) p k)) 24 (0,0))::O) (fun k H'=>k≤4) (fun k=>4-k) 0 ?_ ?_ ?_ ?_
 ·exact(by omega)
 ·exact .cons (rf) (.cons (rf) (.cons (rf) (.nil)))
 ·exact(by first|rfl|(rw[←G0];done)|(rw[←G0];rfl))
 intro k H1 hle2 hi3
 refine Wp.seq ?_
 refine Wp.region ?_
 refine Aa.op (Ab.lss rf rf) rf ?_
 refine Aa.nil ?_
 refine At.Ae ?_
 refine Wp.seq ?_
 refine Wp.cond (b:=decide (((k:Nat):Int)<4)) rf (fun hb4=>?_) (fun hb4=>?_)
 ·
  replace hb4:=of_decide_eq_true hb4
  refine Wp.skip ?_
  refine At.Ae ?_
  refine Wp.seq ?_
  refine Wp.block ?_
  refine Wp.seq ?_
  refine Wp.region ?_
  refine Aa.op (Ab.move rf) rf ?_
  refine Aa.op (Ab.assign rf) rf ?_
  refine Aa.nil ?_
  refine At.Ae ?_
  refine Wp.region ?_
  refine Aa.op (Ab.move rf) rf ?_
  refine Aa.op (Ab.move rf) rf ?_
  refine Aa.op (Ab.ED (off':=k) Tryz.underlying24 E2 rf rf (by omega) (by omega)) rf ?_
  refine Aa.op (Ab.Am (i:=1) (v:=(Ad (word p k))) Tryz.underlying22 rf rf rf (Ns _ _ _ (by omega))) rf ?_
  refine Aa.op (Ab.Zk rf) rf ?_
  refine Aa.op (Ab.ED (off':=k) Tryz.underlying24 E2 rf rf (by omega) (by omega)) rf ?_
  refine Aa.Dc (i:=1) rf rf rf E2 rf (by rw[Fp];omega) ?_
  rw[Lz _ _ k _ (by omega) (Sh p k)]
  refine Aa.nil ?_
  refine At.AF ?_
  refine At.Ae ?_
  refine Wp.region ?_
  refine Aa.op (Ab.add rf rf (Av (by omega))) rf ?_
  refine Aa.op (Ab.move rf) rf ?_
  refine Aa.nil ?_
  refine At.next (k+1) (Hp.le.refl _) ?_ ?_ ?_ ?_
  ·exact(by omega)
  ·exact .cons (rf) (.cons (rf) (.cons (rf) (.nil)))
  ·exact(rf)
  ·exact(by(try dsimp only);omega)
 ·
  replace hb4:=of_decide_eq_false hb4
  refine Wp.exit ?_
  refine At.Ao ?_
  refine At.Ao ?_
  refine At.AB ?_
  refine At.Ae ?_
  refine Wp.seq ?_
  refine Wp.region ?_
  refine Aa.op (Ab.Aw (i:=1) Tryz.underlying24 rf Bu rf rf rf) rf ?_
  refine Aa.AM (i:=0) (cs':=(BE (Fk (fun x=> !p x) p k))) rf rf Bu rf rf (DN _) rf ?_
  refine Aa.nil ?_
  refine At.Ae ?_
  refine Wp.ret ?_
  refine At.C_ rf (RV.CQ (i:=0) rf Tryz.underlying24 rf Bu (rf) rf) ?_
  exact fun w hs=>⟨by exact congrArg (fun c=>Ending.returned (.agg c)) (LA _ _ _ (by omega)),(hs.BW 2).weaken hle2⟩
theorem Vp(p:Nat→Bool):
  CB Tryz.prog 32 [(.agg (BE p))] H O (.tuple #[.int .u8 (DO p:Nat), .bool (anyS p)]):=by
 intro w hs
 refine Bo Tryz.func32 rf rf rf ?_ hs
 clear hs w
 refine Wp.seq ?_
 refine Wp.region ?_
 refine Aa.box (cs:=BE p) rf rf rf fun Ba=>?_
 refine Aa.op (Ab.assign rf) rf ?_
 refine Aa.op (Ab.assign rf) rf ?_
 refine Aa.nil ?_
 refine At.Ae ?_
 refine Wp.seq ?_
 refine Wp.seq ?_
 refine Wp.region ?_
 refine Aa.op (Ab.move rf) rf ?_
 refine Aa.nil ?_
 refine At.Ae ?_
 refine Wp.block ?_
 refine Wp.loop (X:=Nat) (fun k=>[(5,(.int .i64 (((k:Nat):Int)))),(1,(ptr Ba (0)))]) (fun k=> .Az Ba (.cells (BE p) 24 (0,0))::O) (fun k H'=>k≤256∧∀x,x<k→p x=false) (fun k=>256-k) 0 ?_ ?_ ?_ ?_
 ·exact(⟨by omega,fun x hx=>by omega⟩)
 ·exact .cons (rf) (.cons (rf) (.nil))
 ·exact(rf)
 intro k H1 hle2 hi3
 have hk:k≤256:=hi3.1
 have h0:=hi3.2
 refine Wp.seq ?_
 refine Wp.region ?_
 refine Aa.op (Ab.lss rf rf) rf ?_
 refine Aa.nil ?_
 refine At.Ae ?_
 refine Wp.seq ?_
 refine Wp.cond (b:=decide (((k:Nat):Int)<256)) rf (fun hb4=>?_) (fun hb4=>?_)
 ·
  replace hb4:=of_decide_eq_true hb4
  refine Wp.skip ?_
  refine At.Ae ?_
  refine Wp.seq ?_
  refine Wp.block ?_
  refine Wp.seq ?_
  refine Wp.region ?_
  refine Aa.op (Ab.move rf) rf ?_
  refine Aa.op (Ab.assign rf) rf ?_
  refine Aa.nil ?_
  refine At.Ae ?_
  refine Wp.seq ?_
  refine Wp.region ?_
  refine Aa.op (Ab.Aw (i:=0) Tryz.underlying24 rf Bu rf rf rf) rf ?_
  refine Aa.op (Ab.move rf) rf ?_
  refine Aa.op (Ab.conv Tryz.underlying3 Tryz.underlying5 rf (DW (by omega))) rf ?_
  refine Aa.op (Ab.call Kv rf (MM p k (by omega))) rf ?_
  refine Aa.nil ?_
  refine At.Ae ?_
  refine Wp.cond (b:=p k) rf (fun hb5=>?_) (fun hb5=>?_)
  ·
   refine Wp.seq ?_
   refine Wp.region ?_
   refine Aa.op (Ab.move rf) rf ?_
   refine Aa.op (Ab.conv Tryz.underlying3 Tryz.underlying5 rf (DW (by omega))) rf ?_
   refine Aa.op (Ab.assign rf) rf ?_
   refine Aa.op (Ab.assign rf) rf ?_
   refine Aa.nil ?_
   refine At.Ae ?_
   refine Wp.ret ?_
   refine At.A9 ?_
   refine At.Au ?_
   refine At.Au ?_
   refine At.A9 ?_
   refine At.Au ?_
   refine At.Mj rf (RV.tmp (v:=(.int .u8 (((k:Nat):Int)))) rf) (RV.tmp (v:=(.bool (true))) rf) ?_
   exact fun w hs=>⟨by first|(have h:=MI p k (by omega) h0 (by assumption);rw[h.1,h.2];done)|(have h:=Hs p k (by omega) h0;rw[h.1,h.2];done)|(have h:=Hs p k (by omega) h0;rw[h.1,h.2];rfl),(hs.BW 1).weaken hle2⟩
  ·
   refine Wp.skip ?_
   refine At.AF ?_
   refine At.Ae ?_
   refine Wp.region ?_
   refine Aa.op (Ab.add rf rf (Av (by omega))) rf ?_
   refine Aa.op (Ab.move rf) rf ?_
   refine Aa.nil ?_
   refine At.next (k+1) (Hp.le.refl _) ?_ ?_ ?_ ?_
   ·exact(⟨by omega,RF p k h0 (by assumption)⟩)
   ·exact .cons (rf) (.cons (rf) (.nil))
   ·exact(rf)
   ·exact(by(try dsimp only);omega)
 ·
  replace hb4:=of_decide_eq_false hb4
  refine Wp.exit ?_
  refine At.Ao ?_
  refine At.Ao ?_
  refine At.AB ?_
  refine At.Ae ?_
  refine Wp.seq ?_
  refine Wp.region ?_
  refine Aa.op (Ab.assign rf) rf ?_
  refine Aa.op (Ab.assign rf) rf ?_
  refine Aa.nil ?_
  refine At.Ae ?_
  refine Wp.ret ?_
  refine At.Mj rf (RV.tmp (v:=(.int .u8 (0))) rf) (RV.tmp (v:=(.bool (false))) rf) ?_
  exact fun w hs=>⟨by first|(have h:=MI p k (by omega) h0 (by assumption);rw[h.1,h.2];done)|(have h:=Hs p k (by omega) h0;rw[h.1,h.2];done)|(have h:=Hs p k (by omega) h0;rw[h.1,h.2];rfl),(hs.BW 1).weaken hle2⟩
theorem SN(p:Nat→Bool):
  Eg Tryz.prog 37 [(.agg (BE p))] H O (fun v H' O'=>O'=O∧Sl H' v 2 (Ch p 256).length ((Ch p 256).flatMap Hb)):=by
 intro w hs
 refine Bo Tryz.func37 rf rf rf ?_ hs
 clear hs w
 refine Wp.seq ?_
 refine Wp.region ?_
 refine Aa.box (cs:=BE p) rf rf rf fun Ba=>?_
 refine Aa.op (Ab.assign rf) rf ?_
 refine Aa.nil ?_
 refine At.Ae ?_
 refine Wp.seq ?_
 refine Wp.region ?_
 refine Aa.op (Ab.assign rf) rf ?_
 refine Aa.nil ?_
 refine At.Ae ?_
 refine Wp.seq ?_
 refine Wp.seq ?_
 refine Wp.Cb 87 2 ?_
 refine Wp.region ?_
 refine Aa.op (Ab.move rf) rf ?_
 refine Aa.nil ?_
 refine At.Ae ?_
 refine Wp.block ?_
 refine Wp.loop (X:=Nat×Value) (fun x=>[(5,(.int .i64 (((x.1:Nat):Int)))),(3,x.2),(1,(ptr Ba (0))),(2,(.slice none 0 0))]) (fun x=> .row x.2 87 2 ((Ch p x.1).length) ((Ch p x.1).flatMap Hb):: .Az Ba (.cells (BE p) 24 (0,0))::O) (fun x H'=>x.1≤256) (fun x=>256-x.1) (0, .slice none 0 0) ?_ ?_ ?_ ?_
 ·exact(by omega)
 ·exact .cons (rf) (.cons (rf) (.cons (rf) (.cons (rf) (.nil))))
 ·exact(by first|rfl|(rw[J5];done)|(rw[J5];rfl))
 intro x H1 hle2 hi3
 have hc:=Lm p x.1
 refine Wp.seq ?_
 refine Wp.region ?_
 refine Aa.op (Ab.lss rf rf) rf ?_
 refine Aa.nil ?_
 refine At.Ae ?_
 refine Wp.seq ?_
 refine Wp.cond (b:=decide (((x.1:Nat):Int)<256)) rf (fun hb4=>?_) (fun hb4=>?_)
 ·
  replace hb4:=of_decide_eq_true hb4
  refine Wp.skip ?_
  refine At.Ae ?_
  refine Wp.seq ?_
  refine Wp.block ?_
  refine Wp.seq ?_
  refine Wp.region ?_
  refine Aa.op (Ab.move rf) rf ?_
  refine Aa.op (Ab.assign rf) rf ?_
  refine Aa.nil ?_
  refine At.Ae ?_
  refine Wp.block ?_
  refine Wp.seq ?_
  refine Wp.region ?_
  refine Aa.op (Ab.Aw (i:=1) Tryz.underlying24 rf Bu rf rf rf) rf ?_
  refine Aa.op (Ab.move rf) rf ?_
  refine Aa.op (Ab.conv Tryz.underlying3 Tryz.underlying5 rf (DW (by omega))) rf ?_
  refine Aa.op (Ab.call Kv rf (MM p x.1 (by omega))) rf ?_
  refine Aa.op (Ab.not rf) rf ?_
  refine Aa.op (Ab.assign rf) rf ?_
  refine Aa.nil ?_
  refine At.Ae ?_
  refine Wp.cond (b:= !(p x.1)) rf (fun hb5=>?_) (fun hb5=>?_)
  ·
   refine Wp.skip ?_
   refine At.AF ?_
   refine At.AF ?_
   refine At.Ae ?_
   refine Wp.region ?_
   refine Aa.op (Ab.add rf rf (Av (by omega))) rf ?_
   refine Aa.op (Ab.move rf) rf ?_
   refine Aa.nil ?_
   refine At.next (x.1+1,x.2) (Hp.le.refl _) ?_ ?_ ?_ ?_
   ·exact(by(try dsimp only);omega)
   ·exact .cons (rf) (.cons (rf) (.cons (rf) (.cons (rf) (.nil))))
   ·exact(by first|rfl|(rw[←D5 p x.1 (by simp_all)];done)|(rw[←D5 p x.1 (by simp_all)];rfl))
   ·exact(by(try dsimp only);omega)
  ·
   refine Wp.seq ?_
   refine Wp.region ?_
   refine Aa.op (Ab.move rf) rf ?_
   refine Aa.op (Ab.gtr rf rf) rf ?_
   refine Aa.op (Ab.move rf) rf ?_
   refine Aa.split (t:=25) (b:=decide (0<((x.1:Nat):Int))) rf (fun hb6=>?_) (fun hb6=>?_)
   ·
    replace hb6:=of_decide_eq_true hb6
    refine Aa.AQ rf rf (Ab.Aw (i:=1) Tryz.underlying24 rf Bu rf rf rf) rf ?_
    refine Aa.AQ rf rf (Ab.move rf) rf ?_
    refine Aa.AQ rf rf (Ab.cast (v':=(.int .i64 ((((x.1-1):Nat):Int)))) (Ab.sub rf rf (Av (by omega))) (congrArg (Value.int .i64) (by omega))) rf ?_
    refine Aa.AQ rf rf (Ab.conv Tryz.underlying3 Tryz.underlying5 rf (DW (by omega))) rf ?_
    refine Aa.AQ rf rf (Ab.call Kv rf (MM p (x.1-1) (by omega))) rf ?_
    refine Aa.op (Ab.AU rf rf) rf ?_
    refine Aa.op (Ab.assign rf) rf ?_
    refine Aa.nil ?_
    refine At.Ae ?_
    refine Wp.cond (b:=p (x.1-1)) rf (fun hb7=>?_) (fun hb7=>?_)
    ·
     refine Wp.region ?_
     refine Aa.op (Ab.move rf) rf ?_
     refine Aa.op (Ab.move rf) rf ?_
     refine Aa.op (Ab.CW (i:=0) Tryz.underlying85 rf rf) rf ?_
     refine Aa.op (Ab.cast (v':=(.int .i64 (((((Ch p x.1).length-1):Nat):Int)))) (Ab.sub rf rf (Av (by omega))) (congrArg (Value.int .i64) (by have:=J4 p x.1 (by omega) (by assumption);omega))) rf ?_
     refine Aa.op (Ab.move rf) rf ?_
     refine Aa.op (Ab.conv Tryz.underlying3 Tryz.underlying5 rf (DW (by omega))) rf ?_
     refine Aa.op (Ab.Co (j:=0) Tryz.underlying85 K4 rf rf rf (by have:=J4 p x.1 (by omega) (by assumption);omega)) rf ?_
     refine Aa.op (Ab.TF (q:=0) (j:=((Ch p x.1).length-1)*2) Tryz.underlying87 V5 rf rf (J4 p x.1 (by omega) (by assumption)) rf (by omega)) rf ?_
     refine Aa.WA (i:=0) (k:=((Ch p x.1).length-1)*2+1) rf rf rf V5 rf (by rw[SK];have:=J4 p x.1 (by omega) (by assumption);omega) ?_
     refine Aa.own (O:= .row x.2 87 2 ((Ch p (x.1+1)).length) ((Ch p (x.1+1)).flatMap Hb):: .Az Ba (.cells (BE p) 24 (0,0))::O) ?_ (by rw[SJ p x.1 (by simp_all) (by omega) (by assumption),←Rw p x.1 (by simp_all) (by omega) (by assumption)];rfl)
     refine Aa.nil ?_
     refine At.AF ?_
     refine At.AF ?_
     refine At.Ae ?_
     refine Wp.region ?_
     refine Aa.op (Ab.add rf rf (Av (by omega))) rf ?_
     refine Aa.op (Ab.move rf) rf ?_
     refine Aa.nil ?_
     refine At.next (x.1+1,x.2) (Hp.le.refl _) ?_ ?_ ?_ ?_
     ·exact(by(try dsimp only);omega)
     ·exact .cons (rf) (.cons (rf) (.cons (rf) (.cons (rf) (.nil))))
     ·exact(by first|rfl|(rw[←D5 p x.1 (by simp_all)];done)|(rw[←D5 p x.1 (by simp_all)];rfl))
     ·exact(by(try dsimp only);omega)
    ·
     refine Wp.region ?_
     refine Aa.op (Ab.move rf) rf ?_
     refine Aa.op (Ab.move rf) rf ?_
     refine Aa.op (Ab.conv Tryz.underlying3 Tryz.underlying5 rf (DW (by omega))) rf ?_
     refine Aa.op (Ab.move rf) rf ?_
     refine Aa.op (Ab.conv Tryz.underlying3 Tryz.underlying5 rf (DW (by omega))) rf ?_
     refine Aa.op (Ab.Ki (vs:=[(0,(.int .u8 (((x.1:Nat):Int)))),(1,(.int .u8 (((x.1:Nat):Int))))]) (cs:= #[(.int .u8 (((x.1:Nat):Int))),(.int .u8 (((x.1:Nat):Int)))]) Tryz.underlying87 K4 V5 rf rf rf) rf ?_
     refine Aa.Hf (cs:=(#[(.int .u8 (((x.1:Nat):Int))),(.int .u8 (((x.1:Nat):Int)))])) Tryz.underlying85 K4 rf rf rf rf rf rf fun v8=>?_
     refine Aa.append (z:=(.agg #[.int .u8 0, .int .u8 0])) (i:=1) Tryz.underlying85 K4 rf (by decide) rf rf rf (fun w hs=>hs.J1 (i:=0) rf) (Qk rf) (by omega) (by omega) rf fun v9=>?_
     refine Aa.drop (i:=0) ?_
     refine Aa.own (O:= .row v9 87 2 ((Ch p (x.1+1)).length) ((Ch p (x.1+1)).flatMap Hb):: .Az Ba (.cells (BE p) 24 (0,0))::O) ?_ (by rw[Ji p x.1 (by simp_all) (by first|omega|simp_all)];simp[Hb])
     refine Aa.op (Ab.assign rf) rf ?_
     refine Aa.nil ?_
     refine At.AF ?_
     refine At.AF ?_
     refine At.Ae ?_
     refine Wp.region ?_
     refine Aa.op (Ab.add rf rf (Av (by omega))) rf ?_
     refine Aa.op (Ab.move rf) rf ?_
     refine Aa.nil ?_
     refine At.next (x.1+1,v9) (Hp.le.refl _) ?_ ?_ ?_ ?_
     ·exact(by(try dsimp only);omega)
     ·exact .cons (rf) (.cons (rf) (.cons (rf) (.cons (rf) (.nil))))
     ·exact(by first|rfl|(rw[←D5 p x.1 (by simp_all)];done)|(rw[←D5 p x.1 (by simp_all)];rfl))
     ·exact(by(try dsimp only);omega)
   ·
    replace hb6:=of_decide_eq_false hb6
    refine Aa.Ak rf rf rf rf ?_
    refine Aa.Ak rf rf rf rf ?_
    refine Aa.Ak rf rf rf rf ?_
    refine Aa.Ak rf rf rf rf ?_
    refine Aa.Ak rf rf rf rf ?_
    refine Aa.op (Ab.AP rf rf) rf ?_
    refine Aa.op (Ab.assign rf) rf ?_
    refine Aa.nil ?_
    refine At.Ae ?_
    refine Wp.Hd rf ?_
    refine Wp.region ?_
    refine Aa.op (Ab.move rf) rf ?_
    refine Aa.op (Ab.move rf) rf ?_
    refine Aa.op (Ab.conv Tryz.underlying3 Tryz.underlying5 rf (DW (by omega))) rf ?_
    refine Aa.op (Ab.move rf) rf ?_
    refine Aa.op (Ab.conv Tryz.underlying3 Tryz.underlying5 rf (DW (by omega))) rf ?_
    refine Aa.op (Ab.Ki (vs:=[(0,(.int .u8 (((x.1:Nat):Int)))),(1,(.int .u8 (((x.1:Nat):Int))))]) (cs:= #[(.int .u8 (((x.1:Nat):Int))),(.int .u8 (((x.1:Nat):Int)))]) Tryz.underlying87 K4 V5 rf rf rf) rf ?_
    refine Aa.Hf (cs:=(#[(.int .u8 (((x.1:Nat):Int))),(.int .u8 (((x.1:Nat):Int)))])) Tryz.underlying85 K4 rf rf rf rf rf rf fun v10=>?_
    refine Aa.append (z:=(.agg #[.int .u8 0, .int .u8 0])) (i:=1) Tryz.underlying85 K4 rf (by decide) rf rf rf (fun w hs=>hs.J1 (i:=0) rf) (Qk rf) (by omega) (by omega) rf fun v11=>?_
    refine Aa.drop (i:=0) ?_
    refine Aa.own (O:= .row v11 87 2 ((Ch p (x.1+1)).length) ((Ch p (x.1+1)).flatMap Hb):: .Az Ba (.cells (BE p) 24 (0,0))::O) ?_ (by rw[Ji p x.1 (by simp_all) (by first|omega|simp_all)];simp[Hb])
    refine Aa.op (Ab.assign rf) rf ?_
    refine Aa.nil ?_
    refine At.AF ?_
    refine At.AF ?_
    refine At.Ae ?_
    refine Wp.region ?_
    refine Aa.op (Ab.add rf rf (Av (by omega))) rf ?_
    refine Aa.op (Ab.move rf) rf ?_
    refine Aa.nil ?_
    refine At.next (x.1+1,v11) (Hp.le.refl _) ?_ ?_ ?_ ?_
    ·exact(by(try dsimp only);omega)
    ·exact .cons (rf) (.cons (rf) (.cons (rf) (.cons (rf) (.nil))))
    ·exact(by first|rfl|(rw[←D5 p x.1 (by simp_all)];done)|(rw[←D5 p x.1 (by simp_all)];rfl))
    ·exact(by(try dsimp only);omega)
 ·
  replace hb4:=of_decide_eq_false hb4
  refine Wp.exit ?_
  refine At.Ao ?_
  refine At.Ao ?_
  refine At.AB ?_
  refine At.Ae ?_
  refine Wp.seq ?_
  refine Wp.region ?_
  refine Aa.op (Ab.move rf) rf ?_
  refine Aa.op (Ab.assign rf) rf ?_
  refine Aa.nil ?_
  refine At.Ae ?_
  refine Wp.ret ?_
  refine At.freeze (i:=0) rf fun H12 hle13 hsl14=>?_
  refine At.drop (i:=0) ?_
  refine At.C_ rf (RV.tmp (v:=x.2) rf) ?_
  exact YV.mk (hle2.trans hle13) (⟨rf,by have e:x.1=256:=(by omega);rw[e]at hsl14;exact hsl14⟩)
theorem WN(l:List St)(v:Value)(hl:Sl H v 4 l.length (l.flatMap IM))(hn:l.length≤4294967296):
  Eg Tryz.prog 29 [v] H O (fun v H' O'=>O'=O∧Sl H' v 4 (partsOf l).length ((partsOf l).flatMap IM)):=by
 intro w hs
 refine Bo Tryz.func29 rf rf rf ?_ hs
 clear hs w
 refine Wp.seq ?_
 refine Wp.region ?_
 refine Aa.op (Ab.assign rf) rf ?_
 refine Aa.nil ?_
 refine At.Ae ?_
 refine Wp.seq ?_
 refine Wp.region ?_
 refine Aa.op (Ab.call Yr rf (Zj 0 255 (by decide) (by decide))) rf ?_
 refine Aa.Hf (cs:=(BE (Sc 0 255))) Tryz.underlying69 Bu rf rf rf rf rf rf fun v1=>?_
 refine Aa.op (Ab.assign rf) rf ?_
 refine Aa.nil ?_
 refine At.Ae ?_
 refine Wp.seq ?_
 refine Wp.seq ?_
 refine Wp.region ?_
 refine Aa.op (Ab.move rf) rf ?_
 refine Aa.op (Ab.WY Tryz.underlying69 rf hl) rf ?_
 refine Aa.op (Ab.move rf) rf ?_
 refine Aa.nil ?_
 refine At.Ae ?_
 refine Wp.block ?_
 refine Wp.loop (X:=Nat×Value) (fun x=>[(20,(.int .i64 (((x.1:Nat):Int)))),(3,x.2),(2,(.slice none 0 0)),(18,v),(19,(.int .i64 (((l.length:Nat):Int))))]) (fun x=> .row x.2 24 4 ((AY l x.1).length) ((AY l x.1).flatMap IM)::O) (fun x H'=>x.1≤l.length) (fun x=>l.length-x.1) (0,v1) ?_ ?_ ?_ ?_
 ·exact(by(try dsimp only);omega)
 ·exact .cons (rf) (.cons (rf) (.cons (rf) (.cons (rf) (.cons (rf) (.nil)))))
 ·exact(by rw[Im];simp[IM])
 intro x H2 hle3 hi4
 have hp:=Ol l x.1
 refine Wp.seq ?_
 refine Wp.region ?_
 refine Aa.op (Ab.lss rf rf) rf ?_
 refine Aa.nil ?_
 refine At.Ae ?_
 refine Wp.seq ?_
 refine Wp.cond (b:=decide (((x.1:Nat):Int)<((l.length:Nat):Int))) rf (fun hb5=>?_) (fun hb5=>?_)
 ·
  replace hb5:=of_decide_eq_true hb5
  refine Wp.skip ?_
  refine At.Ae ?_
  refine Wp.seq ?_
  refine Wp.block ?_
  refine Wp.seq ?_
  refine Wp.region ?_
  refine Aa.op (Ab.Yc Tryz.underlying69 Bu rf (hl.mono hle3) rf (by omega)) rf ?_
  refine Aa.op (Ab.WZ (vs:=(IM (nth l x.1))) Tryz.underlying24 rf Bu (PV _) rf (hl.mono hle3) (PW l x.1 (by omega))) rf ?_
  refine Aa.alloc (cs:=BE (fun _=>false)) Bu Cx rf fun Bs=>?_
  refine Aa.AM (i:=0) (cs':=(BE (nth l x.1))) rf rf Bu rf rf (DN _) rf ?_
  refine Aa.nil ?_
  refine At.Ae ?_
  refine Wp.seq ?_
  refine Wp.region ?_
  refine Aa.op (Ab.assign rf) rf ?_
  refine Aa.nil ?_
  refine At.Ae ?_
  refine Wp.seq ?_
  refine Wp.seq ?_
  refine Wp.Cb 24 4 ?_
  refine Wp.region ?_
  refine Aa.op (Ab.move rf) rf ?_
  refine Aa.op (Ab.CW (i:=2) Tryz.underlying69 rf rf) rf ?_
  refine Aa.op (Ab.move rf) rf ?_
  refine Aa.nil ?_
  refine At.Ae ?_
  refine Wp.block ?_
  refine Wp.loop (X:=Nat×Value) (fun y=>[(26,(.int .i64 (((y.1:Nat):Int)))),(6,y.2),(20,(.int .i64 (((x.1:Nat):Int)))),(3,x.2),(2,(.slice none 0 0)),(18,v),(19,(.int .i64 (((l.length:Nat):Int)))),(21,(.bool (decide (((x.1:Nat):Int)<((l.length:Nat):Int))))),(22,(AG v (x.1*4))),(23,(.agg (BE (nth l x.1)))),(5,(ptr Bs (0))),(24,x.2),(25,(.int .i64 ((((AY l x.1).length:Nat):Int))))]) (fun y=> .row y.2 24 4 ((nx l x.1 y.1 0).length) ((nx l x.1 y.1 0).flatMap IM):: .Az Bs (.cells (BE (nth l x.1)) 24 (0,0)):: .row x.2 24 4 ((AY l x.1).length) ((AY l x.1).flatMap IM)::O) (fun y H'=>y.1≤(AY l x.1).length) (fun y=>(AY l x.1).length-y.1) (0, .slice none 0 0) ?_ ?_ ?_ ?_
  ·exact(by(try dsimp only);omega)
  ·exact .cons (rf) (.cons (rf) (.cons (rf) (.cons (rf) (.cons (rf) (.cons (rf) (.cons (rf) (.cons (rf) (.cons (rf) (.cons (rf) (.cons (rf) (.cons (rf) (.cons (rf) (.nil)))))))))))))
  ·exact(by first|rfl|(rw[Ql];done)|(rw[Ql];rfl))
  intro y H6 hle7 hi8
  refine Wp.seq ?_
  refine Wp.region ?_
  refine Aa.op (Ab.lss rf rf) rf ?_
  refine Aa.nil ?_
  refine At.Ae ?_
  refine Wp.seq ?_
  refine Wp.cond (b:=decide (((y.1:Nat):Int)<(((AY l x.1).length:Nat):Int))) rf (fun hb9=>?_) (fun hb9=>?_)
  ·
   replace hb9:=of_decide_eq_true hb9
   refine Wp.skip ?_
   refine At.Ae ?_
   refine Wp.seq ?_
   refine Wp.block ?_
   refine Wp.seq ?_
   refine Wp.region ?_
   refine Aa.op (Ab.Co (j:=2) Tryz.underlying69 Bu rf rf rf (by omega)) rf ?_
   refine Aa.op (Ab.Nx (i:=2) (vs:=(IM (nth (AY l x.1) y.1))) Tryz.underlying24 rf Bu (PV _) rf rf (PW (AY l x.1) y.1 (by omega))) rf ?_
   refine Aa.alloc (cs:=BE (fun _=>false)) Bu Cx rf fun Bp=>?_
   refine Aa.AM (i:=0) (cs':=(BE (nth (AY l x.1) y.1))) rf rf Bu rf rf (DN _) rf ?_
   refine Aa.nil ?_
   refine At.Ae ?_
   refine Wp.seq ?_
   refine Wp.Ea 9 follows rf (by kernel_rfl) ?_
   refine Ai.A7 (Ab.Aw (i:=0) Tryz.underlying24 rf Bu rf rf rf) rf ?_
   refine Ai.A7 (Ab.Aw (i:=2) Tryz.underlying24 rf Bu rf rf rf) rf ?_
   refine Ai.A7 (Ab.cast (v':=(.agg (BE (D8 (nth (AY l x.1) y.1) (nth l x.1))))) (Ab.call Wf rf (Wq (nth (AY l x.1) y.1) (nth l x.1))) (VD _ _)) rf ?_
   refine Ai.A7 (Ab.Aw (i:=0) Tryz.underlying24 rf Bu rf rf rf) rf ?_
   refine Ai.A7 (Ab.Aw (i:=2) Tryz.underlying24 rf Bu rf rf rf) rf ?_
   refine Ai.A7 (Ab.call Yq rf (X2 (nth l x.1))) rf ?_
   refine Ai.A7 (Ab.cast (v':=(.agg (BE (D7 (nth (AY l x.1) y.1) (nth l x.1))))) (Ab.call Wf rf (Wq (nth (AY l x.1) y.1) (fun t=> !(nth l x.1) t))) (VB _ _)) rf ?_
   refine Ai.A7 (Ab.Ki (vs:=[(0, .agg (BE (D8 (nth (AY l x.1) y.1) (nth l x.1)))),(1, .agg (BE (D7 (nth (AY l x.1) y.1) (nth l x.1))))]) (cs:=Um (D8 (nth (AY l x.1) y.1) (nth l x.1)) (D7 (nth (AY l x.1) y.1) (nth l x.1))) Tryz.underlying105 XM Bu rf rf (Yk _ _)) rf ?_
   refine Ai.A7 (Ab.move rf) rf ?_
   refine Ai.Eb ?_
   refine As.is (t:=26) (v:=(.int .i64 (((y.1:Nat):Int)))) rf ?_
   refine As.is (t:=6) (v:=y.2) rf ?_
   refine As.is (t:=20) (v:=(.int .i64 (((x.1:Nat):Int)))) rf ?_
   refine As.is (t:=3) (v:=x.2) rf ?_
   refine As.is (t:=2) (v:=(.slice none 0 0)) rf ?_
   refine As.is (t:=18) (v:=v) rf ?_
   refine As.is (t:=19) (v:=(.int .i64 (((l.length:Nat):Int)))) rf ?_
   refine As.is (t:=21) (v:=(.bool (decide (((x.1:Nat):Int)<((l.length:Nat):Int))))) rf ?_
   refine As.is (t:=22) (v:=(AG v (x.1*4))) rf ?_
   refine As.is (t:=23) (v:=(.agg (BE (nth l x.1)))) rf ?_
   refine As.is (t:=5) (v:=(ptr Bs (0))) rf ?_
   refine As.is (t:=24) (v:=x.2) rf ?_
   refine As.is (t:=25) (v:=(.int .i64 ((((AY l x.1).length:Nat):Int)))) rf ?_
   refine As.is (t:=27) (v:=(.bool (decide (((y.1:Nat):Int)<(((AY l x.1).length:Nat):Int))))) rf ?_
   refine As.is (t:=28) (v:=(AG x.2 (y.1*4))) rf ?_
   refine As.is (t:=29) (v:=(.agg (BE (nth (AY l x.1) y.1)))) rf ?_
   refine As.is (t:=8) (v:=(ptr Bp (0))) rf ?_
   refine As.is (t:=30) (v:=(.agg (BE (nth (AY l x.1) y.1)))) rf ?_
   refine As.is (t:=31) (v:=(.agg (BE (nth l x.1)))) rf ?_
   refine As.is (t:=32) (v:=(.agg (BE (D8 (nth (AY l x.1) y.1) (nth l x.1))))) rf ?_
   refine As.is (t:=33) (v:=(.agg (BE (nth (AY l x.1) y.1)))) rf ?_
   refine As.is (t:=34) (v:=(.agg (BE (nth l x.1)))) rf ?_
   refine As.is (t:=35) (v:=(.agg (BE (fun t=> !(nth l x.1) t)))) rf ?_
   refine As.is (t:=36) (v:=(.agg (BE (D7 (nth (AY l x.1) y.1) (nth l x.1))))) rf ?_
   refine As.is (t:=37) (v:=(.agg (Um (D8 (nth (AY l x.1) y.1) (nth l x.1)) (D7 (nth (AY l x.1) y.1) (nth l x.1))))) rf ?_
   refine As.is (t:=38) (v:=(.int .i64 (0))) rf ?_
   refine As.Me ?_
   refine Aa.nil ?_
   refine At.Ae ?_
   refine Wp.block ?_
   refine Wp.loop (X:=Nat×Value) (fun z=>[(38,(.int .i64 (((z.1:Nat):Int)))),(6,z.2),(26,(.int .i64 (((y.1:Nat):Int)))),(20,(.int .i64 (((x.1:Nat):Int)))),(3,x.2),(2,(.slice none 0 0)),(18,v),(19,(.int .i64 (((l.length:Nat):Int)))),(21,(.bool (decide (((x.1:Nat):Int)<((l.length:Nat):Int))))),(22,(AG v (x.1*4))),(23,(.agg (BE (nth l x.1)))),(5,(ptr Bs (0))),(24,x.2),(25,(.int .i64 ((((AY l x.1).length:Nat):Int)))),(27,(.bool (decide (((y.1:Nat):Int)<(((AY l x.1).length:Nat):Int))))),(28,(AG x.2 (y.1*4))),(29,(.agg (BE (nth (AY l x.1) y.1)))),(8,(ptr Bp (0))),(30,(.agg (BE (nth (AY l x.1) y.1)))),(31,(.agg (BE (nth l x.1)))),(32,(.agg (BE (D8 (nth (AY l x.1) y.1) (nth l x.1))))),(33,(.agg (BE (nth (AY l x.1) y.1)))),(34,(.agg (BE (nth l x.1)))),(35,(.agg (BE (fun t=> !(nth l x.1) t)))),(36,(.agg (BE (D7 (nth (AY l x.1) y.1) (nth l x.1))))),(37,(.agg (Um (D8 (nth (AY l x.1) y.1) (nth l x.1)) (D7 (nth (AY l x.1) y.1) (nth l x.1)))))]) (fun z=> .Az Bp (.cells (BE (nth (AY l x.1) y.1)) 24 (0,0)):: .row z.2 24 4 ((nx l x.1 y.1 z.1).length) ((nx l x.1 y.1 z.1).flatMap IM):: .Az Bs (.cells (BE (nth l x.1)) 24 (0,0)):: .row x.2 24 4 ((AY l x.1).length) ((AY l x.1).flatMap IM)::O) (fun z H'=>z.1≤2) (fun z=>2-z.1) (0,y.2) ?_ ?_ ?_ ?_
   ·exact(by(try dsimp only);omega)
   ·exact .cons (rf) (.cons (rf) (.cons (rf) (.cons (rf) (.cons (rf) (.cons (rf) (.cons (rf) (.cons (rf) (.cons (rf) (.cons (rf) (.cons (rf) (.cons (rf) (.cons (rf) (.cons (rf) (.cons (rf) (.cons (rf) (.cons (rf) (.cons (rf) (.cons (rf) (.cons (rf) (.cons (rf) (.cons (rf) (.cons (rf) (.cons (rf) (.cons (rf) (.cons (rf) (.nil))))))))))))))))))))))))))
   ·exact(rf)
   intro z H10 hle11 hi12
   have hx:=WQ l x.1 y.1 z.1 (by omega)
   refine Wp.seq ?_
   refine Wp.region ?_
   refine Aa.op (Ab.lss rf rf) rf ?_
   refine Aa.nil ?_
   refine At.Ae ?_
   refine Wp.seq ?_
   refine Wp.cond (b:=decide (((z.1:Nat):Int)<2)) rf (fun hb13=>?_) (fun hb13=>?_)
   ·
    replace hb13:=of_decide_eq_true hb13
    refine Wp.skip ?_
    refine At.Ae ?_
    refine Wp.seq ?_
    refine Wp.block ?_
    refine Wp.seq ?_
    refine Wp.region ?_
    refine Aa.op (Ab.cast (v':= .agg (BE (NS (D8 (nth (AY l x.1) y.1) (nth l x.1)) (D7 (nth (AY l x.1) y.1) (nth l x.1)) z.1))) (Ab.W2 Tryz.underlying105 Tryz.underlying24 rf Bu rf rf (by omega)) (VO _ _ z.1 (by omega))) rf ?_
    refine Aa.alloc (cs:=BE (fun _=>false)) Bu Cx rf fun Bx=>?_
    refine Aa.AM (i:=0) (cs':=(BE (NS (D8 (nth (AY l x.1) y.1) (nth l x.1)) (D7 (nth (AY l x.1) y.1) (nth l x.1)) z.1))) rf rf Bu rf rf (DN _) rf ?_
    refine Aa.nil ?_
    refine At.Ae ?_
    refine Wp.seq ?_
    refine Wp.region ?_
    refine Aa.op (Ab.Aw (i:=0) Tryz.underlying24 rf Bu rf rf rf) rf ?_
    refine Aa.op (Ab.cast (Ab.Ki (ps:=[]) Tryz.underlying24 Bu E2 rf rf rf) (congrArg Value.agg Cx)) rf ?_
    refine Aa.op (Ab.BR (b:= !Mh (NS (D8 (nth (AY l x.1) y.1) (nth l x.1)) (D7 (nth (AY l x.1) y.1) (nth l x.1)) z.1) (fun _=>false)) (c:=ne (NS (D8 (nth (AY l x.1) y.1) (nth l x.1)) (D7 (nth (AY l x.1) y.1) (nth l x.1)) z.1)) (Ab.Vg (p:=(NS (D8 (nth (AY l x.1) y.1) (nth l x.1)) (D7 (nth (AY l x.1) y.1) (nth l x.1)) z.1)) (q:=(fun _=>false)) QP Tryz.underlying24 Tryz.underlying22 E2 rf rf) (ne_eq _)) rf ?_
    refine Aa.nil ?_
    refine At.Ae ?_
    refine Wp.cond (b:=ne (NS (D8 (nth (AY l x.1) y.1) (nth l x.1)) (D7 (nth (AY l x.1) y.1) (nth l x.1)) z.1)) rf (fun hb14=>?_) (fun hb14=>?_)
    ·
     refine Wp.region ?_
     refine Aa.op (Ab.move rf) rf ?_
     refine Aa.op (Ab.Aw (i:=0) Tryz.underlying24 rf Bu rf rf rf) rf ?_
     refine Aa.Hf (cs:=(BE (NS (D8 (nth (AY l x.1) y.1) (nth l x.1)) (D7 (nth (AY l x.1) y.1) (nth l x.1)) z.1))) Tryz.underlying69 Bu rf rf rf rf rf rf fun v15=>?_
     refine Aa.append (z:=(.agg #[.int .u64 0, .int .u64 0, .int .u64 0, .int .u64 0])) (i:=3) Tryz.underlying69 Bu rf (by decide) rf rf rf (fun w hs=>hs.J1 (i:=0) rf) (by simpa using DN _) (by omega) (by omega) rf fun v16=>?_
     refine Aa.drop (i:=0) ?_
     refine Aa.op (Ab.assign rf) rf ?_
     refine Aa.nil ?_
     refine At.AF ?_
     refine At.Ae ?_
     refine Wp.region ?_
     refine Aa.op (Ab.add rf rf (Av (by omega))) rf ?_
     refine Aa.op (Ab.move rf) rf ?_
     refine Aa.nil ?_
     refine At.drop (i:=0) ?_
     refine At.next (z.1+1,v16) (Hp.le.refl _) ?_ ?_ ?_ ?_
     ·exact(by(try dsimp only);omega)
     ·exact .cons (rf) (.cons (rf) (.cons (rf) (.cons (rf) (.cons (rf) (.cons (rf) (.cons (rf) (.cons (rf) (.cons (rf) (.cons (rf) (.cons (rf) (.cons (rf) (.cons (rf) (.cons (rf) (.cons (rf) (.cons (rf) (.cons (rf) (.cons (rf) (.cons (rf) (.cons (rf) (.cons (rf) (.cons (rf) (.cons (rf) (.cons (rf) (.cons (rf) (.cons (rf) (.nil))))))))))))))))))))))))))
     ·exact(by first|(rw[S6 l x.1 y.1 z.1 (by omega) (by assumption)];simp[IM];done)|(rw[Qm l x.1 y.1 z.1 (by omega) (by assumption)];rfl))
     ·exact(by(try dsimp only);omega)
    ·
     refine Wp.skip ?_
     refine At.AF ?_
     refine At.Ae ?_
     refine Wp.region ?_
     refine Aa.op (Ab.add rf rf (Av (by omega))) rf ?_
     refine Aa.op (Ab.move rf) rf ?_
     refine Aa.nil ?_
     refine At.drop (i:=0) ?_
     refine At.next (z.1+1,z.2) (Hp.le.refl _) ?_ ?_ ?_ ?_
     ·exact(by(try dsimp only);omega)
     ·exact .cons (rf) (.cons (rf) (.cons (rf) (.cons (rf) (.cons (rf) (.cons (rf) (.cons (rf) (.cons (rf) (.cons (rf) (.cons (rf) (.cons (rf) (.cons (rf) (.cons (rf) (.cons (rf) (.cons (rf) (.cons (rf) (.cons (rf) (.cons (rf) (.cons (rf) (.cons (rf) (.cons (rf) (.cons (rf) (.cons (rf) (.cons (rf) (.cons (rf) (.cons (rf) (.nil))))))))))))))))))))))))))
     ·exact(by first|(rw[S6 l x.1 y.1 z.1 (by omega) (by assumption)];simp[IM];done)|(rw[Qm l x.1 y.1 z.1 (by omega) (by assumption)];rfl))
     ·exact(by(try dsimp only);omega)
   ·
    replace hb13:=of_decide_eq_false hb13
    refine Wp.exit ?_
    refine At.Ao ?_
    refine At.Ao ?_
    refine At.AB ?_
    refine At.AF ?_
    refine At.Ae ?_
    refine Wp.region ?_
    refine Aa.op (Ab.add rf rf (Av (by omega))) rf ?_
    refine Aa.op (Ab.move rf) rf ?_
    refine Aa.nil ?_
    refine At.drop (i:=0) ?_
    refine At.next (y.1+1,z.2) hle11 ?_ ?_ ?_ ?_
    ·exact(by(try dsimp only);omega)
    ·exact .cons (rf) (.cons (rf) (.cons (rf) (.cons (rf) (.cons (rf) (.cons (rf) (.cons (rf) (.cons (rf) (.cons (rf) (.cons (rf) (.cons (rf) (.cons (rf) (.cons (rf) (.nil)))))))))))))
    ·exact(by first|rfl|(rw[Qn l x.1 y.1 (by omega),show z.1=2 by omega];done)|(rw[Qn l x.1 y.1 (by omega),show z.1=2 by omega];rfl))
    ·exact(by(try dsimp only);omega)
  ·
   replace hb9:=of_decide_eq_false hb9
   refine Wp.exit ?_
   refine At.Ao ?_
   refine At.Ao ?_
   refine At.AB ?_
   refine At.Ae ?_
   refine Wp.region ?_
   refine Aa.op (Ab.move rf) rf ?_
   refine Aa.op (Ab.assign rf) rf ?_
   refine Aa.nil ?_
   refine At.drop (i:=2) ?_
   refine At.AF ?_
   refine At.Ae ?_
   refine Wp.region ?_
   refine Aa.op (Ab.add rf rf (Av (by omega))) rf ?_
   refine Aa.op (Ab.move rf) rf ?_
   refine Aa.nil ?_
   refine At.drop (i:=1) ?_
   refine At.next (x.1+1,y.2) hle7 ?_ ?_ ?_ ?_
   ·exact(by(try dsimp only);omega)
   ·exact .cons (rf) (.cons (rf) (.cons (rf) (.cons (rf) (.cons (rf) (.nil)))))
   ·exact(by first|rfl|(rw[Qo l x.1 y.1 (by omega) (by omega)];done)|(rw[Qo l x.1 y.1 (by omega) (by omega)];rfl))
   ·exact(by(try dsimp only);omega)
 ·
  replace hb5:=of_decide_eq_false hb5
  refine Wp.exit ?_
  refine At.Ao ?_
  refine At.Ao ?_
  refine At.AB ?_
  refine At.Ae ?_
  refine Wp.seq ?_
  refine Wp.region ?_
  refine Aa.op (Ab.assign rf) rf ?_
  refine Aa.nil ?_
  refine At.Ae ?_
  refine Wp.seq ?_
  refine Wp.Cb 24 4 ?_
  refine Wp.region ?_
  refine Aa.op (Ab.cast (Ab.Ki (ps:=[]) Tryz.underlying24 Bu E2 rf rf rf) (congrArg Value.agg Cx)) rf ?_
  refine Aa.alloc (cs:=BE (fun _=>false)) Bu Cx rf fun Bn=>?_
  refine Aa.AM (i:=0) (cs':=(BE (fun _=>false))) rf rf Bu rf rf (DN _) rf ?_
  refine Aa.nil ?_
  refine At.Ae ?_
  refine Wp.seq ?_
  refine Wp.seq ?_
  refine Wp.region ?_
  refine Aa.op (Ab.move rf) rf ?_
  refine Aa.nil ?_
  refine At.Ae ?_
  refine Wp.block ?_
  refine Wp.loop (X:=Nat×Value) (fun b=>[(53,(.int .i64 (((b.1:Nat):Int)))),(11,b.2),(3,x.2),(2,(.slice none 0 0)),(12,(ptr Bn (0)))]) (fun b=> .Az Bn (.cells (BE (Cg (AY l x.1) b.1).2) 24 (0,0)):: .row b.2 24 4 (((Cg (AY l x.1) b.1).1).length) (((Cg (AY l x.1) b.1).1).flatMap IM):: .row x.2 24 4 ((AY l x.1).length) ((AY l x.1).flatMap IM)::O) (fun b H'=>b.1≤256) (fun b=>256-b.1) (0, .slice none 0 0) ?_ ?_ ?_ ?_
  ·exact(by(try dsimp only);omega)
  ·exact .cons (rf) (.cons (rf) (.cons (rf) (.cons (rf) (.cons (rf) (.nil)))))
  ·exact(by first|rfl|(rw[I0];done)|(rw[I0];rfl))
  intro b H17 hle18 hi19
  refine Wp.seq ?_
  refine Wp.region ?_
  refine Aa.op (Ab.lss rf rf) rf ?_
  refine Aa.nil ?_
  refine At.Ae ?_
  refine Wp.seq ?_
  refine Wp.cond (b:=decide (((b.1:Nat):Int)<256)) rf (fun hb20=>?_) (fun hb20=>?_)
  ·
   replace hb20:=of_decide_eq_true hb20
   refine Wp.skip ?_
   refine At.Ae ?_
   refine Wp.seq ?_
   refine Wp.block ?_
   refine Wp.seq ?_
   refine Wp.region ?_
   refine Aa.op (Ab.move rf) rf ?_
   refine Aa.op (Ab.assign rf) rf ?_
   refine Aa.nil ?_
   refine At.Ae ?_
   refine Wp.seq ?_
   refine Wp.seq ?_
   refine Wp.region ?_
   refine Aa.op (Ab.Aw (i:=0) Tryz.underlying24 rf Bu rf rf rf) rf ?_
   refine Aa.op (Ab.move rf) rf ?_
   refine Aa.op (Ab.conv Tryz.underlying3 Tryz.underlying5 rf (DW (by omega))) rf ?_
   refine Aa.op (Ab.call Kv rf (MM ((Cg (AY l x.1) b.1).2) b.1 (by omega))) rf ?_
   refine Aa.nil ?_
   refine At.Ae ?_
   refine Wp.cond (b:=((Cg (AY l x.1) b.1).2) b.1) rf (fun hb21=>?_) (fun hb21=>?_)
   ·
    refine Wp.exit ?_
    refine At.Ao ?_
    refine At.AB ?_
    refine At.Ae ?_
    refine Wp.region ?_
    refine Aa.op (Ab.add rf rf (Av (by omega))) rf ?_
    refine Aa.op (Ab.move rf) rf ?_
    refine Aa.nil ?_
    refine At.next (b.1+1,b.2) (Hp.le.refl _) ?_ ?_ ?_ ?_
    ·exact(by(try dsimp only);omega)
    ·exact .cons (rf) (.cons (rf) (.cons (rf) (.cons (rf) (.cons (rf) (.nil)))))
    ·exact(by first|(rw[F_ _ b.1 (by assumption)];done)|(rw[F_ _ b.1 (by assumption)];rfl)|(rw[GX _ b.1 m.1 (by assumption) (by omega)];done)|(rw[GX _ b.1 m.1 (by assumption) (by omega)];rfl))
    ·exact(by(try dsimp only);omega)
   ·
    refine Wp.skip ?_
    refine At.Ae ?_
    refine Wp.seq ?_
    refine Wp.region ?_
    refine Aa.op (Ab.move rf) rf ?_
    refine Aa.op (Ab.CW (i:=2) Tryz.underlying69 rf rf) rf ?_
    refine Aa.op (Ab.move rf) rf ?_
    refine Aa.nil ?_
    refine At.Ae ?_
    refine Wp.block ?_
    refine Wp.loop (X:=Nat×Value) (fun m=>[(62,(.int .i64 (((m.1:Nat):Int)))),(11,m.2),(53,(.int .i64 (((b.1:Nat):Int)))),(3,x.2),(2,(.slice none 0 0)),(12,(ptr Bn (0))),(54,(.bool (decide (((b.1:Nat):Int)<256)))),(55,(.int .i64 (((b.1:Nat):Int)))),(13,(.int .i64 (((b.1:Nat):Int)))),(56,(.agg (BE (Cg (AY l x.1) b.1).2))),(57,(.int .i64 (((b.1:Nat):Int)))),(58,(.int .u8 (((b.1:Nat):Int)))),(59,(.bool (((Cg (AY l x.1) b.1).2) b.1))),(60,x.2),(61,(.int .i64 ((((AY l x.1).length:Nat):Int))))]) (fun m=> .Az Bn (.cells (BE (Ez (AY l x.1) b.1 m.1).2) 24 (0,0)):: .row m.2 24 4 (((Ez (AY l x.1) b.1 m.1).1).length) (((Ez (AY l x.1) b.1 m.1).1).flatMap IM):: .row x.2 24 4 ((AY l x.1).length) ((AY l x.1).flatMap IM)::O) (fun m H'=>m.1≤(AY l x.1).length) (fun m=>(AY l x.1).length-m.1) (0,b.2) ?_ ?_ ?_ ?_
    ·exact(by(try dsimp only);omega)
    ·exact .cons (rf) (.cons (rf) (.cons (rf) (.cons (rf) (.cons (rf) (.cons (rf) (.cons (rf) (.cons (rf) (.cons (rf) (.cons (rf) (.cons (rf) (.cons (rf) (.cons (rf) (.cons (rf) (.cons (rf) (.nil)))))))))))))))
    ·exact(by first|rfl|(rw[Lt];done)|(rw[Lt];rfl))
    intro m H22 hle23 hi24
    have ho:=RB (AY l x.1) (by omega) b.1 m.1
    refine Wp.seq ?_
    refine Wp.region ?_
    refine Aa.op (Ab.lss rf rf) rf ?_
    refine Aa.nil ?_
    refine At.Ae ?_
    refine Wp.seq ?_
    refine Wp.cond (b:=decide (((m.1:Nat):Int)<(((AY l x.1).length:Nat):Int))) rf (fun hb25=>?_) (fun hb25=>?_)
    ·
     replace hb25:=of_decide_eq_true hb25
     refine Wp.skip ?_
     refine At.Ae ?_
     refine Wp.seq ?_
     refine Wp.block ?_
     refine Wp.seq ?_
     refine Wp.region ?_
     refine Aa.op (Ab.Co (j:=2) Tryz.underlying69 Bu rf rf rf (by omega)) rf ?_
     refine Aa.op (Ab.Nx (i:=2) (vs:=(IM (nth (AY l x.1) m.1))) Tryz.underlying24 rf Bu (PV _) rf rf (PW (AY l x.1) m.1 (by omega))) rf ?_
     refine Aa.alloc (cs:=BE (fun _=>false)) Bu Cx rf fun Bq=>?_
     refine Aa.AM (i:=0) (cs':=(BE (nth (AY l x.1) m.1))) rf rf Bu rf rf (DN _) rf ?_
     refine Aa.nil ?_
     refine At.Ae ?_
     refine Wp.seq ?_
     refine Wp.region ?_
     refine Aa.op (Ab.Aw (i:=0) Tryz.underlying24 rf Bu rf rf rf) rf ?_
     refine Aa.op (Ab.move rf) rf ?_
     refine Aa.op (Ab.conv Tryz.underlying3 Tryz.underlying5 rf (DW (by omega))) rf ?_
     refine Aa.op (Ab.call Kv rf (MM (nth (AY l x.1) m.1) b.1 (by omega))) rf ?_
     refine Aa.nil ?_
     refine At.Ae ?_
     refine Wp.cond (b:=(nth (AY l x.1) m.1) b.1) rf (fun hb26=>?_) (fun hb26=>?_)
     ·
      refine Wp.seq ?_
      refine Wp.region ?_
      refine Aa.op (Ab.move rf) rf ?_
      refine Aa.op (Ab.Aw (i:=0) Tryz.underlying24 rf Bu rf rf rf) rf ?_
      refine Aa.Hf (cs:=(BE (nth (AY l x.1) m.1))) Tryz.underlying69 Bu rf rf rf rf rf rf fun v27=>?_
      refine Aa.append (z:=(.agg #[.int .u64 0, .int .u64 0, .int .u64 0, .int .u64 0])) (i:=3) Tryz.underlying69 Bu rf (by decide) rf rf rf (fun w hs=>hs.J1 (i:=0) rf) (by simpa using DN _) (by omega) (by omega) rf fun v28=>?_
      refine Aa.drop (i:=0) ?_
      refine Aa.op (Ab.assign rf) rf ?_
      refine Aa.nil ?_
      refine At.Ae ?_
      refine Wp.region ?_
      refine Aa.op (Ab.Aw (i:=1) Tryz.underlying24 rf Bu rf rf rf) rf ?_
      refine Aa.op (Ab.Aw (i:=0) Tryz.underlying24 rf Bu rf rf rf) rf ?_
      refine Aa.op (Ab.call Yp rf (Zi (Ez (AY l x.1) b.1 m.1).2 (nth (AY l x.1) m.1))) rf ?_
      refine Aa.AM (i:=1) (cs':=(BE (fun y=>(Ez (AY l x.1) b.1 m.1).2 y||(nth (AY l x.1) m.1) y))) rf rf Bu rf rf (DN _) rf ?_
      refine Aa.nil ?_
      refine At.AF ?_
      refine At.Ae ?_
      refine Wp.region ?_
      refine Aa.op (Ab.add rf rf (Av (by omega))) rf ?_
      refine Aa.op (Ab.move rf) rf ?_
      refine Aa.nil ?_
      refine At.drop (i:=0) ?_
      refine At.next (m.1+1,v28) (Hp.le.refl _) ?_ ?_ ?_ ?_
      ·exact(by(try dsimp only);omega)
      ·exact .cons (rf) (.cons (rf) (.cons (rf) (.cons (rf) (.cons (rf) (.cons (rf) (.cons (rf) (.cons (rf) (.cons (rf) (.cons (rf) (.cons (rf) (.cons (rf) (.cons (rf) (.cons (rf) (.cons (rf) (.nil)))))))))))))))
      ·exact(by first|(rw[MD _ b.1 m.1 (by omega) (by assumption)];simp[IM];done)|(rw[Lu _ b.1 m.1 (by omega) (by assumption)];rfl))
      ·exact(by(try dsimp only);omega)
     ·
      refine Wp.skip ?_
      refine At.AF ?_
      refine At.Ae ?_
      refine Wp.region ?_
      refine Aa.op (Ab.add rf rf (Av (by omega))) rf ?_
      refine Aa.op (Ab.move rf) rf ?_
      refine Aa.nil ?_
      refine At.drop (i:=0) ?_
      refine At.next (m.1+1,m.2) (Hp.le.refl _) ?_ ?_ ?_ ?_
      ·exact(by(try dsimp only);omega)
      ·exact .cons (rf) (.cons (rf) (.cons (rf) (.cons (rf) (.cons (rf) (.cons (rf) (.cons (rf) (.cons (rf) (.cons (rf) (.cons (rf) (.cons (rf) (.cons (rf) (.cons (rf) (.cons (rf) (.cons (rf) (.nil)))))))))))))))
      ·exact(by first|(rw[MD _ b.1 m.1 (by omega) (by assumption)];simp[IM];done)|(rw[Lu _ b.1 m.1 (by omega) (by assumption)];rfl))
      ·exact(by(try dsimp only);omega)
    ·
     replace hb25:=of_decide_eq_false hb25
     refine Wp.exit ?_
     refine At.Ao ?_
     refine At.Ao ?_
     refine At.AB ?_
     refine At.AF ?_
     refine At.Ae ?_
     refine Wp.region ?_
     refine Aa.op (Ab.add rf rf (Av (by omega))) rf ?_
     refine Aa.op (Ab.move rf) rf ?_
     refine Aa.nil ?_
     refine At.next (b.1+1,m.2) hle23 ?_ ?_ ?_ ?_
     ·exact(by(try dsimp only);omega)
     ·exact .cons (rf) (.cons (rf) (.cons (rf) (.cons (rf) (.cons (rf) (.nil)))))
     ·exact(by first|(rw[F_ _ b.1 (by assumption)];done)|(rw[F_ _ b.1 (by assumption)];rfl)|(rw[GX _ b.1 m.1 (by assumption) (by omega)];done)|(rw[GX _ b.1 m.1 (by assumption) (by omega)];rfl))
     ·exact(by(try dsimp only);omega)
  ·
   replace hb20:=of_decide_eq_false hb20
   refine Wp.exit ?_
   refine At.Ao ?_
   refine At.Ao ?_
   refine At.AB ?_
   refine At.Ae ?_
   refine Wp.seq ?_
   refine Wp.region ?_
   refine Aa.op (Ab.move rf) rf ?_
   refine Aa.op (Ab.assign rf) rf ?_
   refine Aa.nil ?_
   refine At.Ae ?_
   refine Wp.ret ?_
   refine At.freeze (i:=1) rf fun H29 hle30 hsl31=>?_
   refine At.drop (i:=0) ?_
   refine At.drop (i:=0) ?_
   refine At.C_ rf (RV.tmp (v:=b.2) rf) ?_
   exact YV.mk ((hle3.trans hle18).trans hle30) (⟨rf,by have e:x.1=l.length:=(by omega);have e2:b.1=256:=(by omega);rw[e,e2]at hsl31;exact hsl31⟩)
theorem OH{p:AD}{b:Int}(h0:0≤b)(h1:b≤255):CB Tryz.prog 33 [.agg (BE p), .int .u8 b] H O (.bool (p b.toNat)):=CB.OH (fun b hb=>MM p b hb) h0 h1
theorem QH{p:AD} :CB Tryz.prog 32 [.agg (BE p)] H O (.tuple #[.int .u8 (DO p:Nat), .bool (anyS p)]):=Vp p
theorem Lo{p:AD} :Eg Tryz.prog 37 [.agg (BE p)] H O (fun v H' O'=>(∃v1,v1=v∧AL (cP A0 A0) H' (NU p) v1)∧O=O'):=Eg.Lo (SN p)
theorem Nd{l:List AD}{v:Value}(hl:AL KA H l v)(hn:l.length≤4294967296):Eg Tryz.prog 29 [v] H O (fun v H' O'=>(∃v1,v1=v∧AL KA H' (BD l) v1)∧O=O'):=Eg.Nd (fun l v h hn=>WN l v h hn) hl hn
end Go.Proofs.YtjmbmodmepdmjabGreatDoor
namespace Go.Proofs.YtjmbmodmepdmjabGreatDoor
open Go.GK
variable {H : Hp} {O : List A2}
abbrev UD:Cd (AD×Int×Int):=cP KA (cP Ar Ar)
abbrev Vd(B:Nat)(v1 v2:Value)(m:Int):A2:= .Az B (.cells #[v1,v2, .int .i64 m] 55 (0,0))
abbrev Ve(v1:Value)(F:JW Int):A2:= .row v1 65 1 (AO F).length (AO F)
abbrev Vc(v2:Value)(G:JW (AD×Int×Int)):A2:= .row v2 66 1 (AO G).length (AO G)
abbrev RH(F:JW Int)(G:JW (AD×Int×Int))(O:List A2):List A2:=Bi 3 1 F++(Bi 68 6 G++O)
abbrev Pk(B:Nat)(v1 v2:Value)(m:Int)(F:JW Int)(G:JW (AD×Int×Int))(O:List A2):List A2:=Vd B v1 v2 m::Ve v1 F::Vc v2 G::RH F G O
section
variable {P : Program} {Q : Exit → Act → World → Prop} {n : Nat} {L : List (Nat × Value)} {ops : Array Oper} {rest : List Oper} {B : Nat} {v1 v2 : Value} {m : Int} {F : JW Int} {G : JW (AD × Int × Int)}
theorem SH.GC{w:World}{A:List A2}(h:SH w H (A++Pk B v1 v2 m F G O)):SH w H (Pk B v1 v2 m F G (A++O)):=by
 have h':SH w H (A++(([Vd B v1 v2 m,Ve v1 F,Vc v2 G]++(Bi 3 1 F++Bi 68 6 G))++O)):=by simpa [Pk,RH]using h
 simpa [Pk,RH]using h'.Zx
theorem SH.IJ{w:World}{A:List A2}(h:SH w H (Pk B v1 v2 m F G (A++O))):SH w H (A++Pk B v1 v2 m F G O):=by
 have h':SH w H (([Vd B v1 v2 m,Ve v1 F,Vc v2 G]++(Bi 3 1 F++Bi 68 6 G))++(A++O)):=by simpa [Pk,RH]using h
 simpa [Pk,RH]using h'.Zx
theorem Aa.GC(A:List A2)(k:Aa P ops Q rest n L H (Pk B v1 v2 m F G (A++O))):Aa P ops Q rest n L H (A++Pk B v1 v2 m F G O):=fun a w hf hs=>k a w hf (SH.GC hs)
theorem Aa.IJ(A:List A2)(k:Aa P ops Q rest n L H (A++Pk B v1 v2 m F G O)):Aa P ops Q rest n L H (Pk B v1 v2 m F G (A++O)):=fun a w hf hs=>k a w hf (SH.IJ hs)
end
abbrev Va{α:Type} :Value×List α×List Value:=(.slice none 0 0,[],[])
theorem KH{B:Nat}{v1 v2:Value}{m:Int}{F:JW Int}{G:JW (AD×Int×Int)}{D:List (List Int)}{E:List (List (AD×Int×Int))}(hF:A3 Ar H D F)(hG:A3 UD H E G)(h1:D.length+1≤AJ)(h2:E.length+1≤AJ):
   Eg Tryz.prog 17 [ptr B 0] H (Pk B v1 v2 m F G O) (fun r H' O'=> ∃v1' v2', .int .i64 ((E.length:Nat):Int)=r∧Pk B v1' v2' m (F++[Va]) (G++[Va]) O=O'):=by
 have l1:=JJ hF
 have l2:=JJ hG
 intro w hs
 refine Bo Tryz.func17 rf rf rf ?_ hs
 clear hs w
 refine Wp.seq ?_
 refine Wp.region ?_
 refine Aa.op (Ab.assign rf) rf ?_
 refine Aa.nil ?_
 refine At.Ae ?_
 refine Wp.seq ?_
 refine Wp.region ?_
 refine Aa.op (Ab.move rf) rf ?_
 refine Aa.op (Ab.move rf) rf ?_
 refine Aa.op (Ab.nilCheck rf) rf ?_
 refine Aa.op (Ab.A6 (o':=0) Hv rf rf) rf ?_
 refine Aa.op (Ab.Am (i:=0) (v:=v1) Tryz.underlying52 rf rf rf rf) rf ?_
 refine Aa.Bv (c:=cV) (y:= .slice none 0 0) (cs:=[.slice none 0 0]) Tryz.underlying52 Eo rf rf rf rf ⟨rf,rf⟩ rfl fun v8 xs8 hq8=>?_
 refine Aa.Hz (c:=cV) (i:=2) (j:=0) hF.row hq8 Tryz.underlying52 Eo rf (by decide) rf rf rf rf (by decide) (by rw[l1];exact h1) rf fun v9 xs9 hq9=>?_
 refine Aa.op (Ab.nilCheck rf) rf ?_
 refine Aa.op (Ab.A6 (o':=0) Hv rf rf) rf ?_
 refine Aa.BU (i:=2) rf fun h3=>?_
 refine Aa.Dc (i:=1) rf rf h3 Wv rf (Nat.le_of_ble_eq_true rf) ?_
 refine Aa.nil ?_
 refine At.Ae ?_
 refine Wp.seq ?_
 refine Wp.region ?_
 refine Aa.op (Ab.move rf) rf ?_
 refine Aa.op (Ab.move rf) rf ?_
 refine Aa.op (Ab.nilCheck rf) rf ?_
 refine Aa.op (Ab.A6 (o':=1) Hu rf rf) rf ?_
 refine Aa.op (Ab.Am (i:=1) (v:=v2) Tryz.underlying53 rf rf rf rf) rf ?_
 refine Aa.Bv (c:=cV) (y:= .slice none 0 0) (cs:=[.slice none 0 0]) Tryz.underlying53 N5 rf rf rf rf ⟨rf,rf⟩ rfl fun v17 xs17 hq17=>?_
 refine Aa.Hz (c:=cV) (i:=4) (j:=0) hG.row hq17 Tryz.underlying53 N5 rf (by decide) rf rf rf rf (by decide) (by rw[l2];exact h2) rf fun v18 xs18 hq18=>?_
 refine Aa.op (Ab.nilCheck rf) rf ?_
 refine Aa.op (Ab.A6 (o':=1) Hu rf rf) rf ?_
 refine Aa.BU (i:=4) rf fun h4=>?_
 refine Aa.Dc (i:=2) rf rf h4 Za rf (Nat.le_of_ble_eq_true rf) ?_
 refine Aa.nil ?_
 refine At.Ae ?_
 refine Wp.seq ?_
 refine Wp.region ?_
 refine Aa.op (Ab.move rf) rf ?_
 refine Aa.op (Ab.nilCheck rf) rf ?_
 refine Aa.op (Ab.A6 (o':=1) Hu rf rf) rf ?_
 refine Aa.op (Ab.Am (i:=2) (v:=v18) Tryz.underlying53 rf rf rf rf) rf ?_
 refine Aa.op (Ab.CW (i:=4) Tryz.underlying53 rf rf) rf ?_
 refine Aa.op (Ab.sub rf rf (Av (by simp only[List.length_append,List.length_cons,List.length_nil,l2,AJ]at*;omega))) rf ?_
 refine Aa.op (Ab.assign rf) rf ?_
 refine Aa.nil ?_
 refine At.Ae ?_
 refine Wp.ret ?_
 obtain rfl:=W0 hq9
 obtain rfl:=W0 hq18
 refine At.C_ rf (RV.tmp rf) (fun w hs=>⟨_,_,_,rf,Hp.le.refl _,?_,v9,v18,?_,rf⟩)
 ·have e1:AO (F++[Va])=AO F++[Value.slice none 0 0]:=by simp[AO]
  have e2:AO (G++[Va])=AO G++[Value.slice none 0 0]:=by simp[AO]
  have hs':=hs.AW [2,3,4] 5 rfl rfl rfl
  have k1:=SH.grow (A:=[Vd B v9 v18 m, .row v9 65 1 (AO F++[Value.slice none 0 0]).length (AO F++[Value.slice none 0 0]), .row v18 66 1 (AO G++[Value.slice none 0 0]).length (AO G++[Value.slice none 0 0])]) (F:=F) (e:=3) (sz:=1) (R:=Bi 68 6 G++O) hs'
  have k2:=SH.Yf k1
  show SH w H _
  simp only[Pk,Ve,Vc,RH,e1,e2]
  exact k2
 ·rw[List.length_append,l2];simp
end Go.Proofs.YtjmbmodmepdmjabGreatDoor
namespace Go.GK
def CK(fu:Nat)(a0:List (Bool×(List (Int×Int×Int))))(k249:Nat)(nx248:Nat→Option Bool)(x259:Bool×(List (Int×Int×Int)))(k343:Nat)(nx342:Nat→Option Bool):Option Bool:=
 bif decide (((k343:Nat):Int)<((x259.2.length:Nat):Int))then(AV (idx x259.2 ((k343:Nat):Int)) (fun x353=>bif decide (x353.2.1<x353.1)then(some false)else(bif decide (x353.2.2<0)then(some false)else(bif decide (((a0.length:Nat):Int)≤x353.2.2)then(some false)else(bif decide (0<((k343:Nat):Int))then(A4 (Dw (((k343:Nat):Int)-1)) (AV (idx x259.2 (((k343:Nat):Int)-1)) (fun x380=>bif decide (x353.1≤x380.2.1)then(some false)else(nx342 (k343+1)))))else(nx342 (k343+1)))))))else(nx248 (k249+1))
def CL(fu:Nat)(a0:List (Bool×(List (Int×Int×Int))))(k249:Nat)(nx248:Nat→Option Bool):Option Bool:=
 bif decide (((k249:Nat):Int)<((a0.length:Nat):Int))then(AV (idx a0 ((k249:Nat):Int)) (fun x259=>Ax fu (CK fu a0 k249 nx248 x259) 0))else(some true)
def DH(fu:Nat)(a0:List (Bool×(List (Int×Int×Int)))):Option Bool:=
 Ax fu (CL fu a0) 0
def DI(fu:Nat)(a1:BF)(i231:Int)(nx229:(Int×Int)→Option Bool)(x241:Bool×(List (Int×Int×Int)))(k291:Nat)(nx290:Nat→Option Bool):Option Bool:=
 bif decide (((k291:Nat):Int)<((x241.2.length:Nat):Int))then(AV (idx x241.2 ((k291:Nat):Int)) (fun x301=>AV (Iz a1 i231) (fun x314=>bif decide (x301.1≤x314)then(AV (Iz a1 i231) (fun x317=>bif decide (x317≤x301.2.1)then(A4 (Dw (i231+1)) (nx229 (x301.2.2,i231+1)))else(nx290 (k291+1))))else(nx290 (k291+1)))))else(some false)
def Ek(fu:Nat)(a0:List (Bool×(List (Int×Int×Int))))(a1:BF)(i230:Int)(i231:Int)(nx229:(Int×Int)→Option Bool):Option Bool:=
 bif decide (i231<((a1.length:Nat):Int))then(AV (idx a0 i230) (fun x241=>Ax fu (DI fu a1 i231 nx229 x241) 0))else(AV (idx a0 i230) (fun x321=>some x321.1))
def D0(fu:Nat)(a0:List (Bool×(List (Int×Int×Int))))(a1:BF):Option Bool:=
 bif decide (((a0.length:Nat):Int)=0)then(some false)else(AV (DH fu a0) (fun x6=>bif !x6 then(some false)else(Ax fu (fun p nx=>Ek fu a0 a1 p.1 p.2 nx) (0,0))))
def CZ(fu:Nat)(a0:List (Int×Int×Int))(a1:List (Int×Int×Int))(k72:Nat)(nx71:Nat→Option Bool):Option Bool:=
 bif decide (((k72:Nat):Int)<((a0.length:Nat):Int))then(AV (idx a0 ((k72:Nat):Int)) (fun x96=>AV (idx a1 ((k72:Nat):Int)) (fun x103=>bif !(decide (([x96.1,x96.2.1,x96.2.2]:List Int)=[x103.1,x103.2.1,x103.2.2]))then(some false)else(nx71 (k72+1)))))else(some true)
def EM(fu:Nat)(a0:List (Int×Int×Int))(a1:List (Int×Int×Int)):Option Bool:=
 bif decide (((a0.length:Nat):Int)≠((a1.length:Nat):Int))then(some false)else(Ax fu (CZ fu a0 a1) 0)
def Gx(fu:Nat)(k280:Nat)(nx279:Nat→Option Bool)(x308:Bool×(List (Int×Int×Int)))(x313:Bool×(List (Int×Int×Int)))(k392:Nat)(nx391:Nat→Option Bool):Option Bool:=
 bif decide (((k392:Nat):Int)<((x308.2.length:Nat):Int))then(AV (idx x308.2 ((k392:Nat):Int)) (fun x416=>AV (idx x313.2 ((k392:Nat):Int)) (fun x423=>bif !(decide (([x416.1,x416.2.1,x416.2.2]:List Int)=[x423.1,x423.2.1,x423.2.2]))then(some false)else(nx391 (k392+1)))))else(nx279 (k280+1))
def Gy(fu:Nat)(a0:List (Bool×(List (Int×Int×Int))))(a1:List (Bool×(List (Int×Int×Int))))(k280:Nat)(nx279:Nat→Option Bool):Option Bool:=
 bif decide (((k280:Nat):Int)<((a0.length:Nat):Int))then(AV (idx a0 ((k280:Nat):Int)) (fun x308=>AV (idx a1 ((k280:Nat):Int)) (fun x313=>bif !(x308.1==x313.1)then(some false)else(bif decide (((x308.2.length:Nat):Int)≠((x313.2.length:Nat):Int))then(some false)else(Ax fu (Gx fu k280 nx279 x308 x313) 0)))))else(some true)
def HU(fu:Nat)(a0:List (Bool×(List (Int×Int×Int))))(a1:List (Bool×(List (Int×Int×Int)))):Option Bool:=
 bif decide (((a0.length:Nat):Int)≠((a1.length:Nat):Int))then(some false)else(Ax fu (Gy fu a0 a1) 0)
def Hg(fu:Nat)(a0:Bool×(List (Int×Int×Int)))(a1:Bool×(List (Int×Int×Int))):Option Bool:=
 bif a0.1==a1.1 then(AV (EM fu a0.2 a1.2) (fun x8=>some x8))else(some false)
def Bg(fu:Nat)(a0:List (Bool×(List (Int×Int×Int))))(a1:List (Bool×(List (Int×Int×Int))))(k48:Nat)(nx47:Nat→Option Bool):Option Bool:=
 bif decide (((k48:Nat):Int)<((a0.length:Nat):Int))then(AV (idx a0 ((k48:Nat):Int)) (fun x58=>AV (idx a1 ((k48:Nat):Int)) (fun x65=>AV (Hg fu x58 x65) (fun x72=>bif !x72 then(some false)else(nx47 (k48+1))))))else(some true)
def B'(fu:Nat)(a0:List (Bool×(List (Int×Int×Int))))(a1:List (Bool×(List (Int×Int×Int)))):Option Bool:=
 bif decide (((a0.length:Nat):Int)≠((a1.length:Nat):Int))then(some false)else(Ax fu (Bg fu a0 a1) 0)
def JN(fu:Nat)(a0:List (Bool×(List (Int×Int×Int))))(a1:List (Bool×(List (Int×Int×Int)))):Option Bool:=
 AV (B' fu a0 a1) (fun x7=>some x7)
def Hy(fu:Nat)(a0:BF)(l143:List (Bool×(List (Int×Int×Int))))(i147:Int)(nx142:((List (Bool×(List (Int×Int×Int))))×Int)→Option (List (Bool×(List (Int×Int×Int))))):Option (List (Bool×(List (Int×Int×Int)))):=
 bif decide (i147<((a0.length:Nat):Int))then(AV (Iz a0 i147) (fun x177=>AV (Iz a0 i147) (fun x179=>A4 (Dw (i147+1)) (A4 (l143.length+([(false,([(x177,x179,i147+1)]:List (Int×Int×Int)))]:List (Bool×(List (Int×Int×Int)))).length≤AJ) (A4 (Dw (i147+1)) (nx142 (l143++([(false,([(x177,x179,i147+1)]:List (Int×Int×Int)))]:List (Bool×(List (Int×Int×Int)))),i147+1)))))))else(A4 (l143.length+([(true,([]:List (Int×Int×Int)))]:List (Bool×(List (Int×Int×Int)))).length≤AJ) (some (l143++([(true,([]:List (Int×Int×Int)))]:List (Bool×(List (Int×Int×Int)))))))
def NL(fu:Nat)(a0:BF):Option (List (Bool×(List (Int×Int×Int)))):=
 Ax fu (fun p nx=>Hy fu a0 p.1 p.2 nx) (([]:List (Bool×(List (Int×Int×Int)))),0)
def PX(fu:Nat):Option (List (Bool×(List (Int×Int×Int)))):=
 some ([(true,([(0,255,0)]:List (Int×Int×Int)))]:List (Bool×(List (Int×Int×Int))))
def FT(fu:Nat)(k190:Nat)(nx186:((List Bool)×Nat)→Option (List Int))(x200:Bool×(List (Int×Int×Int)))(l258:List Bool)(k261:Nat)(nx257:((List Bool)×Nat)→Option (List Int)):Option (List Int):=
 bif decide (((k261:Nat):Int)<((x200.2.length:Nat):Int))then(AV (idx x200.2 ((k261:Nat):Int)) (fun x271=>AV (idx l258 x271.1) (fun x279=>A4 (Dw (x271.2.1+1)) (AV (idx (l258.set x271.1.toNat true) (x271.2.1+1)) (fun x286=>nx257 ((l258.set x271.1.toNat true).set ((x271.2.1+1).toNat) true,k261+1))))))else(nx186 (l258,k190+1))
def FR(fu:Nat)(l187:List Bool)(l327:List Int)(k331:Nat)(nx326:((List Int)×Nat)→Option (List Int)):Option (List Int):=
 bif decide (((k331:Nat):Int)<256)then(AV (idx l187 ((k331:Nat):Int)) (fun x341=>bif x341 then(A4 (l327.length+([((k331:Nat):Int)]:List Int).length≤AJ) (nx326 (l327++([((k331:Nat):Int)]:List Int),k331+1)))else(nx326 (l327,k331+1))))else(some l327)
def FU(fu:Nat)(a0:List (Bool×(List (Int×Int×Int))))(l187:List Bool)(k190:Nat)(nx186:((List Bool)×Nat)→Option (List Int)):Option (List Int):=
 bif decide (((k190:Nat):Int)<((a0.length:Nat):Int))then(AV (idx a0 ((k190:Nat):Int)) (fun x200=>Ax fu (fun p nx=>FT fu k190 nx186 x200 p.1 p.2 nx) (l187,0)))else(Ax fu (fun p nx=>FR fu l187 p.1 p.2 nx) (([]:List Int),0))
def L_(fu:Nat)(a0:List (Bool×(List (Int×Int×Int)))):Option (List Int):=
 AV (idx (List.replicate 257 false:List Bool) 0) (fun x6=>Ax fu (fun p nx=>FU fu a0 p.1 p.2 nx) ((List.replicate 257 false:List Bool).set 0 true,0))
def Ds(fu:Nat)(x576:Bool×(List (Int×Int×Int)))(k742:Nat)(nx737:((List Int)×Nat)→Option ((List Int)×(List (List Int))×(List Bool)×(List Int)))(x752:Int)(l802:List Int)(k806:Nat)(nx801:((List Int)×Nat)→Option ((List Int)×(List (List Int))×(List Bool)×(List Int))):Option ((List Int)×(List (List Int))×(List Bool)×(List Int)):=
 bif decide (((k806:Nat):Int)<((x576.2.length:Nat):Int))then(AV (idx x576.2 ((k806:Nat):Int)) (fun x816=>bif decide (x816.1≤x752)then(bif decide (x752≤x816.2.1)then(AV (idx l802 ((k742:Nat):Int)) (fun x826=>nx801 (l802.set k742 x816.2.2,k806+1)))else(nx801 (l802,k806+1)))else(nx801 (l802,k806+1))))else(nx737 (l802,k742+1))
def Dt(fu:Nat)(a0:List (Bool×(List (Int×Int×Int))))(x3:List Int)(l558:List (List Int))(l562:List Bool)(k566:Nat)(nx557:((List (List Int))×(List Bool)×Nat)→Option ((List Int)×(List (List Int))×(List Bool)×(List Int)))(x576:Bool×(List (Int×Int×Int)))(l738:List Int)(k742:Nat)(nx737:((List Int)×Nat)→Option ((List Int)×(List (List Int))×(List Bool)×(List Int))):Option ((List Int)×(List (List Int))×(List Bool)×(List Int)):=
 bif decide (((k742:Nat):Int)<((x3.length:Nat):Int))then(AV (idx x3 ((k742:Nat):Int)) (fun x752=>AV (idx l738 ((k742:Nat):Int)) (fun x755=>Ax fu (fun p nx=>Ds fu x576 k742 nx737 x752 p.1 p.2 nx) (l738.set k742 ((a0.length:Nat):Int),0))))else(A4 (l558.length+([l738]:List (List Int)).length≤AJ) (A4 (l562.length+([x576.1]:List Bool).length≤AJ) (nx557 (l558++([l738]:List (List Int)),l562++([x576.1]:List Bool),k566+1))))
def Dr(fu:Nat)(a0:List (Bool×(List (Int×Int×Int))))(x3:List Int)(l558:List (List Int))(l562:List Bool)(l883:List Int)(k887:Nat)(nx882:((List Int)×Nat)→Option ((List Int)×(List (List Int))×(List Bool)×(List Int))):Option ((List Int)×(List (List Int))×(List Bool)×(List Int)):=
 bif decide (((k887:Nat):Int)<(((List.replicate x3.length 0:List Int).length:Nat):Int))then(AV (idx l883 ((k887:Nat):Int)) (fun x897=>nx882 (l883.set k887 ((a0.length:Nat):Int),k887+1)))else(A4 (l558.length+([l883]:List (List Int)).length≤AJ) (A4 (l562.length+([false]:List Bool).length≤AJ) (some (x3,l558++([l883]:List (List Int)),l562++([false]:List Bool),([]:List Int)))))
def Du(fu:Nat)(a0:List (Bool×(List (Int×Int×Int))))(x3:List Int)(l558:List (List Int))(l562:List Bool)(k566:Nat)(nx557:((List (List Int))×(List Bool)×Nat)→Option ((List Int)×(List (List Int))×(List Bool)×(List Int))):Option ((List Int)×(List (List Int))×(List Bool)×(List Int)):=
 bif decide (((k566:Nat):Int)<((a0.length:Nat):Int))then(AV (idx a0 ((k566:Nat):Int)) (fun x576=>A4 (x3.length≤AJ) (Ax fu (fun p nx=>Dt fu a0 x3 l558 l562 k566 nx557 x576 p.1 p.2 nx) ((List.replicate x3.length 0:List Int),0))))else(A4 (x3.length≤AJ) (Ax fu (fun p nx=>Dr fu a0 x3 l558 l562 p.1 p.2 nx) ((List.replicate x3.length 0:List Int),0)))
def Fq(fu:Nat)(a0:List (Bool×(List (Int×Int×Int)))):Option ((List Int)×(List (List Int))×(List Bool)×(List Int)):=
 AV (L_ fu a0) (fun x3=>Ax fu (fun p nx=>Du fu a0 x3 p.1 p.2.1 p.2.2 nx) (([]:List (List Int)),([]:List Bool),0))
def CM(fu:Nat)(a0:(List Int)×(List (List Int))×(List Bool)×(List Int))(l599:List Bool)(b603:Bool)(k604:Nat)(nx598:((List Bool)×Bool×Nat)→Option (List Bool))(x617:List Int)(b650:Bool)(k651:Nat)(nx649:(Bool×Nat)→Option (List Bool)):Option (List Bool):=
 bif decide (((k651:Nat):Int)<((x617.length:Nat):Int))then(AV (idx x617 ((k651:Nat):Int)) (fun x661=>bif b650 then(nx649 (true,k651+1))else(AV (idx a0.2.2.2 x661) (fun x665=>AV (idx l599 x665) (fun x668=>nx649 (x668,k651+1))))))else(bif b650 then(AV (idx a0.2.2.2 ((k604:Nat):Int)) (fun x672=>AV (idx l599 x672) (fun x675=>bif !x675 then(AV (idx a0.2.2.2 ((k604:Nat):Int)) (fun x679=>AV (idx l599 x679) (fun x682=>nx598 (l599.set x679.toNat true,true,k604+1))))else(nx598 (l599,b603,k604+1)))))else(nx598 (l599,b603,k604+1)))
def CN(fu:Nat)(a0:(List Int)×(List (List Int))×(List Bool)×(List Int))(nx443:((List Bool)×Bool)→Option (List Bool))(l599:List Bool)(b603:Bool)(k604:Nat)(nx598:((List Bool)×Bool×Nat)→Option (List Bool)):Option (List Bool):=
 bif decide (((k604:Nat):Int)<((a0.2.1.length:Nat):Int))then(AV (idx a0.2.2.1 ((k604:Nat):Int)) (fun x614=>AV (idx a0.2.1 ((k604:Nat):Int)) (fun x617=>Ax fu (fun p nx=>CM fu a0 l599 b603 k604 nx598 x617 p.1 p.2 nx) (x614,0))))else(nx443 (l599,b603))
def Dk(fu:Nat)(a0:(List Int)×(List (List Int))×(List Bool)×(List Int))(l444:List Bool)(b448:Bool)(nx443:((List Bool)×Bool)→Option (List Bool)):Option (List Bool):=
 bif b448 then(Ax fu (fun p nx=>CN fu a0 nx443 p.1 p.2.1 p.2.2 nx) (l444,false,0))else(some l444)
def Ej(fu:Nat)(a0:(List Int)×(List (List Int))×(List Bool)×(List Int)):Option (List Bool):=
 A4 (a0.2.1.length≤AJ) (Ax fu (fun p nx=>Dk fu a0 p.1 p.2 nx) ((List.replicate a0.2.1.length false:List Bool),true))
def CG(fu:Nat)(a0:(List Int)×(List (List Int))×(List Bool)×(List Int))(a1:Int):Option Int:=
 A4 (Dw (a1+1)) (bif decide ((a1+1)<((a0.1.length:Nat):Int))then(A4 (Dw (a1+1)) (AV (idx a0.1 (a1+1)) (fun x13=>A4 (Dw (x13-1)) (A4 (F8 (x13-1)) (some (x13-1))))))else(some 255))
def BP(fu:Nat)(a0:(List Int)×(List (List Int))×(List Bool)×(List Int))(l1653:List (Int×Int×Int))(k1658:Nat)(nx1648:((List Int)×(List (Int×Int×Int))×(List (Int×Int))×Nat)→Option (List (Bool×(List (Int×Int×Int)))))(x1671:Int)(l1691:List Int)(m1695:List (Int×Int)):Option (List (Bool×(List (Int×Int×Int)))):=
 bif decide (0<((l1653.length:Nat):Int))then(A4 (Dw (((l1653.length:Nat):Int)-1)) (AV (idx l1653 (((l1653.length:Nat):Int)-1)) (fun x1727=>A4 (Dw x1671) (bif decide (x1727.2.2=((AA m1695 x1671).getD 0))then(A4 (Dw (((l1653.length:Nat):Int)-1)) (AV (idx l1653 (((l1653.length:Nat):Int)-1)) (fun x1737=>A4 (Dw (x1737.2.1+1)) (AV (idx a0.1 ((k1658:Nat):Int)) (fun x1745=>bif decide ((x1737.2.1+1)=x1745)then(A4 (Dw (((l1653.length:Nat):Int)-1)) (AV (CG fu a0 ((k1658:Nat):Int)) (fun x1770=>A4 (F8 x1770) (AV (idx l1653 (((l1653.length:Nat):Int)-1)) (fun x1775=>nx1648 (l1691,l1653.set ((((l1653.length:Nat):Int)-1).toNat) (x1775.1,x1770,x1775.2.2),m1695,k1658+1))))))else(AV (idx a0.1 ((k1658:Nat):Int)) (fun x1805=>A4 (F8 x1805) (AV (CG fu a0 ((k1658:Nat):Int)) (fun x1809=>A4 (F8 x1809) (A4 (Dw x1671) (A4 (l1653.length+([(x1805,x1809,(AA m1695 x1671).getD 0)]:List (Int×Int×Int)).length≤AJ) (nx1648 (l1691,l1653++([(x1805,x1809,(AA m1695 x1671).getD 0)]:List (Int×Int×Int)),m1695,k1658+1)))))))))))))else(AV (idx a0.1 ((k1658:Nat):Int)) (fun x1839=>A4 (F8 x1839) (AV (CG fu a0 ((k1658:Nat):Int)) (fun x1843=>A4 (F8 x1843) (A4 (Dw x1671) (A4 (l1653.length+([(x1839,x1843,(AA m1695 x1671).getD 0)]:List (Int×Int×Int)).length≤AJ) (nx1648 (l1691,l1653++([(x1839,x1843,(AA m1695 x1671).getD 0)]:List (Int×Int×Int)),m1695,k1658+1))))))))))))else(AV (idx a0.1 ((k1658:Nat):Int)) (fun x1873=>A4 (F8 x1873) (AV (CG fu a0 ((k1658:Nat):Int)) (fun x1877=>A4 (F8 x1877) (A4 (Dw x1671) (A4 (l1653.length+([(x1873,x1877,(AA m1695 x1671).getD 0)]:List (Int×Int×Int)).length≤AJ) (nx1648 (l1691,l1653++([(x1873,x1877,(AA m1695 x1671).getD 0)]:List (Int×Int×Int)),m1695,k1658+1))))))))
def BQ(fu:Nat)(a0:(List Int)×(List (List Int))×(List Bool)×(List Int))(x11:List Bool)(l1270:List (Bool×(List (Int×Int×Int))))(k1275:Nat)(nx1265:((List Int)×(List (Bool×(List (Int×Int×Int))))×(List (Int×Int))×Nat)→Option (List (Bool×(List (Int×Int×Int)))))(x1303:Bool)(x1324:List Int)(l1649:List Int)(l1653:List (Int×Int×Int))(m1657:List (Int×Int))(k1658:Nat)(nx1648:((List Int)×(List (Int×Int×Int))×(List (Int×Int))×Nat)→Option (List (Bool×(List (Int×Int×Int))))):Option (List (Bool×(List (Int×Int×Int)))):=
 bif decide (((k1658:Nat):Int)<((x1324.length:Nat):Int))then(AV (idx x1324 ((k1658:Nat):Int)) (fun x1668=>AV (idx a0.2.2.2 x1668) (fun x1671=>AV (idx x11 x1671) (fun x1674=>bif !x1674 then(nx1648 (l1649,l1653,m1657,k1658+1))else(A4 (Dw x1671) (bif !((AA m1657 x1671).isSome)then(A4 (Dw x1671) (A4 (Dw ((l1649.length:Nat):Int)) (A4 (m1657.length≤AJ) (A4 (l1649.length+([x1668]:List Int).length≤AJ) (BP fu a0 l1653 k1658 nx1648 x1671 (l1649++([x1668]:List Int)) (Di m1657 x1671 ((l1649.length:Nat):Int)))))))else(BP fu a0 l1653 k1658 nx1648 x1671 l1649 m1657)))))))else(A4 (l1270.length+([(x1303,l1653)]:List (Bool×(List (Int×Int×Int)))).length≤AJ) (nx1265 (l1649,l1270++([(x1303,l1653)]:List (Bool×(List (Int×Int×Int)))),m1657,k1275+1)))
def Ci(fu:Nat)(a0:(List Int)×(List (List Int))×(List Bool)×(List Int))(x11:List Bool)(l1266:List Int)(l1270:List (Bool×(List (Int×Int×Int))))(m1274:List (Int×Int))(k1275:Nat)(nx1265:((List Int)×(List (Bool×(List (Int×Int×Int))))×(List (Int×Int))×Nat)→Option (List (Bool×(List (Int×Int×Int))))):Option (List (Bool×(List (Int×Int×Int)))):=
 bif decide (((k1275:Nat):Int)<((l1266.length:Nat):Int))then(AV (idx l1266 ((k1275:Nat):Int)) (fun x1300=>AV (idx a0.2.2.1 x1300) (fun x1303=>AV (idx l1266 ((k1275:Nat):Int)) (fun x1321=>AV (idx a0.2.1 x1321) (fun x1324=>Ax fu (fun p nx=>BQ fu a0 x11 l1270 k1275 nx1265 x1303 x1324 p.1 p.2.1 p.2.2.1 p.2.2.2 nx) (l1266,([]:List (Int×Int×Int)),m1274,0))))))else(some l1270)
def CT(fu:Nat)(a0:(List Int)×(List (List Int))×(List Bool)×(List Int)):Option (List (Bool×(List (Int×Int×Int)))):=
 AV (Ej fu a0) (fun x11=>AV (idx a0.2.2.2 0) (fun x17=>AV (idx x11 x17) (fun x20=>bif !x20 then(some ([]:List (Bool×(List (Int×Int×Int)))))else(AV (idx a0.2.2.2 0) (fun x29=>A4 (Dw x29) (A4 (([]:List (Int×Int)).length≤AJ) (Ax fu (fun p nx=>Ci fu a0 x11 p.1 p.2.1 p.2.2.1 p.2.2.2 nx) (([0]:List Int),([]:List (Bool×(List (Int×Int×Int)))),Di ([]:List (Int×Int)) x29 0,0))))))))
def BT(fu:Nat)(a0:(List Int)×(List (List Int))×(List Bool)×(List Int))(x21:List Int)(l65:BF)(k70:Nat)(nx64:(BF×Nat)→Option BF):Option BF:=
 bif decide (((k70:Nat):Int)<((x21.length:Nat):Int))then(AV (idx x21 ((k70:Nat):Int)) (fun x80=>AV (idx a0.2.2.2 x80) (fun x83=>A4 (Dw x83) (A4 (([44]:BF).length+(Lib.itoa x83).length≤AJ) (A4 (l65.length+(([44]:BF)++(Lib.itoa x83)).length≤AJ) (nx64 (l65++(([44]:BF)++(Lib.itoa x83)),k70+1)))))))else(some l65)
def CR(fu:Nat)(a0:(List Int)×(List (List Int))×(List Bool)×(List Int))(a1:Int):Option BF:=
 AV (idx a0.2.2.2 a1) (fun x11=>A4 (Dw x11) (A4 (([]:BF).length+(Lib.itoa x11).length≤AJ) (AV (idx a0.2.1 a1) (fun x21=>Ax fu (fun p nx=>BT fu a0 x21 p.1 p.2 nx) (([]:BF)++(Lib.itoa x11),0)))))
def Ce(fu:Nat)(l365:List Int)(l368:List Int)(k373:Nat)(nx364:((List Int)×(List Int)×(List (BF×Int))×Nat)→Option ((List Int)×(List (List Int))×(List Bool)×(List Int)))(m390:List (BF×Int))(i391:Int):Option ((List Int)×(List (List Int))×(List Bool)×(List Int)):=
 AV (idx l368 ((k373:Nat):Int)) (fun x397=>nx364 (l365,l368.set k373 i391,m390,k373+1))
def Cf(fu:Nat)(a0:(List Int)×(List (List Int))×(List Bool)×(List Int))(k279:Nat)(nx278:(Nat×(List Int))→Option ((List Int)×(List (List Int))×(List Bool)×(List Int)))(l365:List Int)(l368:List Int)(m372:List (BF×Int))(k373:Nat)(nx364:((List Int)×(List Int)×(List (BF×Int))×Nat)→Option ((List Int)×(List (List Int))×(List Bool)×(List Int))):Option ((List Int)×(List (List Int))×(List Bool)×(List Int)):=
 bif decide (((k373:Nat):Int)<((a0.2.1.length:Nat):Int))then(AV (CR fu (a0.1,a0.2.1,a0.2.2.1,l365) ((k373:Nat):Int)) (fun x383=>A4 (x383.length≤AJ) (bif !((AA m372 x383).isSome)then(A4 (x383.length≤AJ) (A4 (Dw ((m372.length:Nat):Int)) (A4 (m372.length≤AJ) (Ce fu l365 l368 k373 nx364 (Di m372 x383 ((m372.length:Nat):Int)) ((m372.length:Nat):Int)))))else(Ce fu l365 l368 k373 nx364 m372 ((AA m372 x383).getD 0)))))else(bif decide (((m372.length:Nat):Int)=((k279:Nat):Int))then(some (a0.1,a0.2.1,a0.2.2.1,l368))else(nx278 (m372.length,l368)))
def CS(fu:Nat)(a0:(List Int)×(List (List Int))×(List Bool)×(List Int))(k279:Nat)(l280:List Int)(nx278:(Nat×(List Int))→Option ((List Int)×(List (List Int))×(List Bool)×(List Int))):Option ((List Int)×(List (List Int))×(List Bool)×(List Int)):=
 A4 (a0.2.1.length≤AJ) (Ax fu (fun p nx=>Cf fu a0 k279 nx278 p.1 p.2.1 p.2.2.1 p.2.2.2 nx) (l280,(List.replicate a0.2.1.length 0:List Int),([]:List (BF×Int)),0))
def Ck(fu:Nat)(a0:(List Int)×(List (List Int))×(List Bool)×(List Int))(l44:List Int)(k48:Nat)(nx43:((List Int)×Nat)→Option ((List Int)×(List (List Int))×(List Bool)×(List Int))):Option ((List Int)×(List (List Int))×(List Bool)×(List Int)):=
 bif decide (((k48:Nat):Int)<((a0.2.2.1.length:Nat):Int))then(AV (idx a0.2.2.1 ((k48:Nat):Int)) (fun x58=>bif x58 then(AV (idx l44 ((k48:Nat):Int)) (fun x62=>nx43 (l44.set k48 1,k48+1)))else(nx43 (l44,k48+1))))else(Ax fu (fun p nx=>CS fu a0 p.1 p.2 nx) (0,l44))
def DE(fu:Nat)(a0:(List Int)×(List (List Int))×(List Bool)×(List Int)):Option ((List Int)×(List (List Int))×(List Bool)×(List Int)):=
 A4 (a0.2.1.length≤AJ) (Ax fu (fun p nx=>Ck fu a0 p.1 p.2 nx) ((List.replicate a0.2.1.length 0:List Int),0))
def DZ(fu:Nat)(a0:List (Bool×(List (Int×Int×Int)))):Option ((List (Bool×(List (Int×Int×Int))))×Int):=
 AV (DH fu a0) (fun x5=>bif !x5 then(some (([]:List (Bool×(List (Int×Int×Int)))),11))else(bif decide (((a0.length:Nat):Int)=0)then(some (([]:List (Bool×(List (Int×Int×Int)))),0))else(AV (Fq fu a0) (fun x12=>AV (DE fu x12) (fun x25=>AV (CT fu x25) (fun x37=>some (x37,0)))))))
def Fs(fu:Nat)(a0:List (Bool×(List (Int×Int×Int)))):Option Bool:=
 AV (DZ fu a0) (fun x4=>bif decide (x4.2=0)then(AV (JN fu a0 x4.1) (fun x13=>some x13))else(some false))
def Dm(fu:Nat)(k127:Nat)(nx122:((List AD)×Nat)→Option (List AD))(x137:List (AD×Int×Int))(l174:List AD)(k178:Nat)(nx173:((List AD)×Nat)→Option (List AD)):Option (List AD):=
 bif decide (((k178:Nat):Int)<((x137.length:Nat):Int))then(AV (idx x137 ((k178:Nat):Int)) (fun x188=>A4 (l174.length+([x188.1]:List AD).length≤AJ) (nx173 (l174++([x188.1]:List AD),k178+1))))else(nx122 (l174,k127+1))
def Dn(fu:Nat)(a0:(List (List Int))×(List (List (AD×Int×Int)))×Int)(l123:List AD)(k127:Nat)(nx122:((List AD)×Nat)→Option (List AD)):Option (List AD):=
 bif decide (((k127:Nat):Int)<((a0.2.1.length:Nat):Int))then(AV (idx a0.2.1 ((k127:Nat):Int)) (fun x137=>Ax fu (fun p nx=>Dm fu k127 nx122 x137 p.1 p.2 nx) (l123,0)))else(some l123)
def EF(fu:Nat)(a0:(List (List Int))×(List (List (AD×Int×Int)))×Int):Option (List AD):=
 Ax fu (fun p nx=>Dn fu a0 p.1 p.2 nx) (([]:List AD),0)
def Cy(fu:Nat)(l89:List Bool)(l166:List Int)(k170:Nat)(nx165:((List Int)×Nat)→Option (List Int)):Option (List Int):=
 bif decide (((k170:Nat):Int)<((l89.length:Nat):Int))then(AV (idx l89 ((k170:Nat):Int)) (fun x180=>bif x180 then(A4 (l166.length+([((k170:Nat):Int)]:List Int).length≤AJ) (nx165 (l166++([((k170:Nat):Int)]:List Int),k170+1)))else(nx165 (l166,k170+1))))else(some l166)
def C5(fu:Nat)(a0:(List (List Int))×(List (List (AD×Int×Int)))×Int)(l85:List Int)(l89:List Bool)(nx84:((List Int)×(List Bool))→Option (List Int)):Option (List Int):=
 bif decide (0<((l85.length:Nat):Int))then(A4 (Dw (((l85.length:Nat):Int)-1)) (AV (idx l85 (((l85.length:Nat):Int)-1)) (fun x105=>A4 (Dw (((l85.length:Nat):Int)-1)) (A4 (0≤(((l85.length:Nat):Int)-1)∧(((l85.length:Nat):Int)-1)≤((l85.length:Nat):Int)) (AV (idx l89 x105) (fun x114=>bif !x114 then(AV (idx l89 x105) (fun x118=>AV (idx a0.1 x105) (fun x123=>A4 ((l85.take (((l85.length:Nat):Int)-1).toNat).length+x123.length≤AJ) (nx84 ((l85.take (((l85.length:Nat):Int)-1).toNat)++x123,l89.set x105.toNat true)))))else(nx84 (l85.take (((l85.length:Nat):Int)-1).toNat,l89))))))))else(Ax fu (fun p nx=>Cy fu l89 p.1 p.2 nx) (([]:List Int),0))
def Cu(fu:Nat)(a0:(List (List Int))×(List (List (AD×Int×Int)))×Int)(a1:List Int):Option (List Int):=
 A4 (a0.2.1.length≤AJ) (Ax fu (fun p nx=>C5 fu a0 p.1 p.2 nx) (a1,(List.replicate a0.2.1.length false:List Bool)))
def FQ(fu:Nat)(a0:List Int)(l38:BF)(k43:Nat)(nx37:(BF×Nat)→Option BF):Option BF:=
 bif decide (((k43:Nat):Int)<((a0.length:Nat):Int))then(AV (idx a0 ((k43:Nat):Int)) (fun x53=>A4 (Dw x53) (A4 ((Lib.itoa x53).length+([44]:BF).length≤AJ) (A4 (l38.length+((Lib.itoa x53)++([44]:BF)).length≤AJ) (nx37 (l38++((Lib.itoa x53)++([44]:BF)),k43+1))))))else(some l38)
def Jb(fu:Nat)(a0:List Int):Option BF:=
 Ax fu (fun p nx=>FQ fu a0 p.1 p.2 nx) (([]:BF),0)
def CU(fu:Nat)(x3099:AD)(k3337:Nat)(nx3328:((List Int)×(List Int)×Nat)→Option Bool)(x3350:List (AD×Int×Int))(l3416:List Int)(l3420:List Int)(k3424:Nat)(nx3415:((List Int)×(List Int)×Nat)→Option Bool):Option Bool:=
 bif decide (((k3424:Nat):Int)<((x3350.length:Nat):Int))then(AV (idx x3350 ((k3424:Nat):Int)) (fun x3434=>bif x3434.1 (((DO x3099:Nat):Int)).toNat then(A4 (l3416.length+([x3434.2.2]:List Int).length≤AJ) (A4 (l3420.length+([x3434.2.1]:List Int).length≤AJ) (nx3415 (l3416++([x3434.2.2]:List Int),l3420++([x3434.2.1]:List Int),k3424+1))))else(nx3415 (l3416,l3420,k3424+1))))else(nx3328 (l3416,l3420,k3337+1))
def Dp(fu:Nat)(a0:(List (List Int))×(List (List (AD×Int×Int)))×Int)(l3084:List (List Int))(m3088:List (BF×Bool))(k3089:Nat)(nx3083:((List (List Int))×(List (BF×Bool))×Nat)→Option Bool)(x3099:AD)(x3105:List Int)(l3329:List Int)(l3333:List Int)(k3337:Nat)(nx3328:((List Int)×(List Int)×Nat)→Option Bool):Option Bool:=
 bif decide (((k3337:Nat):Int)<((x3105.length:Nat):Int))then(AV (idx x3105 ((k3337:Nat):Int)) (fun x3347=>AV (idx a0.2.1 x3347) (fun x3350=>Ax fu (fun p nx=>CU fu x3099 k3337 nx3328 x3350 p.1 p.2.1 p.2.2 nx) (l3329,l3333,0))))else(A4 (l3329.length≤AJ) (AV (Jb fu (DB l3329)) (fun x3467=>bif decide ((((DB l3329).length:Nat):Int)=0)then(nx3083 (l3084,m3088,k3089+1))else(A4 (x3467.length≤AJ) (bif (AA m3088 x3467).getD false then(nx3083 (l3084,m3088,k3089+1))else(bif decide (((m3088.length:Nat):Int)=500)then(some true)else(A4 (x3467.length≤AJ) (A4 (m3088.length≤AJ) (AV (Cu fu a0 l3333) (fun x3476=>A4 (l3084.length+([x3476]:List (List Int)).length≤AJ) (nx3083 (l3084++([x3476]:List (List Int)),Di m3088 x3467 true,k3089+1))))))))))))
def Dq(fu:Nat)(a0:(List (List Int))×(List (List (AD×Int×Int)))×Int)(x5:List AD)(k2316:Nat)(nx2310:((List (List Int))×(List (BF×Bool))×Nat)→Option Bool)(l3084:List (List Int))(m3088:List (BF×Bool))(k3089:Nat)(nx3083:((List (List Int))×(List (BF×Bool))×Nat)→Option Bool):Option Bool:=
 bif decide (((k3089:Nat):Int)<(((BD x5).length:Nat):Int))then(AV (idx (BD x5) ((k3089:Nat):Int)) (fun x3099=>AV (idx l3084 ((k2316:Nat):Int)) (fun x3105=>Ax fu (fun p nx=>Dp fu a0 l3084 m3088 k3089 nx3083 x3099 x3105 p.1 p.2.1 p.2.2 nx) (([]:List Int),([]:List Int),0))))else(nx2310 (l3084,m3088,k2316+1))
def DX(fu:Nat)(a0:(List (List Int))×(List (List (AD×Int×Int)))×Int)(x5:List AD)(l2311:List (List Int))(m2315:List (BF×Bool))(k2316:Nat)(nx2310:((List (List Int))×(List (BF×Bool))×Nat)→Option Bool):Option Bool:=
 bif decide (((k2316:Nat):Int)<((l2311.length:Nat):Int))then(Ax fu (fun p nx=>Dq fu a0 x5 k2316 nx2310 p.1 p.2.1 p.2.2 nx) (l2311,m2315,0))else(some false)
def EG(fu:Nat)(a0:(List (List Int))×(List (List (AD×Int×Int)))×Int)(a1:Int):Option Bool:=
 AV (EF fu a0) (fun x5=>A4 (x5.length≤4294967296) (AV (Cu fu a0 ([a1]:List Int)) (fun x20=>Ax fu (fun p nx=>DX fu a0 x5 p.1 p.2.1 p.2.2 nx) (([x20]:List (List Int)),([]:List (BF×Bool)),0))))
def CY(fu:Nat)(a0:List Int)(a1:Int)(k17:Nat)(nx16:Nat→Option Int):Option Int:=
 bif decide (((k17:Nat):Int)<((a0.length:Nat):Int))then(AV (idx a0 ((k17:Nat):Int)) (fun x27=>bif decide (a1=x27)then(some ((k17:Nat):Int))else(nx16 (k17+1))))else(some (-1))
def FI(fu:Nat)(a0:List Int)(a1:Int):Option Int:=
 Ax fu (CY fu a0 a1) 0
def DC(fu:Nat)(a0:List Int)(a1:Int):Option Bool:=
 AV (FI fu a0 a1) (fun x3=>some (decide (0≤x3)))
def BI(fu:Nat)(x2646:AD)(k2790:Nat)(nx2785:((List Int)×Nat)→Option (List (Bool×(List (Int×Int×Int)))))(x2803:List (AD×Int×Int))(l2843:List Int)(k2847:Nat)(nx2842:((List Int)×Nat)→Option (List (Bool×(List (Int×Int×Int))))):Option (List (Bool×(List (Int×Int×Int)))):=
 bif decide (((k2847:Nat):Int)<((x2803.length:Nat):Int))then(AV (idx x2803 ((k2847:Nat):Int)) (fun x2857=>bif x2857.1 (((DO x2646:Nat):Int)).toNat then(A4 (l2843.length+([x2857.2.1]:List Int).length≤AJ) (nx2842 (l2843++([x2857.2.1]:List Int),k2847+1)))else(nx2842 (l2843,k2847+1))))else(nx2785 (l2843,k2790+1))
def BZ(fu:Nat)(l2631:List (AD×Int))(k2636:Nat)(nx2626:((List (List Int))×(List (AD×Int))×(List (BF×Int))×Nat)→Option (List (Bool×(List (Int×Int×Int)))))(x2646:AD)(x2877:BF)(l2892:List (List Int))(m2896:List (BF×Int)):Option (List (Bool×(List (Int×Int×Int)))):=
 A4 (x2877.length≤AJ) (A4 (l2631.length+([(x2646,(AA m2896 x2877).getD 0)]:List (AD×Int)).length≤AJ) (nx2626 (l2892,l2631++([(x2646,(AA m2896 x2877).getD 0)]:List (AD×Int)),m2896,k2636+1)))
def BJ(fu:Nat)(a0:(List (List Int))×(List (List (AD×Int×Int)))×Int)(l2627:List (List Int))(l2631:List (AD×Int))(m2635:List (BF×Int))(k2636:Nat)(nx2626:((List (List Int))×(List (AD×Int))×(List (BF×Int))×Nat)→Option (List (Bool×(List (Int×Int×Int)))))(x2646:AD)(x2651:List Int)(l2786:List Int)(k2790:Nat)(nx2785:((List Int)×Nat)→Option (List (Bool×(List (Int×Int×Int))))):Option (List (Bool×(List (Int×Int×Int)))):=
 bif decide (((k2790:Nat):Int)<((x2651.length:Nat):Int))then(AV (idx x2651 ((k2790:Nat):Int)) (fun x2800=>AV (idx a0.2.1 x2800) (fun x2803=>Ax fu (fun p nx=>BI fu x2646 k2790 nx2785 x2803 p.1 p.2 nx) (l2786,0))))else(bif decide (((l2786.length:Nat):Int)=0)then(nx2626 (l2627,l2631,m2635,k2636+1))else(AV (Cu fu a0 l2786) (fun x2871=>AV (Jb fu x2871) (fun x2877=>A4 (x2877.length≤AJ) (bif !((AA m2635 x2877).isSome)then(A4 (x2877.length≤AJ) (A4 (Dw ((l2627.length:Nat):Int)) (A4 (m2635.length≤AJ) (A4 (l2627.length+([x2871]:List (List Int)).length≤AJ) (BZ fu l2631 k2636 nx2626 x2646 x2877 (l2627++([x2871]:List (List Int))) (Di m2635 x2877 ((l2627.length:Nat):Int)))))))else(BZ fu l2631 k2636 nx2626 x2646 x2877 l2627 m2635))))))
def BH(fu:Nat)(k3088:Nat)(nx3083:((List (Int×Int×Int))×Nat)→Option (List (Bool×(List (Int×Int×Int)))))(x3098:AD×Int)(l3148:List (Int×Int×Int))(k3152:Nat)(nx3147:((List (Int×Int×Int))×Nat)→Option (List (Bool×(List (Int×Int×Int))))):Option (List (Bool×(List (Int×Int×Int)))):=
 bif decide (((k3152:Nat):Int)<(((NU x3098.1).length:Nat):Int))then(AV (idx (NU x3098.1) ((k3152:Nat):Int)) (fun x3162=>A4 (l3148.length+([(x3162.1,x3162.2,x3098.2)]:List (Int×Int×Int)).length≤AJ) (nx3147 (l3148++([(x3162.1,x3162.2,x3098.2)]:List (Int×Int×Int)),k3152+1))))else(nx3083 (l3148,k3088+1))
def B8(fu:Nat)(l2102:List (Bool×(List (Int×Int×Int))))(k2107:Nat)(nx2097:((List (List Int))×(List (Bool×(List (Int×Int×Int))))×(List (BF×Int))×Nat)→Option (List (Bool×(List (Int×Int×Int)))))(l2627:List (List Int))(l2631:List (AD×Int))(m2635:List (BF×Int))(x2927:Bool)(l3084:List (Int×Int×Int))(k3088:Nat)(nx3083:((List (Int×Int×Int))×Nat)→Option (List (Bool×(List (Int×Int×Int))))):Option (List (Bool×(List (Int×Int×Int)))):=
 bif decide (((k3088:Nat):Int)<((l2631.length:Nat):Int))then(AV (idx l2631 ((k3088:Nat):Int)) (fun x3098=>Ax fu (fun p nx=>BH fu k3088 nx3083 x3098 p.1 p.2 nx) (l3084,0)))else(A4 (M0 ES l3084) (A4 (l3084.length≤AJ) (A4 (l2102.length+([(x2927,Ei ES l3084)]:List (Bool×(List (Int×Int×Int)))).length≤AJ) (nx2097 (l2627,l2102++([(x2927,Ei ES l3084)]:List (Bool×(List (Int×Int×Int)))),m2635,k2107+1)))))
def BK(fu:Nat)(a0:(List (List Int))×(List (List (AD×Int×Int)))×Int)(a2:Int)(x6:List AD)(l2102:List (Bool×(List (Int×Int×Int))))(k2107:Nat)(nx2097:((List (List Int))×(List (Bool×(List (Int×Int×Int))))×(List (BF×Int))×Nat)→Option (List (Bool×(List (Int×Int×Int)))))(l2627:List (List Int))(l2631:List (AD×Int))(m2635:List (BF×Int))(k2636:Nat)(nx2626:((List (List Int))×(List (AD×Int))×(List (BF×Int))×Nat)→Option (List (Bool×(List (Int×Int×Int))))):Option (List (Bool×(List (Int×Int×Int)))):=
 bif decide (((k2636:Nat):Int)<(((BD x6).length:Nat):Int))then(AV (idx (BD x6) ((k2636:Nat):Int)) (fun x2646=>AV (idx l2627 ((k2107:Nat):Int)) (fun x2651=>Ax fu (fun p nx=>BJ fu a0 l2627 l2631 m2635 k2636 nx2626 x2646 x2651 p.1 p.2 nx) (([]:List Int),0))))else(AV (idx l2627 ((k2107:Nat):Int)) (fun x2922=>AV (DC fu x2922 a2) (fun x2927=>Ax fu (fun p nx=>B8 fu l2102 k2107 nx2097 l2627 l2631 m2635 x2927 p.1 p.2 nx) (([]:List (Int×Int×Int)),0))))
def CF(fu:Nat)(a0:(List (List Int))×(List (List (AD×Int×Int)))×Int)(a2:Int)(x6:List AD)(l2098:List (List Int))(l2102:List (Bool×(List (Int×Int×Int))))(m2106:List (BF×Int))(k2107:Nat)(nx2097:((List (List Int))×(List (Bool×(List (Int×Int×Int))))×(List (BF×Int))×Nat)→Option (List (Bool×(List (Int×Int×Int))))):Option (List (Bool×(List (Int×Int×Int)))):=
 bif decide (((k2107:Nat):Int)<((l2098.length:Nat):Int))then(Ax fu (fun p nx=>BK fu a0 a2 x6 l2102 k2107 nx2097 p.1 p.2.1 p.2.2.1 p.2.2.2 nx) (l2098,([]:List (AD×Int)),m2106,0))else(some l2102)
def CO(fu:Nat)(a0:(List (List Int))×(List (List (AD×Int×Int)))×Int)(a1:Int)(a2:Int):Option (List (Bool×(List (Int×Int×Int)))):=
 AV (EF fu a0) (fun x6=>A4 (x6.length≤4294967296) (AV (Cu fu a0 ([a1]:List Int)) (fun x20=>AV (idx ([x20]:List (List Int)) 0) (fun x30=>AV (Jb fu x30) (fun x35=>A4 (x35.length≤AJ) (A4 (([]:List (BF×Int)).length≤AJ) (Ax fu (fun p nx=>CF fu a0 a2 x6 p.1 p.2.1 p.2.2.1 p.2.2.2 nx) (([x20]:List (List Int)),([]:List (Bool×(List (Int×Int×Int)))),Di ([]:List (BF×Int)) x35 0,0))))))))
def Eu(fu:Nat)(a0:Rx)(a1:Int)(slf:Rx→Int→Option Int)(k57:Nat)(nx56:Nat→Option Int):Option Int:=
 bif decide (((k57:Nat):Int)<((a0.Aq.length:Nat):Int))then(AV (idx a0.Aq ((k57:Nat):Int)) (fun x67=>A4 (Dw (a1+1)) (AV (slf x67 (a1+1)) (fun x76=>bif decide (x76≠0)then(some x76)else(nx56 (k57+1))))))else(some 0)
def DS(fu:Nat)(a0:Rx)(a1:Int)(slf:Rx→Int→Option Int):Option Int:=
 Ax fu (Eu fu a0 a1 slf) 0
def DR(fu:Nat)(a0:Rx)(a1:Int)(slf:Rx→Int→Option Int)(b80:Bool):Option Int:=
 bif b80 then(bif decide (((a0.Aq.length:Nat):Int)<2)then(some 2)else(DS fu a0 a1 slf))else(bif decide (a0.kind=5)then(bif decide (((a0.Aq.length:Nat):Int)≠1)then(some 2)else(DS fu a0 a1 slf))else(bif decide (((a0.Aq.length:Nat):Int)≠0)then(some 2)else(DS fu a0 a1 slf)))
def Gv(fu:Nat)(a0:Rx)(a1:Int)(slf:Rx→Int→Option Int)(k140:Nat)(nx139:Nat→Option Int):Option Int:=
 bif decide (((k140:Nat):Int)<((a0.Aq.length:Nat):Int))then(AV (idx a0.Aq ((k140:Nat):Int)) (fun x150=>A4 (Dw (a1+1)) (AV (slf x150 (a1+1)) (fun x159=>bif decide (x159≠0)then(some x159)else(nx139 (k140+1))))))else(some 0)
def Fg(fu:Nat)(a0:Rx)(a1:Int)(slf:Rx→Int→Option Int):Option Int:=
 Ax fu (Gv fu a0 a1 slf) 0
def Ff(fu:Nat)(a0:Rx)(a1:Int)(slf:Rx→Int→Option Int)(b163:Bool):Option Int:=
 bif b163 then(bif decide (((a0.Aq.length:Nat):Int)<2)then(some 2)else(Fg fu a0 a1 slf))else(bif decide (a0.kind=5)then(bif decide (((a0.Aq.length:Nat):Int)≠1)then(some 2)else(Fg fu a0 a1 slf))else(bif decide (((a0.Aq.length:Nat):Int)≠0)then(some 2)else(Fg fu a0 a1 slf)))
def DT(fu:Nat)(slf:Rx→Int→Option Int)(a0:Rx)(a1:Int):Option Int:=
 bif decide (16<a1)then(some 9)else(bif decide (a0.kind<0)then(some 11)else(bif decide (5<a0.kind)then(some 11)else(bif decide (a0.kind≠2)then(bif !Mh a0.set (fun _=>false)then(some 11)else(bif decide (a0.kind=3)then(DR fu a0 a1 slf (decide (a0.kind=3)))else(DR fu a0 a1 slf (decide (a0.kind=4)))))else(bif decide (a0.kind=3)then(Ff fu a0 a1 slf (decide (a0.kind=3)))else(Ff fu a0 a1 slf (decide (a0.kind=4)))))))
def DU:Nat→Rx→Int→Option Int
 |0,_,_=>none
 |fu+1,a0,a1=>DT fu (DU fu) a0 a1
def C2(fu:Nat)(a0:Rx):Option Int:=
 AV (DU fu a0 1) (fun x4=>some x4)
def BM(fu:Nat)(a1:Rx)(a2:Int)(a3:Int)(slf:((List (List Int))×(List (List (AD×Int×Int)))×Int)→Rx→Int→Int→Option ((List (List Int))×(List (List (AD×Int×Int)))×Int))(d119:List (List Int))(e120:List (List (AD×Int×Int)))(k127:Nat)(i128:Int)(nx118:((List (List Int))×(List (List (AD×Int×Int)))×Nat×Int)→Option ((List (List Int))×(List (List (AD×Int×Int)))×Int)):Option ((List (List Int))×(List (List (AD×Int×Int)))×Int):=
 bif decide (((k127:Nat):Int)<((a1.Aq.length:Nat):Int))then(AV (idx a1.Aq ((k127:Nat):Int)) (fun x138=>AV (slf (d119,e120,i128) x138 a2 a3) (fun x146=>nx118 (x146.1,x146.2.1,k127+1,x146.2.2))))else(some (d119,e120,i128))
def CH(fu:Nat)(slf:((List (List Int))×(List (List (AD×Int×Int)))×Int)→Rx→Int→Int→Option ((List (List Int))×(List (List (AD×Int×Int)))×Int))(i266:Int)(k267:Nat)(i268:Int)(nx257:((List (List Int))×(List (List (AD×Int×Int)))×Int×Nat×Int)→Option ((List (List Int))×(List (List (AD×Int×Int)))×Int))(x278:Rx)(d296:List (List Int))(e297:List (List (AD×Int×Int)))(i304:Int):Option ((List (List Int))×(List (List (AD×Int×Int)))×Int):=
 AV (slf (d296,e297,i268) x278 i266 i304) (fun x310=>nx257 (x310.1,x310.2.1,i304,k267+1,x310.2.2))
def BL(fu:Nat)(a1:Rx)(a3:Int)(slf:((List (List Int))×(List (List (AD×Int×Int)))×Int)→Rx→Int→Int→Option ((List (List Int))×(List (List (AD×Int×Int)))×Int))(d258:List (List Int))(e259:List (List (AD×Int×Int)))(i266:Int)(k267:Nat)(i268:Int)(nx257:((List (List Int))×(List (List (AD×Int×Int)))×Int×Nat×Int)→Option ((List (List Int))×(List (List (AD×Int×Int)))×Int)):Option ((List (List Int))×(List (List (AD×Int×Int)))×Int):=
 bif decide (((k267:Nat):Int)<((a1.Aq.length:Nat):Int))then(AV (idx a1.Aq ((k267:Nat):Int)) (fun x278=>bif decide ((((k267:Nat):Int)+1)<((a1.Aq.length:Nat):Int))then(A4 (d258.length+1≤AJ) (A4 (e259.length+1≤AJ) (CH fu slf i266 k267 i268 nx257 x278 (d258++[[]]) (e259++[[]]) ((e259.length:Nat):Int))))else(CH fu slf i266 k267 i268 nx257 x278 d258 e259 a3)))else(some (d258,e259,i268))
def C7(fu:Nat)(slf:((List (List Int))×(List (List (AD×Int×Int)))×Int)→Rx→Int→Int→Option ((List (List Int))×(List (List (AD×Int×Int)))×Int))(a0:(List (List Int))×(List (List (AD×Int×Int)))×Int)(a1:Rx)(a2:Int)(a3:Int):Option ((List (List Int))×(List (List (AD×Int×Int)))×Int):=
 bif decide (a1.kind=1)then(AV (idx a0.1 a2) (fun x6=>A4 (x6.length+([a3]:List Int).length≤AJ) (some ((List.set a0.1 (Int.toNat a2) (x6++([a3]:List Int))),a0.2.1,a0.2.2))))else(bif decide (a1.kind=2)then(AV (idx a0.2.1 a2) (fun x37=>A4 (x37.length+([(a1.set,a3,a0.2.2)]:List (AD×Int×Int)).length≤AJ) (A4 (Dw (a0.2.2+1)) (some (a0.1,(List.set a0.2.1 (Int.toNat a2) (x37++([(a1.set,a3,a0.2.2)]:List (AD×Int×Int)))),a0.2.2+1)))))else(bif decide (a1.kind=4)then(Ax fu (fun p nx=>BM fu a1 a2 a3 slf p.1 p.2.1 p.2.2.1 p.2.2.2 nx) (a0.1,a0.2.1,0,a0.2.2))else(bif decide (a1.kind=3)then(Ax fu (fun p nx=>BL fu a1 a3 slf p.1 p.2.1 p.2.2.1 p.2.2.2.1 p.2.2.2.2 nx) (a0.1,a0.2.1,a2,0,a0.2.2))else(bif decide (a1.kind=5)then(A4 (a0.1.length+1≤AJ) (A4 (a0.2.1.length+1≤AJ) (AV (idx (a0.1++[[]]) a2) (fun x339=>A4 (x339.length+([((a0.2.1.length:Nat):Int)]:List Int).length≤AJ) (AV (idx (List.set (a0.1++[[]]) (Int.toNat a2) (x339++([((a0.2.1.length:Nat):Int)]:List Int))) ((a0.2.1.length:Nat):Int)) (fun x369=>A4 (x369.length+([a3]:List Int).length≤AJ) (AV (idx a1.Aq 0) (fun x398=>AV (slf ((List.set (List.set (a0.1++[[]]) (Int.toNat a2) (x339++([((a0.2.1.length:Nat):Int)]:List Int))) a0.2.1.length (x369++([a3]:List Int))),(a0.2.1++[[]]),a0.2.2) x398 ((a0.2.1.length:Nat):Int) ((a0.2.1.length:Nat):Int)) (fun x404=>some (x404.1,x404.2.1,x404.2.2))))))))))else(some (a0.1,a0.2.1,a0.2.2))))))
def Cm:Nat→((List (List Int))×(List (List (AD×Int×Int)))×Int)→Rx→Int→Int→Option ((List (List Int))×(List (List (AD×Int×Int)))×Int)
 |0,_,_,_,_=>none
 |fu+1,a0,a1,a2,a3=>C7 fu (Cm fu) a0 a1 a2 a3
def Ma(fu:Nat)(a0:Rx):Option ((List (Bool×(List (Int×Int×Int))))×Int):=
 AV (C2 fu a0) (fun x6=>bif decide (x6≠0)then(some (([]:List (Bool×(List (Int×Int×Int)))),x6))else(A4 (([]:List (List Int)).length+1≤AJ) (A4 (([]:List (List (AD×Int×Int))).length+1≤AJ) (A4 ((([]:List (List Int))++[[]]).length+1≤AJ) (A4 ((([]:List (List (AD×Int×Int)))++[[]]).length+1≤AJ) (AV (Cm fu (((([]:List (List Int))++[[]])++[[]]),((([]:List (List (AD×Int×Int)))++[[]])++[[]]),0) a0 ((([]:List (List (AD×Int×Int))).length:Nat):Int) (((([]:List (List (AD×Int×Int)))++[[]]).length:Nat):Int)) (fun x29=>AV (EG fu x29 ((([]:List (List (AD×Int×Int))).length:Nat):Int)) (fun x55=>bif x55 then(some (([]:List (Bool×(List (Int×Int×Int)))),10))else(AV (CO fu x29 ((([]:List (List (AD×Int×Int))).length:Nat):Int) (((([]:List (List (AD×Int×Int)))++[[]]).length:Nat):Int)) (fun x59=>AV (DZ fu x59) (fun x65=>bif decide (200<((x65.1.length:Nat):Int))then(some (([]:List (Bool×(List (Int×Int×Int)))),10))else(some (x65.1,0)))))))))))))
def EK(fu:Nat)(a0:Int)(i26:Int)(w28:BitVec 64)(nx25:(Int×(BitVec 64))→Option Rx):Option Rx:=
 bif decide (i26≤a0)then(bif decide (i26<104)then(A4 (F8 (i26-64)) (A4 (F8 (i26+1)) (nx25 (i26+1,w28+((1#64)<<<(i26-64).toNat)))))else(some (Rx.mk 2 (bitsOf (word (fun _=>false) 0) w28 (word (fun _=>false) 2) (word (fun _=>false) 3)) ([]:List Rx))))else(some (Rx.mk 2 (bitsOf (word (fun _=>false) 0) w28 (word (fun _=>false) 2) (word (fun _=>false) 3)) ([]:List Rx)))
def Gq(fu:Nat)(a0:Int):Option Rx:=
 Ax fu (fun p nx=>EK fu a0 p.1 p.2 nx) (97,word (fun _=>false) 1)
def DG(fu:Nat):Option Bool:=
 AV (Gq fu 97) (fun x29=>AV (Ma fu (Rx.mk 4 (fun _=>false) ([x29,(Rx.mk 2 (bitsOf (word (fun _=>false) 0) (17179869184#64) (word (fun _=>false) 2) (word (fun _=>false) 3)) ([]:List Rx))]:List Rx))) (fun x34=>AV (Gq fu 98) (fun x46=>AV (Ma fu x46) (fun x52=>AV (DZ fu ([(false,([]:List (Int×Int×Int)))]:List (Bool×(List (Int×Int×Int))))) (fun x69=>AV (DZ fu ([(false,([(2,1,0)]:List (Int×Int×Int)))]:List (Bool×(List (Int×Int×Int))))) (fun x95=>bif decide (x34.2≠0)then(some false)else(bif decide (x52.2≠0)then(some false)else(AV (HU fu x34.1 ([(false,([(97,98,1)]:List (Int×Int×Int))),(true,([]:List (Int×Int×Int)))]:List (Bool×(List (Int×Int×Int))))) (fun x147=>bif !x147 then(some false)else(AV (HU fu x52.1 ([(false,([(97,98,1)]:List (Int×Int×Int))),(true,([]:List (Int×Int×Int)))]:List (Bool×(List (Int×Int×Int))))) (fun x150=>bif !x150 then(some false)else(bif decide (x69.2≠0)then(some false)else(bif decide (((x69.1.length:Nat):Int)≠0)then(some false)else(bif decide (x95.2≠11)then(some false)else(AV (PX fu) (fun x284=>AV (HU fu x284 ([(true,([(0,255,0)]:List (Int×Int×Int)))]:List (Bool×(List (Int×Int×Int))))) (fun x288=>bif x288 then(AV (NL fu ([97,98]:BF)) (fun x291=>bif decide (((x291.length:Nat):Int)=3)then(AV (D0 fu x34.1 ([98]:BF)) (fun x297=>bif x297 then(AV (D0 fu x34.1 ([99]:BF)) (fun x300=>bif !x300 then(AV (D0 fu x34.1 ([]:BF)) (fun x303=>bif !x303 then(AV (Fs fu ([(false,([(97,98,1)]:List (Int×Int×Int))),(true,([]:List (Int×Int×Int)))]:List (Bool×(List (Int×Int×Int))))) (fun x306=>bif x306 then(AV (Fs fu ([]:List (Bool×(List (Int×Int×Int))))) (fun x310=>bif x310 then(AV (Fs fu ([(false,([]:List (Int×Int×Int)))]:List (Bool×(List (Int×Int×Int))))) (fun x316=>some (!x316)))else(some false)))else(some false)))else(some false)))else(some false)))else(some false)))else(some false)))else(some false))))))))))))))))))
end Go.GK
