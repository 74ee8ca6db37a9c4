/- Part 7 of the texts of this claim: what its theorem leans on. -/
import Derived.Test.YtjmbmodmepdmjaaGreatDoorZAutomatonOf6
set_option maxRecDepth 100000
set_option maxHeartbeats 4000000
namespace Go.Proofs.YtjmbmodmepdmjaaGreatDoor
open Go.GK
variable {H : Hp} {O : List Bj}
theorem P2{fu:Nat} :∀ {H:Hp} {O:List Bj} {a0:Rx} {a1:Int} {v1:Value} {r:Int} (hv1:AW Kc H a0.AL v1) (hd:Fj fu a0 a1=some r),
    Ca Tryz.prog 34 [(.agg #[(.int .i64 a0.kind),(Ak (word a0.set 0)),(Ak (word a0.set 1)),(Ak (word a0.set 2)),(Ak (word a0.set 3)),v1]),(.int .i64 a1)] H O (.int .i64 r):=by
 induction fu with
 |zero=>intros;rename_i hd;exact absurd hd (by simp[Fj])
 |succ fu ih=>
 intro H O a0 a1 v1 r hv1 hd
 replace hd:FG fu (Fj fu) a0 a1=some r:=hd
 generalize Fj fu=slf at hd ih
 intro w hs
 refine Bz Tryz.func34 rf rf rf ?_ hs
 clear hs w
 unfold FG at hd
 refine Wp.sr<|Aa.box (cs:= #[(.int .i64 a0.kind),(Ak (word a0.set 0)),(Ak (word a0.set 1)),(Ak (word a0.set 2)),(Ak (word a0.set 3)),v1]) rf rf rf fun B2=>Aa.op (Ab.assign rf) rf<|Aa.Af<|Wp.sr<|Aa.op (Ab.assign rf) rf<|Aa.Af<|Wp.seq ?_
 refine Wp.sr<|Aa.op (Ab.assign rf) rf<|Aa.Af<|Wp.block<|Wp.A_ (fun m LL HH OO=> ∃(i1:Int),∃(i2:Int),[(1,(.int .i64 a1)),(2,(ptr B2 0)),(5,(.int .i64 i1)),(6,(.int .i64 i2))]=LL∧ .AM B2 (.cells #[(.int .i64 a0.kind),(Ak (word a0.set 0)),(Ak (word a0.set 1)),(Ak (word a0.set 2)),(Ak (word a0.set 3)),v1] 37 (0,0))::O=OO∧Ax m (fun p nx=>FE fu a0 a1 slf p.1 p.2 nx) (i1,i2)=some r) fu ⟨1,0,rf,rf,hd⟩ (Sub.of rf) ?_
 intro m1 L1 H1 O1 hl1 hI1
 obtain⟨i1,i2,rfl,rfl,hd⟩:=hI1
 obtain⟨m2,nx1,rfl,hn1,hd⟩:=A9 hd
 replace hd:FE fu a0 a1 slf i1 i2 nx1=some r:=hd
 unfold FE at hd
 refine Wp.seq<|Wp.seq ?_
 rcases Bool.eq_false_or_eq_true (decide (i2<(a0.AL.length:Int)))with hg1|hg1
 ·
  obtain⟨hg1_,hd⟩:=bT hg1 hd
  refine Wp.region<|Aa.op (Ab.move rf) rf<|Aa.op (Ab.AV (o':=5) Et rf rf) rf<|Aa.op (Ab.Am (i:=0) (v:=v1) HO rf rf rf rf) rf ?_
  have hb1:=hv1.le
  refine Aa.op (Ab.len HO rf (hv1.mono hl1).sl) rf<|Aa.op (Ab.Bg (b:=decide (i2<(a0.AL.length:Int))) (c:=true) (Ab.lss rf rf) hg1) rf<|Aa.op (Ab.move rf) rf<|Aa.Ay rf rf (Ab.move rf) rf<|Aa.Ay rf rf (Ab.move rf) rf<|Aa.Ay rf rf (Ab.leq rf rf) rf<|Aa.op (Ab.AK rf rf) rf<|Aa.Af ?_
  refine Wp.cond rf (fun hb2=>?_) (fun hb2=>?_)
  ·
   obtain⟨hb2,hd⟩:=bT hb2 hd
   refine Wp.skip<|At.Ad<|Wp.seq<|Wp.block ?_
   obtain⟨x1,hx1,hd⟩:=Ae hd
   have hx1_:=Ah hx1
   obtain⟨ha1,hd⟩:=Al hd
   obtain⟨x2,hx2,hd⟩:=Ae hd
   obtain⟨ha2,hd⟩:=Al hd
   refine Wp.region<|Aa.op (Ab.move rf) rf<|Aa.op (Ab.AV (o':=5) Et rf rf) rf<|Aa.op (Ab.Am (i:=0) (v:=v1) HO rf rf rf rf) rf<|Aa.op (Ab.move rf) rf ?_
   obtain⟨_,hz1,hc1⟩:=AW.get (hv1.mono hl1) hx1
   obtain⟨v2,rfl,hv2⟩:=HJ.1 hz1
   refine Aa.op (Ab.Bo HO Cj rf (hv1.mono hl1).sl rf (Ah hx1)) rf<|Aa.op (Ab.C9 (vs:=[(.int .i64 x1.kind),(Ak (word x1.set 0)),(Ak (word x1.set 1)),(Ak (word x1.set 2)),(Ak (word x1.set 3)),v2]) JH rf Cj rf rf (fun j u hj=>(hc1 j u hj))) rf<|Aa.op (Ab.move rf) rf<|Aa.op (Ab.move rf) rf<|Aa.op (Ab.sub rf rf (Aq ha1)) rf<|Aa.op (Ab.call W_ rf (ih hv2 hx2)) rf<|Aa.op (Ab.add rf rf (Aq ha2)) rf<|Aa.op (Ab.assign rf) rf ?_
   refine Aa.nil<|At.AE<|At.Ad ?_
   obtain⟨ha3,hd⟩:=Al hd
   refine Wp.region<|Aa.op (Ab.move rf) rf<|Aa.op (Ab.add rf rf (Aq ha3)) rf<|Aa.op (Ab.assign rf) rf<|Aa.nil ?_
   refine At.AO (Hp.le.refl _) ⟨(i1+x2),(i2+1),rf,rf,(by rw[←hn1];exact hd)⟩ (Sub.of rf)
  obtain⟨hb2,hd⟩:=bF hb2 hd
  refine Wp.exit<|At.An<|At.An<|At.Az<|At.Ad<|Wp.sr<|Aa.op (Ab.move rf) rf<|Aa.op (Ab.assign rf) rf ?_
  refine Aa.Af<|Wp.ret ?_
  obtain rfl:=si hd
  exact At.q1 1 hl1 rf (RV.tmp rf) rf
 obtain⟨hg1_,hd⟩:=bF hg1 hd
 refine Wp.region<|Aa.op (Ab.move rf) rf<|Aa.op (Ab.AV (o':=5) Et rf rf) rf<|Aa.op (Ab.Am (i:=0) (v:=v1) HO rf rf rf rf) rf ?_
 have hb1:=hv1.le
 refine Aa.op (Ab.len HO rf (hv1.mono hl1).sl) rf<|Aa.op (Ab.Bg (b:=decide (i2<(a0.AL.length:Int))) (c:=false) (Ab.lss rf rf) hg1) rf<|Aa.op (Ab.move rf) rf<|Aa.Ai rf rf rf rf<|Aa.Ai rf rf rf rf<|Aa.Ai rf rf rf rf<|Aa.op (Ab.AA rf rf) rf<|Aa.Af ?_
 refine Wp.C2 rf<|Wp.exit<|At.An<|At.An<|At.Az<|At.Ad<|Wp.sr<|Aa.op (Ab.move rf) rf ?_
 refine Aa.op (Ab.assign rf) rf<|Aa.Af<|Wp.ret ?_
 obtain rfl:=si hd
 exact At.q1 1 hl1 rf (RV.tmp rf) rf
theorem P1{fu:Nat}{a0:Rx}{v1:Value}{r:Bool}(hv1:AW Kc H a0.AL v1)(hd:Ik fu a0=some r):
  Ca Tryz.prog 13 [(.agg #[(.int .i64 a0.kind),(Ak (word a0.set 0)),(Ak (word a0.set 1)),(Ak (word a0.set 2)),(Ak (word a0.set 3)),v1])] H O (.bool r):=by
 intro w hs
 refine Bz Tryz.func13 rf rf rf ?_ hs
 clear hs w
 unfold Ik at hd
 refine Wp.sr<|Aa.box (cs:= #[(.int .i64 a0.kind),(Ak (word a0.set 0)),(Ak (word a0.set 1)),(Ak (word a0.set 2)),(Ak (word a0.set 3)),v1]) rf rf rf fun B2=>Aa.op (Ab.assign rf) rf<|Aa.Af<|Wp.seq ?_
 obtain⟨x1,hx1,hd⟩:=Ae hd
 refine Wp.region<|Aa.op (Ab.AF (i:=0) JH rf Cj rf rf rf) rf<|Aa.op (Ab.call W_ rf (P2 hv1 hx1)) rf<|Aa.op (Ab.leq rf rf) rf<|Aa.op (Ab.assign rf) rf<|Aa.Af<|Wp.ret ?_
 obtain rfl:=si hd
 exact At.q1 1 (Hp.le.refl _) rf (RV.tmp rf) rf
theorem Rg{fu:Nat}{a0:Rx}{v1:Value}{r:Int}(hv1:AW Kc H a0.AL v1)(hd:Jb fu a0=some r):
    Ca Tryz.prog 82 [(.agg #[(.int .i64 a0.kind),(Ak (word a0.set 0)),(Ak (word a0.set 1)),(Ak (word a0.set 2)),(Ak (word a0.set 3)),v1])] H O (.int .i64 r):=by
 intro w hs
 refine Bz Tryz.func82 rf rf rf ?_ hs
 clear hs w
 unfold Jb at hd
 refine Wp.sr<|Aa.box (cs:= #[(.int .i64 a0.kind),(Ak (word a0.set 0)),(Ak (word a0.set 1)),(Ak (word a0.set 2)),(Ak (word a0.set 3)),v1]) rf rf rf fun B2=>Aa.op (Ab.assign rf) rf<|Aa.Af<|Wp.seq ?_
 refine Wp.Fp (fun LL HH OO=>[(1,(ptr B2 0))]=LL∧ .AM B2 (.cells #[(.int .i64 a0.kind),(Ak (word a0.set 0)),(Ak (word a0.set 1)),(Ak (word a0.set 2)),(Ak (word a0.set 3)),v1] 37 (0,0))::O=OO∧Fi fu a0=some r) ?_ ?_
 ·
  refine Wp.seq ?_
  rcases Bool.eq_false_or_eq_true (decide (a0.kind<0))with hg1|hg1
  ·
   obtain⟨hg1_,hd⟩:=bT hg1 hd
   refine Wp.region<|Aa.op (Ab.AV (o':=0) A3 rf rf) rf<|Aa.op (Ab.Am (i:=0) (v:=(.int .i64 a0.kind)) u3 rf rf rf rf) rf<|Aa.op (Ab.Bg (b:=decide (a0.kind<0)) (c:=true) (Ab.lss rf rf) hg1) rf<|Aa.op (Ab.move rf) rf<|Aa.Ai rf rf rf rf<|Aa.Ai rf rf rf rf<|Aa.Ai rf rf rf rf ?_
   refine Aa.op (Ab.AK rf rf) rf<|Aa.op (Ab.move rf) rf<|Aa.Ai rf rf rf rf<|Aa.Ai rf rf rf rf<|Aa.Ai rf rf rf rf<|Aa.Ai rf rf rf rf<|Aa.CS rf rf rf<|Aa.CS rf rf rf ?_
   refine Aa.CS rf rf rf<|Aa.CS rf rf rf<|Aa.Ai rf rf rf rf<|Aa.op (Ab.AK rf rf) rf<|Aa.Af<|Wp.D_ rf<|Wp.sr<|Aa.op (Ab.assign rf) rf ?_
   refine Aa.Af<|Wp.ret<|At.Av ?_
   obtain rfl:=si hd
   exact At.q1 1 (Hp.le.refl _) rf (RV.tmp rf) rf
  obtain⟨hg1_,hd⟩:=bF hg1 hd
  rcases Bool.eq_false_or_eq_true (decide (5<a0.kind))with hg2|hg2
  ·
   obtain⟨hg2_,hd⟩:=bT hg2 hd
   refine Wp.region<|Aa.op (Ab.AV (o':=0) A3 rf rf) rf<|Aa.op (Ab.Am (i:=0) (v:=(.int .i64 a0.kind)) u3 rf rf rf rf) rf<|Aa.op (Ab.Bg (b:=decide (a0.kind<0)) (c:=false) (Ab.lss rf rf) hg1) rf<|Aa.op (Ab.move rf) rf<|Aa.Ay rf rf (Ab.AV (o':=0) A3 rf rf) rf<|Aa.Ay rf rf (Ab.Am (i:=0) (v:=(.int .i64 a0.kind)) u3 rf rf rf rf) rf<|Aa.Ay rf rf (Ab.Bg (b:=decide (5<a0.kind)) (c:=true) (Ab.gtr rf rf) hg2) rf ?_
   refine Aa.op (Ab.AA rf rf) rf<|Aa.op (Ab.move rf) rf<|Aa.Ai rf rf rf rf<|Aa.Ai rf rf rf rf<|Aa.Ai rf rf rf rf<|Aa.Ai rf rf rf rf<|Aa.CS rf rf rf<|Aa.CS rf rf rf ?_
   refine Aa.CS rf rf rf<|Aa.CS rf rf rf<|Aa.Ai rf rf rf rf<|Aa.op (Ab.AK rf rf) rf<|Aa.Af<|Wp.D_ rf<|Wp.sr<|Aa.op (Ab.assign rf) rf ?_
   refine Aa.Af<|Wp.ret<|At.Av ?_
   obtain rfl:=si hd
   exact At.q1 1 (Hp.le.refl _) rf (RV.tmp rf) rf
  obtain⟨hg2_,hd⟩:=bF hg2 hd
  rcases Bool.eq_false_or_eq_true (decide (a0.kind≠2))with hg3|hg3
  ·
   obtain⟨hg3_,hd⟩:=bT hg3 hd
   refine Wp.region<|Aa.op (Ab.AV (o':=0) A3 rf rf) rf<|Aa.op (Ab.Am (i:=0) (v:=(.int .i64 a0.kind)) u3 rf rf rf rf) rf<|Aa.op (Ab.Bg (b:=decide (a0.kind<0)) (c:=false) (Ab.lss rf rf) hg1) rf<|Aa.op (Ab.move rf) rf<|Aa.Ay rf rf (Ab.AV (o':=0) A3 rf rf) rf<|Aa.Ay rf rf (Ab.Am (i:=0) (v:=(.int .i64 a0.kind)) u3 rf rf rf rf) rf<|Aa.Ay rf rf (Ab.Bg (b:=decide (5<a0.kind)) (c:=false) (Ab.gtr rf rf) hg2) rf ?_
   refine Aa.op (Ab.AA rf rf) rf<|Aa.op (Ab.move rf) rf<|Aa.Ay rf rf (Ab.AV (o':=0) A3 rf rf) rf<|Aa.Ay rf rf (Ab.Am (i:=0) (v:=(.int .i64 a0.kind)) u3 rf rf rf rf) rf<|Aa.Ay rf rf (Ab.Bg (b:=decide (a0.kind≠2)) (c:=true) (Ab.neq rf rf) hg3) rf<|Aa.Ay rf rf (Ab.move rf) rf<|Aa.Ay rf rf (Ab.AV (o':=1) J_ rf rf) rf<|Aa.Ay rf rf (Ab.GS (i:=0) (vs:=[(Ak (word a0.set 0)),(Ak (word a0.set 1)),(Ak (word a0.set 2)),(Ak (word a0.set 3))]) LS rf BJ rf rf rf) rf ?_
   refine Aa.Ay rf rf (Ab.cast (v':=(.agg #[(Ak (word (fun _=>false) 0)),(Ak (word (fun _=>false) 1)),(Ak (word (fun _=>false) 2)),(Ak (word (fun _=>false) 3))])) (Ab.Sy (vs:=[]) (cs:= #[.int .u64 0, .int .u64 0, .int .u64 0, .int .u64 0]) LS BJ FN rf rf (Bd) rf) aa) rf<|Aa.Ay rf rf (Ab.XJ (p:=a0.set) (q:=(fun _=>false)) UP LS u32 FN rf rf) rf<|Aa.Ay rf rf (Ab.AK rf rf) rf<|Aa.op (Ab.AA rf rf) rf<|Aa.Af ?_
   refine Wp.cond rf (fun hb1=>?_) (fun hb1=>?_)
   ·
    replace hd:=Fs hb1 hd
    refine Wp.sr<|Aa.op (Ab.assign rf) rf<|Aa.Af<|Wp.ret<|At.Av ?_
    obtain rfl:=si hd
    exact At.q1 1 (Hp.le.refl _) rf (RV.tmp rf) rf
   replace hd:=Ft hb1 hd
   refine Wp.skip ?_
   refine At.Cn (Hp.le.refl _) ⟨rf,rf,hd⟩ (Sub.of rf)
  obtain⟨hg3_,hd⟩:=bF hg3 hd
  refine Wp.region<|Aa.op (Ab.AV (o':=0) A3 rf rf) rf<|Aa.op (Ab.Am (i:=0) (v:=(.int .i64 a0.kind)) u3 rf rf rf rf) rf<|Aa.op (Ab.Bg (b:=decide (a0.kind<0)) (c:=false) (Ab.lss rf rf) hg1) rf<|Aa.op (Ab.move rf) rf<|Aa.Ay rf rf (Ab.AV (o':=0) A3 rf rf) rf<|Aa.Ay rf rf (Ab.Am (i:=0) (v:=(.int .i64 a0.kind)) u3 rf rf rf rf) rf<|Aa.Ay rf rf (Ab.Bg (b:=decide (5<a0.kind)) (c:=false) (Ab.gtr rf rf) hg2) rf ?_
  refine Aa.op (Ab.AA rf rf) rf<|Aa.op (Ab.move rf) rf<|Aa.Ay rf rf (Ab.AV (o':=0) A3 rf rf) rf<|Aa.Ay rf rf (Ab.Am (i:=0) (v:=(.int .i64 a0.kind)) u3 rf rf rf rf) rf<|Aa.Ay rf rf (Ab.Bg (b:=decide (a0.kind≠2)) (c:=false) (Ab.neq rf rf) hg3) rf<|Aa.Ay rf rf (Ab.move rf) rf<|Aa.Ai rf rf rf rf<|Aa.Ai rf rf rf rf ?_
  refine Aa.Ai rf rf rf rf<|Aa.Ai rf rf rf rf<|Aa.Ay rf rf (Ab.AA rf rf) rf<|Aa.op (Ab.AA rf rf) rf<|Aa.Af<|Wp.C2 rf<|Wp.skip ?_
  refine At.Cn (Hp.le.refl _) ⟨rf,rf,hd⟩ (Sub.of rf)
 intro L1 H1 O1 hl1 hI1
 obtain⟨rfl,rfl,hd⟩:=hI1
 unfold Fi at hd
 refine Wp.sr<|Aa.op (Ab.AV (o':=5) Et rf rf) rf<|Aa.op (Ab.Am (i:=0) (v:=v1) HO rf rf rf rf) rf ?_
 have hb2:=hv1.le
 refine Aa.op (Ab.len HO rf (hv1.mono hl1).sl) rf<|Aa.op (Ab.assign rf) rf<|Aa.Af<|Wp.seq<|Wp.seq ?_
 rcases Bool.eq_false_or_eq_true (decide (a0.kind<3))with hg4|hg4
 ·
  obtain⟨hg4_,hd⟩:=bT hg4 hd
  rcases Bool.eq_false_or_eq_true (decide (0<(a0.AL.length:Int)))with hg5|hg5
  ·
   obtain⟨hg5_,hd⟩:=bT hg5 hd
   refine Wp.region<|Aa.op (Ab.AV (o':=0) A3 rf rf) rf<|Aa.op (Ab.Am (i:=0) (v:=(.int .i64 a0.kind)) u3 rf rf rf rf) rf<|Aa.op (Ab.Bg (b:=decide (a0.kind<3)) (c:=true) (Ab.lss rf rf) hg4) rf<|Aa.op (Ab.move rf) rf<|Aa.Ay rf rf (Ab.move rf) rf<|Aa.Ay rf rf (Ab.Bg (b:=decide (0<(a0.AL.length:Int))) (c:=true) (Ab.gtr rf rf) hg5) rf<|Aa.op (Ab.AK rf rf) rf ?_
   refine Aa.op (Ab.move rf) rf<|Aa.Ai rf rf rf rf<|Aa.Ai rf rf rf rf<|Aa.Ai rf rf rf rf<|Aa.Ai rf rf rf rf<|Aa.CS rf rf rf<|Aa.CS rf rf rf<|Aa.CS rf rf rf ?_
   refine Aa.Ai rf rf rf rf<|Aa.Ai rf rf rf rf<|Aa.CS rf rf rf<|Aa.CS rf rf rf<|Aa.Ai rf rf rf rf<|Aa.op (Ab.AK rf rf) rf<|Aa.op (Ab.move rf) rf<|Aa.Ai rf rf rf rf ?_
   refine Aa.Ai rf rf rf rf<|Aa.Ai rf rf rf rf<|Aa.Ai rf rf rf rf<|Aa.CS rf rf rf<|Aa.CS rf rf rf<|Aa.Ai rf rf rf rf<|Aa.op (Ab.AK rf rf) rf<|Aa.Af ?_
   refine Wp.D_ rf<|Wp.sr<|Aa.op (Ab.assign rf) rf<|Aa.Af<|Wp.ret<|At.Av ?_
   obtain rfl:=si hd
   exact At.q1 1 hl1 rf (RV.tmp rf) rf
  obtain⟨hg5_,hd⟩:=bF hg5 hd
  rcases Bool.eq_false_or_eq_true (decide (a0.kind=3))with hg6|hg6
  ·
   obtain⟨hg6_,hd⟩:=bT hg6 hd
   rcases Bool.eq_false_or_eq_true (decide ((a0.AL.length:Int)<2))with hg7|hg7
   ·
    obtain⟨hg7_,hd⟩:=bT hg7 hd
    refine Wp.region<|Aa.op (Ab.AV (o':=0) A3 rf rf) rf<|Aa.op (Ab.Am (i:=0) (v:=(.int .i64 a0.kind)) u3 rf rf rf rf) rf<|Aa.op (Ab.Bg (b:=decide (a0.kind<3)) (c:=true) (Ab.lss rf rf) hg4) rf<|Aa.op (Ab.move rf) rf<|Aa.Ay rf rf (Ab.move rf) rf<|Aa.Ay rf rf (Ab.Bg (b:=decide (0<(a0.AL.length:Int))) (c:=false) (Ab.gtr rf rf) hg5) rf<|Aa.op (Ab.AK rf rf) rf ?_
    refine Aa.op (Ab.move rf) rf<|Aa.Ay rf rf (Ab.AV (o':=0) A3 rf rf) rf<|Aa.Ay rf rf (Ab.Am (i:=0) (v:=(.int .i64 a0.kind)) u3 rf rf rf rf) rf<|Aa.Ay rf rf (Ab.Bg (b:=decide (a0.kind=3)) (c:=true) (Ab.eql rf rf) hg6) rf<|Aa.Ay rf rf (Ab.move rf) rf<|Aa.Ai rf rf rf rf<|Aa.Ai rf rf rf rf<|Aa.Ai rf rf rf rf ?_
    refine Aa.Ay rf rf (Ab.AK rf rf) rf<|Aa.Ay rf rf (Ab.move rf) rf<|Aa.Ay rf rf (Ab.move rf) rf<|Aa.Ay rf rf (Ab.Bg (b:=decide ((a0.AL.length:Int)<2)) (c:=true) (Ab.lss rf rf) hg7) rf<|Aa.Ay rf rf (Ab.AK rf rf) rf<|Aa.op (Ab.AA rf rf) rf<|Aa.op (Ab.move rf) rf<|Aa.Ai rf rf rf rf ?_
    refine Aa.Ai rf rf rf rf<|Aa.Ai rf rf rf rf<|Aa.Ai rf rf rf rf<|Aa.CS rf rf rf<|Aa.CS rf rf rf<|Aa.Ai rf rf rf rf<|Aa.op (Ab.AK rf rf) rf<|Aa.Af ?_
    refine Wp.D_ rf<|Wp.sr<|Aa.op (Ab.assign rf) rf<|Aa.Af<|Wp.ret<|At.Av ?_
    obtain rfl:=si hd
    exact At.q1 1 hl1 rf (RV.tmp rf) rf
   obtain⟨hg7_,hd⟩:=bF hg7 hd
   rcases Bool.eq_false_or_eq_true (decide (a0.kind=5))with hg8|hg8
   ·
    obtain⟨hg8_,hd⟩:=bT hg8 hd
    refine Wp.region<|Aa.op (Ab.AV (o':=0) A3 rf rf) rf<|Aa.op (Ab.Am (i:=0) (v:=(.int .i64 a0.kind)) u3 rf rf rf rf) rf<|Aa.op (Ab.Bg (b:=decide (a0.kind<3)) (c:=true) (Ab.lss rf rf) hg4) rf<|Aa.op (Ab.move rf) rf<|Aa.Ay rf rf (Ab.move rf) rf<|Aa.Ay rf rf (Ab.Bg (b:=decide (0<(a0.AL.length:Int))) (c:=false) (Ab.gtr rf rf) hg5) rf<|Aa.op (Ab.AK rf rf) rf ?_
    refine Aa.op (Ab.move rf) rf<|Aa.Ay rf rf (Ab.AV (o':=0) A3 rf rf) rf<|Aa.Ay rf rf (Ab.Am (i:=0) (v:=(.int .i64 a0.kind)) u3 rf rf rf rf) rf<|Aa.Ay rf rf (Ab.Bg (b:=decide (a0.kind=3)) (c:=true) (Ab.eql rf rf) hg6) rf<|Aa.Ay rf rf (Ab.move rf) rf<|Aa.Ai rf rf rf rf<|Aa.Ai rf rf rf rf<|Aa.Ai rf rf rf rf ?_
    refine Aa.Ay rf rf (Ab.AK rf rf) rf<|Aa.Ay rf rf (Ab.move rf) rf<|Aa.Ay rf rf (Ab.move rf) rf<|Aa.Ay rf rf (Ab.Bg (b:=decide ((a0.AL.length:Int)<2)) (c:=false) (Ab.lss rf rf) hg7) rf<|Aa.Ay rf rf (Ab.AK rf rf) rf<|Aa.op (Ab.AA rf rf) rf<|Aa.op (Ab.move rf) rf<|Aa.Ay rf rf (Ab.AV (o':=0) A3 rf rf) rf ?_
    refine Aa.Ay rf rf (Ab.Am (i:=0) (v:=(.int .i64 a0.kind)) u3 rf rf rf rf) rf<|Aa.Ay rf rf (Ab.Bg (b:=decide (a0.kind=5)) (c:=true) (Ab.eql rf rf) hg8) rf<|Aa.Ay rf rf (Ab.move rf) rf<|Aa.Ay rf rf (Ab.move rf) rf<|Aa.Ay rf rf (Ab.neq rf rf) rf<|Aa.Ay rf rf (Ab.AK rf rf) rf<|Aa.op (Ab.AA rf rf) rf<|Aa.Af ?_
    refine Wp.cond rf (fun hb3=>?_) (fun hb3=>?_)
    ·
     obtain⟨hb3,hd⟩:=bT hb3 hd
     refine Wp.sr<|Aa.op (Ab.assign rf) rf<|Aa.Af<|Wp.ret<|At.Av ?_
     obtain rfl:=si hd
     exact At.q1 1 hl1 rf (RV.tmp rf) rf
    obtain⟨hb3,hd⟩:=bF hb3 hd
    refine Wp.skip<|At.Ad<|Wp.sr<|Aa.op (Ab.assign rf) rf<|Aa.Af<|Wp.ret ?_
    obtain rfl:=si hd
    exact At.q1 1 hl1 rf (RV.tmp rf) rf
   obtain⟨hg8_,hd⟩:=bF hg8 hd
   refine Wp.region<|Aa.op (Ab.AV (o':=0) A3 rf rf) rf<|Aa.op (Ab.Am (i:=0) (v:=(.int .i64 a0.kind)) u3 rf rf rf rf) rf<|Aa.op (Ab.Bg (b:=decide (a0.kind<3)) (c:=true) (Ab.lss rf rf) hg4) rf<|Aa.op (Ab.move rf) rf<|Aa.Ay rf rf (Ab.move rf) rf<|Aa.Ay rf rf (Ab.Bg (b:=decide (0<(a0.AL.length:Int))) (c:=false) (Ab.gtr rf rf) hg5) rf<|Aa.op (Ab.AK rf rf) rf ?_
   refine Aa.op (Ab.move rf) rf<|Aa.Ay rf rf (Ab.AV (o':=0) A3 rf rf) rf<|Aa.Ay rf rf (Ab.Am (i:=0) (v:=(.int .i64 a0.kind)) u3 rf rf rf rf) rf<|Aa.Ay rf rf (Ab.Bg (b:=decide (a0.kind=3)) (c:=true) (Ab.eql rf rf) hg6) rf<|Aa.Ay rf rf (Ab.move rf) rf<|Aa.Ai rf rf rf rf<|Aa.Ai rf rf rf rf<|Aa.Ai rf rf rf rf ?_
   refine Aa.Ay rf rf (Ab.AK rf rf) rf<|Aa.Ay rf rf (Ab.move rf) rf<|Aa.Ay rf rf (Ab.move rf) rf<|Aa.Ay rf rf (Ab.Bg (b:=decide ((a0.AL.length:Int)<2)) (c:=false) (Ab.lss rf rf) hg7) rf<|Aa.Ay rf rf (Ab.AK rf rf) rf<|Aa.op (Ab.AA rf rf) rf<|Aa.op (Ab.move rf) rf<|Aa.Ay rf rf (Ab.AV (o':=0) A3 rf rf) rf ?_
   refine Aa.Ay rf rf (Ab.Am (i:=0) (v:=(.int .i64 a0.kind)) u3 rf rf rf rf) rf<|Aa.Ay rf rf (Ab.Bg (b:=decide (a0.kind=5)) (c:=false) (Ab.eql rf rf) hg8) rf<|Aa.Ay rf rf (Ab.move rf) rf<|Aa.Ai rf rf rf rf<|Aa.Ai rf rf rf rf<|Aa.Ay rf rf (Ab.AA rf rf) rf<|Aa.op (Ab.AA rf rf) rf<|Aa.Af ?_
   refine Wp.C2 rf<|Wp.skip<|At.Ad<|Wp.sr<|Aa.op (Ab.assign rf) rf<|Aa.Af<|Wp.ret ?_
   obtain rfl:=si hd
   exact At.q1 1 hl1 rf (RV.tmp rf) rf
  obtain⟨hg6_,hd⟩:=bF hg6 hd
  rcases Bool.eq_false_or_eq_true (decide (a0.kind=4))with hg9|hg9
  ·
   obtain⟨hg9_,hd⟩:=bT hg9 hd
   rcases Bool.eq_false_or_eq_true (decide ((a0.AL.length:Int)<2))with hg10|hg10
   ·
    obtain⟨hg10_,hd⟩:=bT hg10 hd
    refine Wp.region<|Aa.op (Ab.AV (o':=0) A3 rf rf) rf<|Aa.op (Ab.Am (i:=0) (v:=(.int .i64 a0.kind)) u3 rf rf rf rf) rf<|Aa.op (Ab.Bg (b:=decide (a0.kind<3)) (c:=true) (Ab.lss rf rf) hg4) rf<|Aa.op (Ab.move rf) rf<|Aa.Ay rf rf (Ab.move rf) rf<|Aa.Ay rf rf (Ab.Bg (b:=decide (0<(a0.AL.length:Int))) (c:=false) (Ab.gtr rf rf) hg5) rf<|Aa.op (Ab.AK rf rf) rf ?_
    refine Aa.op (Ab.move rf) rf<|Aa.Ay rf rf (Ab.AV (o':=0) A3 rf rf) rf<|Aa.Ay rf rf (Ab.Am (i:=0) (v:=(.int .i64 a0.kind)) u3 rf rf rf rf) rf<|Aa.Ay rf rf (Ab.Bg (b:=decide (a0.kind=3)) (c:=false) (Ab.eql rf rf) hg6) rf<|Aa.Ay rf rf (Ab.move rf) rf<|Aa.Ay rf rf (Ab.AV (o':=0) A3 rf rf) rf<|Aa.Ay rf rf (Ab.Am (i:=0) (v:=(.int .i64 a0.kind)) u3 rf rf rf rf) rf<|Aa.Ay rf rf (Ab.Bg (b:=decide (a0.kind=4)) (c:=true) (Ab.eql rf rf) hg9) rf ?_
    refine Aa.Ay rf rf (Ab.AA rf rf) rf<|Aa.Ay rf rf (Ab.move rf) rf<|Aa.Ay rf rf (Ab.move rf) rf<|Aa.Ay rf rf (Ab.Bg (b:=decide ((a0.AL.length:Int)<2)) (c:=true) (Ab.lss rf rf) hg10) rf<|Aa.Ay rf rf (Ab.AK rf rf) rf<|Aa.op (Ab.AA rf rf) rf<|Aa.op (Ab.move rf) rf<|Aa.Ai rf rf rf rf ?_
    refine Aa.Ai rf rf rf rf<|Aa.Ai rf rf rf rf<|Aa.Ai rf rf rf rf<|Aa.CS rf rf rf<|Aa.CS rf rf rf<|Aa.Ai rf rf rf rf<|Aa.op (Ab.AK rf rf) rf<|Aa.Af ?_
    refine Wp.D_ rf<|Wp.sr<|Aa.op (Ab.assign rf) rf<|Aa.Af<|Wp.ret<|At.Av ?_
    obtain rfl:=si hd
    exact At.q1 1 hl1 rf (RV.tmp rf) rf
   obtain⟨hg10_,hd⟩:=bF hg10 hd
   rcases Bool.eq_false_or_eq_true (decide (a0.kind=5))with hg11|hg11
   ·
    obtain⟨hg11_,hd⟩:=bT hg11 hd
    refine Wp.region<|Aa.op (Ab.AV (o':=0) A3 rf rf) rf<|Aa.op (Ab.Am (i:=0) (v:=(.int .i64 a0.kind)) u3 rf rf rf rf) rf<|Aa.op (Ab.Bg (b:=decide (a0.kind<3)) (c:=true) (Ab.lss rf rf) hg4) rf<|Aa.op (Ab.move rf) rf<|Aa.Ay rf rf (Ab.move rf) rf<|Aa.Ay rf rf (Ab.Bg (b:=decide (0<(a0.AL.length:Int))) (c:=false) (Ab.gtr rf rf) hg5) rf<|Aa.op (Ab.AK rf rf) rf ?_
    refine Aa.op (Ab.move rf) rf<|Aa.Ay rf rf (Ab.AV (o':=0) A3 rf rf) rf<|Aa.Ay rf rf (Ab.Am (i:=0) (v:=(.int .i64 a0.kind)) u3 rf rf rf rf) rf<|Aa.Ay rf rf (Ab.Bg (b:=decide (a0.kind=3)) (c:=false) (Ab.eql rf rf) hg6) rf<|Aa.Ay rf rf (Ab.move rf) rf<|Aa.Ay rf rf (Ab.AV (o':=0) A3 rf rf) rf<|Aa.Ay rf rf (Ab.Am (i:=0) (v:=(.int .i64 a0.kind)) u3 rf rf rf rf) rf<|Aa.Ay rf rf (Ab.Bg (b:=decide (a0.kind=4)) (c:=true) (Ab.eql rf rf) hg9) rf ?_
    refine Aa.Ay rf rf (Ab.AA rf rf) rf<|Aa.Ay rf rf (Ab.move rf) rf<|Aa.Ay rf rf (Ab.move rf) rf<|Aa.Ay rf rf (Ab.Bg (b:=decide ((a0.AL.length:Int)<2)) (c:=false) (Ab.lss rf rf) hg10) rf<|Aa.Ay rf rf (Ab.AK rf rf) rf<|Aa.op (Ab.AA rf rf) rf<|Aa.op (Ab.move rf) rf<|Aa.Ay rf rf (Ab.AV (o':=0) A3 rf rf) rf ?_
    refine Aa.Ay rf rf (Ab.Am (i:=0) (v:=(.int .i64 a0.kind)) u3 rf rf rf rf) rf<|Aa.Ay rf rf (Ab.Bg (b:=decide (a0.kind=5)) (c:=true) (Ab.eql rf rf) hg11) rf<|Aa.Ay rf rf (Ab.move rf) rf<|Aa.Ay rf rf (Ab.move rf) rf<|Aa.Ay rf rf (Ab.neq rf rf) rf<|Aa.Ay rf rf (Ab.AK rf rf) rf<|Aa.op (Ab.AA rf rf) rf<|Aa.Af ?_
    refine Wp.cond rf (fun hb4=>?_) (fun hb4=>?_)
    ·
     obtain⟨hb4,hd⟩:=bT hb4 hd
     refine Wp.sr<|Aa.op (Ab.assign rf) rf<|Aa.Af<|Wp.ret<|At.Av ?_
     obtain rfl:=si hd
     exact At.q1 1 hl1 rf (RV.tmp rf) rf
    obtain⟨hb4,hd⟩:=bF hb4 hd
    refine Wp.skip<|At.Ad<|Wp.sr<|Aa.op (Ab.assign rf) rf<|Aa.Af<|Wp.ret ?_
    obtain rfl:=si hd
    exact At.q1 1 hl1 rf (RV.tmp rf) rf
   obtain⟨hg11_,hd⟩:=bF hg11 hd
   refine Wp.region<|Aa.op (Ab.AV (o':=0) A3 rf rf) rf<|Aa.op (Ab.Am (i:=0) (v:=(.int .i64 a0.kind)) u3 rf rf rf rf) rf<|Aa.op (Ab.Bg (b:=decide (a0.kind<3)) (c:=true) (Ab.lss rf rf) hg4) rf<|Aa.op (Ab.move rf) rf<|Aa.Ay rf rf (Ab.move rf) rf<|Aa.Ay rf rf (Ab.Bg (b:=decide (0<(a0.AL.length:Int))) (c:=false) (Ab.gtr rf rf) hg5) rf<|Aa.op (Ab.AK rf rf) rf ?_
   refine Aa.op (Ab.move rf) rf<|Aa.Ay rf rf (Ab.AV (o':=0) A3 rf rf) rf<|Aa.Ay rf rf (Ab.Am (i:=0) (v:=(.int .i64 a0.kind)) u3 rf rf rf rf) rf<|Aa.Ay rf rf (Ab.Bg (b:=decide (a0.kind=3)) (c:=false) (Ab.eql rf rf) hg6) rf<|Aa.Ay rf rf (Ab.move rf) rf<|Aa.Ay rf rf (Ab.AV (o':=0) A3 rf rf) rf<|Aa.Ay rf rf (Ab.Am (i:=0) (v:=(.int .i64 a0.kind)) u3 rf rf rf rf) rf<|Aa.Ay rf rf (Ab.Bg (b:=decide (a0.kind=4)) (c:=true) (Ab.eql rf rf) hg9) rf ?_
   refine Aa.Ay rf rf (Ab.AA rf rf) rf<|Aa.Ay rf rf (Ab.move rf) rf<|Aa.Ay rf rf (Ab.move rf) rf<|Aa.Ay rf rf (Ab.Bg (b:=decide ((a0.AL.length:Int)<2)) (c:=false) (Ab.lss rf rf) hg10) rf<|Aa.Ay rf rf (Ab.AK rf rf) rf<|Aa.op (Ab.AA rf rf) rf<|Aa.op (Ab.move rf) rf<|Aa.Ay rf rf (Ab.AV (o':=0) A3 rf rf) rf ?_
   refine Aa.Ay rf rf (Ab.Am (i:=0) (v:=(.int .i64 a0.kind)) u3 rf rf rf rf) rf<|Aa.Ay rf rf (Ab.Bg (b:=decide (a0.kind=5)) (c:=false) (Ab.eql rf rf) hg11) rf<|Aa.Ay rf rf (Ab.move rf) rf<|Aa.Ai rf rf rf rf<|Aa.Ai rf rf rf rf<|Aa.Ay rf rf (Ab.AA rf rf) rf<|Aa.op (Ab.AA rf rf) rf<|Aa.Af ?_
   refine Wp.C2 rf<|Wp.skip<|At.Ad<|Wp.sr<|Aa.op (Ab.assign rf) rf<|Aa.Af<|Wp.ret ?_
   obtain rfl:=si hd
   exact At.q1 1 hl1 rf (RV.tmp rf) rf
  obtain⟨hg9_,hd⟩:=bF hg9 hd
  rcases Bool.eq_false_or_eq_true (decide (a0.kind=5))with hg12|hg12
  ·
   obtain⟨hg12_,hd⟩:=bT hg12 hd
   refine Wp.region<|Aa.op (Ab.AV (o':=0) A3 rf rf) rf<|Aa.op (Ab.Am (i:=0) (v:=(.int .i64 a0.kind)) u3 rf rf rf rf) rf<|Aa.op (Ab.Bg (b:=decide (a0.kind<3)) (c:=true) (Ab.lss rf rf) hg4) rf<|Aa.op (Ab.move rf) rf<|Aa.Ay rf rf (Ab.move rf) rf<|Aa.Ay rf rf (Ab.Bg (b:=decide (0<(a0.AL.length:Int))) (c:=false) (Ab.gtr rf rf) hg5) rf<|Aa.op (Ab.AK rf rf) rf ?_
   refine Aa.op (Ab.move rf) rf<|Aa.Ay rf rf (Ab.AV (o':=0) A3 rf rf) rf<|Aa.Ay rf rf (Ab.Am (i:=0) (v:=(.int .i64 a0.kind)) u3 rf rf rf rf) rf<|Aa.Ay rf rf (Ab.Bg (b:=decide (a0.kind=3)) (c:=false) (Ab.eql rf rf) hg6) rf<|Aa.Ay rf rf (Ab.move rf) rf<|Aa.Ay rf rf (Ab.AV (o':=0) A3 rf rf) rf<|Aa.Ay rf rf (Ab.Am (i:=0) (v:=(.int .i64 a0.kind)) u3 rf rf rf rf) rf<|Aa.Ay rf rf (Ab.Bg (b:=decide (a0.kind=4)) (c:=false) (Ab.eql rf rf) hg9) rf ?_
   refine Aa.Ay rf rf (Ab.AA rf rf) rf<|Aa.Ay rf rf (Ab.move rf) rf<|Aa.Ai rf rf rf rf<|Aa.Ai rf rf rf rf<|Aa.Ay rf rf (Ab.AA rf rf) rf<|Aa.op (Ab.AA rf rf) rf<|Aa.op (Ab.move rf) rf<|Aa.Ay rf rf (Ab.AV (o':=0) A3 rf rf) rf ?_
   refine Aa.Ay rf rf (Ab.Am (i:=0) (v:=(.int .i64 a0.kind)) u3 rf rf rf rf) rf<|Aa.Ay rf rf (Ab.Bg (b:=decide (a0.kind=5)) (c:=true) (Ab.eql rf rf) hg12) rf<|Aa.Ay rf rf (Ab.move rf) rf<|Aa.Ay rf rf (Ab.move rf) rf<|Aa.Ay rf rf (Ab.neq rf rf) rf<|Aa.Ay rf rf (Ab.AK rf rf) rf<|Aa.op (Ab.AA rf rf) rf<|Aa.Af ?_
   refine Wp.cond rf (fun hb5=>?_) (fun hb5=>?_)
   ·
    obtain⟨hb5,hd⟩:=bT hb5 hd
    refine Wp.sr<|Aa.op (Ab.assign rf) rf<|Aa.Af<|Wp.ret<|At.Av ?_
    obtain rfl:=si hd
    exact At.q1 1 hl1 rf (RV.tmp rf) rf
   obtain⟨hb5,hd⟩:=bF hb5 hd
   refine Wp.skip<|At.Ad<|Wp.sr<|Aa.op (Ab.assign rf) rf<|Aa.Af<|Wp.ret ?_
   obtain rfl:=si hd
   exact At.q1 1 hl1 rf (RV.tmp rf) rf
  obtain⟨hg12_,hd⟩:=bF hg12 hd
  refine Wp.region<|Aa.op (Ab.AV (o':=0) A3 rf rf) rf<|Aa.op (Ab.Am (i:=0) (v:=(.int .i64 a0.kind)) u3 rf rf rf rf) rf<|Aa.op (Ab.Bg (b:=decide (a0.kind<3)) (c:=true) (Ab.lss rf rf) hg4) rf<|Aa.op (Ab.move rf) rf<|Aa.Ay rf rf (Ab.move rf) rf<|Aa.Ay rf rf (Ab.Bg (b:=decide (0<(a0.AL.length:Int))) (c:=false) (Ab.gtr rf rf) hg5) rf<|Aa.op (Ab.AK rf rf) rf ?_
  refine Aa.op (Ab.move rf) rf<|Aa.Ay rf rf (Ab.AV (o':=0) A3 rf rf) rf<|Aa.Ay rf rf (Ab.Am (i:=0) (v:=(.int .i64 a0.kind)) u3 rf rf rf rf) rf<|Aa.Ay rf rf (Ab.Bg (b:=decide (a0.kind=3)) (c:=false) (Ab.eql rf rf) hg6) rf<|Aa.Ay rf rf (Ab.move rf) rf<|Aa.Ay rf rf (Ab.AV (o':=0) A3 rf rf) rf<|Aa.Ay rf rf (Ab.Am (i:=0) (v:=(.int .i64 a0.kind)) u3 rf rf rf rf) rf<|Aa.Ay rf rf (Ab.Bg (b:=decide (a0.kind=4)) (c:=false) (Ab.eql rf rf) hg9) rf ?_
  refine Aa.Ay rf rf (Ab.AA rf rf) rf<|Aa.Ay rf rf (Ab.move rf) rf<|Aa.Ai rf rf rf rf<|Aa.Ai rf rf rf rf<|Aa.Ay rf rf (Ab.AA rf rf) rf<|Aa.op (Ab.AA rf rf) rf<|Aa.op (Ab.move rf) rf<|Aa.Ay rf rf (Ab.AV (o':=0) A3 rf rf) rf ?_
  refine Aa.Ay rf rf (Ab.Am (i:=0) (v:=(.int .i64 a0.kind)) u3 rf rf rf rf) rf<|Aa.Ay rf rf (Ab.Bg (b:=decide (a0.kind=5)) (c:=false) (Ab.eql rf rf) hg12) rf<|Aa.Ay rf rf (Ab.move rf) rf<|Aa.Ai rf rf rf rf<|Aa.Ai rf rf rf rf<|Aa.Ay rf rf (Ab.AA rf rf) rf<|Aa.op (Ab.AA rf rf) rf<|Aa.Af ?_
  refine Wp.C2 rf<|Wp.skip<|At.Ad<|Wp.sr<|Aa.op (Ab.assign rf) rf<|Aa.Af<|Wp.ret ?_
  obtain rfl:=si hd
  exact At.q1 1 hl1 rf (RV.tmp rf) rf
 obtain⟨hg4_,hd⟩:=bF hg4 hd
 rcases Bool.eq_false_or_eq_true (decide (a0.kind=3))with hg13|hg13
 ·
  obtain⟨hg13_,hd⟩:=bT hg13 hd
  rcases Bool.eq_false_or_eq_true (decide ((a0.AL.length:Int)<2))with hg14|hg14
  ·
   obtain⟨hg14_,hd⟩:=bT hg14 hd
   refine Wp.region<|Aa.op (Ab.AV (o':=0) A3 rf rf) rf<|Aa.op (Ab.Am (i:=0) (v:=(.int .i64 a0.kind)) u3 rf rf rf rf) rf<|Aa.op (Ab.Bg (b:=decide (a0.kind<3)) (c:=false) (Ab.lss rf rf) hg4) rf<|Aa.op (Ab.move rf) rf<|Aa.Ai rf rf rf rf<|Aa.Ai rf rf rf rf<|Aa.op (Ab.AA rf rf) rf ?_
   refine Aa.op (Ab.move rf) rf<|Aa.Ay rf rf (Ab.AV (o':=0) A3 rf rf) rf<|Aa.Ay rf rf (Ab.Am (i:=0) (v:=(.int .i64 a0.kind)) u3 rf rf rf rf) rf<|Aa.Ay rf rf (Ab.Bg (b:=decide (a0.kind=3)) (c:=true) (Ab.eql rf rf) hg13) rf<|Aa.Ay rf rf (Ab.move rf) rf<|Aa.Ai rf rf rf rf<|Aa.Ai rf rf rf rf<|Aa.Ai rf rf rf rf ?_
   refine Aa.Ay rf rf (Ab.AK rf rf) rf<|Aa.Ay rf rf (Ab.move rf) rf<|Aa.Ay rf rf (Ab.move rf) rf<|Aa.Ay rf rf (Ab.Bg (b:=decide ((a0.AL.length:Int)<2)) (c:=true) (Ab.lss rf rf) hg14) rf<|Aa.Ay rf rf (Ab.AK rf rf) rf<|Aa.op (Ab.AA rf rf) rf<|Aa.op (Ab.move rf) rf<|Aa.Ai rf rf rf rf ?_
   refine Aa.Ai rf rf rf rf<|Aa.Ai rf rf rf rf<|Aa.Ai rf rf rf rf<|Aa.CS rf rf rf<|Aa.CS rf rf rf<|Aa.Ai rf rf rf rf<|Aa.op (Ab.AK rf rf) rf<|Aa.Af ?_
   refine Wp.D_ rf<|Wp.sr<|Aa.op (Ab.assign rf) rf<|Aa.Af<|Wp.ret<|At.Av ?_
   obtain rfl:=si hd
   exact At.q1 1 hl1 rf (RV.tmp rf) rf
  obtain⟨hg14_,hd⟩:=bF hg14 hd
  rcases Bool.eq_false_or_eq_true (decide (a0.kind=5))with hg15|hg15
  ·
   obtain⟨hg15_,hd⟩:=bT hg15 hd
   refine Wp.region<|Aa.op (Ab.AV (o':=0) A3 rf rf) rf<|Aa.op (Ab.Am (i:=0) (v:=(.int .i64 a0.kind)) u3 rf rf rf rf) rf<|Aa.op (Ab.Bg (b:=decide (a0.kind<3)) (c:=false) (Ab.lss rf rf) hg4) rf<|Aa.op (Ab.move rf) rf<|Aa.Ai rf rf rf rf<|Aa.Ai rf rf rf rf<|Aa.op (Ab.AA rf rf) rf ?_
   refine Aa.op (Ab.move rf) rf<|Aa.Ay rf rf (Ab.AV (o':=0) A3 rf rf) rf<|Aa.Ay rf rf (Ab.Am (i:=0) (v:=(.int .i64 a0.kind)) u3 rf rf rf rf) rf<|Aa.Ay rf rf (Ab.Bg (b:=decide (a0.kind=3)) (c:=true) (Ab.eql rf rf) hg13) rf<|Aa.Ay rf rf (Ab.move rf) rf<|Aa.Ai rf rf rf rf<|Aa.Ai rf rf rf rf<|Aa.Ai rf rf rf rf ?_
   refine Aa.Ay rf rf (Ab.AK rf rf) rf<|Aa.Ay rf rf (Ab.move rf) rf<|Aa.Ay rf rf (Ab.move rf) rf<|Aa.Ay rf rf (Ab.Bg (b:=decide ((a0.AL.length:Int)<2)) (c:=false) (Ab.lss rf rf) hg14) rf<|Aa.Ay rf rf (Ab.AK rf rf) rf<|Aa.op (Ab.AA rf rf) rf<|Aa.op (Ab.move rf) rf<|Aa.Ay rf rf (Ab.AV (o':=0) A3 rf rf) rf ?_
   refine Aa.Ay rf rf (Ab.Am (i:=0) (v:=(.int .i64 a0.kind)) u3 rf rf rf rf) rf<|Aa.Ay rf rf (Ab.Bg (b:=decide (a0.kind=5)) (c:=true) (Ab.eql rf rf) hg15) rf<|Aa.Ay rf rf (Ab.move rf) rf<|Aa.Ay rf rf (Ab.move rf) rf<|Aa.Ay rf rf (Ab.neq rf rf) rf<|Aa.Ay rf rf (Ab.AK rf rf) rf<|Aa.op (Ab.AA rf rf) rf<|Aa.Af ?_
   refine Wp.cond rf (fun hb6=>?_) (fun hb6=>?_)
   ·
    obtain⟨hb6,hd⟩:=bT hb6 hd
    refine Wp.sr<|Aa.op (Ab.assign rf) rf<|Aa.Af<|Wp.ret<|At.Av ?_
    obtain rfl:=si hd
    exact At.q1 1 hl1 rf (RV.tmp rf) rf
   obtain⟨hb6,hd⟩:=bF hb6 hd
   refine Wp.skip<|At.Ad<|Wp.sr<|Aa.op (Ab.assign rf) rf<|Aa.Af<|Wp.ret ?_
   obtain rfl:=si hd
   exact At.q1 1 hl1 rf (RV.tmp rf) rf
  obtain⟨hg15_,hd⟩:=bF hg15 hd
  refine Wp.region<|Aa.op (Ab.AV (o':=0) A3 rf rf) rf<|Aa.op (Ab.Am (i:=0) (v:=(.int .i64 a0.kind)) u3 rf rf rf rf) rf<|Aa.op (Ab.Bg (b:=decide (a0.kind<3)) (c:=false) (Ab.lss rf rf) hg4) rf<|Aa.op (Ab.move rf) rf<|Aa.Ai rf rf rf rf<|Aa.Ai rf rf rf rf<|Aa.op (Ab.AA rf rf) rf ?_
  refine Aa.op (Ab.move rf) rf<|Aa.Ay rf rf (Ab.AV (o':=0) A3 rf rf) rf<|Aa.Ay rf rf (Ab.Am (i:=0) (v:=(.int .i64 a0.kind)) u3 rf rf rf rf) rf<|Aa.Ay rf rf (Ab.Bg (b:=decide (a0.kind=3)) (c:=true) (Ab.eql rf rf) hg13) rf<|Aa.Ay rf rf (Ab.move rf) rf<|Aa.Ai rf rf rf rf<|Aa.Ai rf rf rf rf<|Aa.Ai rf rf rf rf ?_
  refine Aa.Ay rf rf (Ab.AK rf rf) rf<|Aa.Ay rf rf (Ab.move rf) rf<|Aa.Ay rf rf (Ab.move rf) rf<|Aa.Ay rf rf (Ab.Bg (b:=decide ((a0.AL.length:Int)<2)) (c:=false) (Ab.lss rf rf) hg14) rf<|Aa.Ay rf rf (Ab.AK rf rf) rf<|Aa.op (Ab.AA rf rf) rf<|Aa.op (Ab.move rf) rf<|Aa.Ay rf rf (Ab.AV (o':=0) A3 rf rf) rf ?_
  refine Aa.Ay rf rf (Ab.Am (i:=0) (v:=(.int .i64 a0.kind)) u3 rf rf rf rf) rf<|Aa.Ay rf rf (Ab.Bg (b:=decide (a0.kind=5)) (c:=false) (Ab.eql rf rf) hg15) rf<|Aa.Ay rf rf (Ab.move rf) rf<|Aa.Ai rf rf rf rf<|Aa.Ai rf rf rf rf<|Aa.Ay rf rf (Ab.AA rf rf) rf<|Aa.op (Ab.AA rf rf) rf<|Aa.Af ?_
  refine Wp.C2 rf<|Wp.skip<|At.Ad<|Wp.sr<|Aa.op (Ab.assign rf) rf<|Aa.Af<|Wp.ret ?_
  obtain rfl:=si hd
  exact At.q1 1 hl1 rf (RV.tmp rf) rf
 obtain⟨hg13_,hd⟩:=bF hg13 hd
 rcases Bool.eq_false_or_eq_true (decide (a0.kind=4))with hg16|hg16
 ·
  obtain⟨hg16_,hd⟩:=bT hg16 hd
  rcases Bool.eq_false_or_eq_true (decide ((a0.AL.length:Int)<2))with hg17|hg17
  ·
   obtain⟨hg17_,hd⟩:=bT hg17 hd
   refine Wp.region<|Aa.op (Ab.AV (o':=0) A3 rf rf) rf<|Aa.op (Ab.Am (i:=0) (v:=(.int .i64 a0.kind)) u3 rf rf rf rf) rf<|Aa.op (Ab.Bg (b:=decide (a0.kind<3)) (c:=false) (Ab.lss rf rf) hg4) rf<|Aa.op (Ab.move rf) rf<|Aa.Ai rf rf rf rf<|Aa.Ai rf rf rf rf<|Aa.op (Ab.AA rf rf) rf ?_
   refine Aa.op (Ab.move rf) rf<|Aa.Ay rf rf (Ab.AV (o':=0) A3 rf rf) rf<|Aa.Ay rf rf (Ab.Am (i:=0) (v:=(.int .i64 a0.kind)) u3 rf rf rf rf) rf<|Aa.Ay rf rf (Ab.Bg (b:=decide (a0.kind=3)) (c:=false) (Ab.eql rf rf) hg13) rf<|Aa.Ay rf rf (Ab.move rf) rf<|Aa.Ay rf rf (Ab.AV (o':=0) A3 rf rf) rf<|Aa.Ay rf rf (Ab.Am (i:=0) (v:=(.int .i64 a0.kind)) u3 rf rf rf rf) rf<|Aa.Ay rf rf (Ab.Bg (b:=decide (a0.kind=4)) (c:=true) (Ab.eql rf rf) hg16) rf ?_
   refine Aa.Ay rf rf (Ab.AA rf rf) rf<|Aa.Ay rf rf (Ab.move rf) rf<|Aa.Ay rf rf (Ab.move rf) rf<|Aa.Ay rf rf (Ab.Bg (b:=decide ((a0.AL.length:Int)<2)) (c:=true) (Ab.lss rf rf) hg17) rf<|Aa.Ay rf rf (Ab.AK rf rf) rf<|Aa.op (Ab.AA rf rf) rf<|Aa.op (Ab.move rf) rf<|Aa.Ai rf rf rf rf ?_
   refine Aa.Ai rf rf rf rf<|Aa.Ai rf rf rf rf<|Aa.Ai rf rf rf rf<|Aa.CS rf rf rf<|Aa.CS rf rf rf<|Aa.Ai rf rf rf rf<|Aa.op (Ab.AK rf rf) rf<|Aa.Af ?_
   refine Wp.D_ rf<|Wp.sr<|Aa.op (Ab.assign rf) rf<|Aa.Af<|Wp.ret<|At.Av ?_
   obtain rfl:=si hd
   exact At.q1 1 hl1 rf (RV.tmp rf) rf
  obtain⟨hg17_,hd⟩:=bF hg17 hd
  rcases Bool.eq_false_or_eq_true (decide (a0.kind=5))with hg18|hg18
  ·
   obtain⟨hg18_,hd⟩:=bT hg18 hd
   refine Wp.region<|Aa.op (Ab.AV (o':=0) A3 rf rf) rf<|Aa.op (Ab.Am (i:=0) (v:=(.int .i64 a0.kind)) u3 rf rf rf rf) rf<|Aa.op (Ab.Bg (b:=decide (a0.kind<3)) (c:=false) (Ab.lss rf rf) hg4) rf<|Aa.op (Ab.move rf) rf<|Aa.Ai rf rf rf rf<|Aa.Ai rf rf rf rf<|Aa.op (Ab.AA rf rf) rf ?_
   refine Aa.op (Ab.move rf) rf<|Aa.Ay rf rf (Ab.AV (o':=0) A3 rf rf) rf<|Aa.Ay rf rf (Ab.Am (i:=0) (v:=(.int .i64 a0.kind)) u3 rf rf rf rf) rf<|Aa.Ay rf rf (Ab.Bg (b:=decide (a0.kind=3)) (c:=false) (Ab.eql rf rf) hg13) rf<|Aa.Ay rf rf (Ab.move rf) rf<|Aa.Ay rf rf (Ab.AV (o':=0) A3 rf rf) rf<|Aa.Ay rf rf (Ab.Am (i:=0) (v:=(.int .i64 a0.kind)) u3 rf rf rf rf) rf<|Aa.Ay rf rf (Ab.Bg (b:=decide (a0.kind=4)) (c:=true) (Ab.eql rf rf) hg16) rf ?_
   refine Aa.Ay rf rf (Ab.AA rf rf) rf<|Aa.Ay rf rf (Ab.move rf) rf<|Aa.Ay rf rf (Ab.move rf) rf<|Aa.Ay rf rf (Ab.Bg (b:=decide ((a0.AL.length:Int)<2)) (c:=false) (Ab.lss rf rf) hg17) rf<|Aa.Ay rf rf (Ab.AK rf rf) rf<|Aa.op (Ab.AA rf rf) rf<|Aa.op (Ab.move rf) rf<|Aa.Ay rf rf (Ab.AV (o':=0) A3 rf rf) rf ?_
   refine Aa.Ay rf rf (Ab.Am (i:=0) (v:=(.int .i64 a0.kind)) u3 rf rf rf rf) rf<|Aa.Ay rf rf (Ab.Bg (b:=decide (a0.kind=5)) (c:=true) (Ab.eql rf rf) hg18) rf<|Aa.Ay rf rf (Ab.move rf) rf<|Aa.Ay rf rf (Ab.move rf) rf<|Aa.Ay rf rf (Ab.neq rf rf) rf<|Aa.Ay rf rf (Ab.AK rf rf) rf<|Aa.op (Ab.AA rf rf) rf<|Aa.Af ?_
   refine Wp.cond rf (fun hb7=>?_) (fun hb7=>?_)
   ·
    obtain⟨hb7,hd⟩:=bT hb7 hd
    refine Wp.sr<|Aa.op (Ab.assign rf) rf<|Aa.Af<|Wp.ret<|At.Av ?_
    obtain rfl:=si hd
    exact At.q1 1 hl1 rf (RV.tmp rf) rf
   obtain⟨hb7,hd⟩:=bF hb7 hd
   refine Wp.skip<|At.Ad<|Wp.sr<|Aa.op (Ab.assign rf) rf<|Aa.Af<|Wp.ret ?_
   obtain rfl:=si hd
   exact At.q1 1 hl1 rf (RV.tmp rf) rf
  obtain⟨hg18_,hd⟩:=bF hg18 hd
  refine Wp.region<|Aa.op (Ab.AV (o':=0) A3 rf rf) rf<|Aa.op (Ab.Am (i:=0) (v:=(.int .i64 a0.kind)) u3 rf rf rf rf) rf<|Aa.op (Ab.Bg (b:=decide (a0.kind<3)) (c:=false) (Ab.lss rf rf) hg4) rf<|Aa.op (Ab.move rf) rf<|Aa.Ai rf rf rf rf<|Aa.Ai rf rf rf rf<|Aa.op (Ab.AA rf rf) rf ?_
  refine Aa.op (Ab.move rf) rf<|Aa.Ay rf rf (Ab.AV (o':=0) A3 rf rf) rf<|Aa.Ay rf rf (Ab.Am (i:=0) (v:=(.int .i64 a0.kind)) u3 rf rf rf rf) rf<|Aa.Ay rf rf (Ab.Bg (b:=decide (a0.kind=3)) (c:=false) (Ab.eql rf rf) hg13) rf<|Aa.Ay rf rf (Ab.move rf) rf<|Aa.Ay rf rf (Ab.AV (o':=0) A3 rf rf) rf<|Aa.Ay rf rf (Ab.Am (i:=0) (v:=(.int .i64 a0.kind)) u3 rf rf rf rf) rf<|Aa.Ay rf rf (Ab.Bg (b:=decide (a0.kind=4)) (c:=true) (Ab.eql rf rf) hg16) rf ?_
  refine Aa.Ay rf rf (Ab.AA rf rf) rf<|Aa.Ay rf rf (Ab.move rf) rf<|Aa.Ay rf rf (Ab.move rf) rf<|Aa.Ay rf rf (Ab.Bg (b:=decide ((a0.AL.length:Int)<2)) (c:=false) (Ab.lss rf rf) hg17) rf<|Aa.Ay rf rf (Ab.AK rf rf) rf<|Aa.op (Ab.AA rf rf) rf<|Aa.op (Ab.move rf) rf<|Aa.Ay rf rf (Ab.AV (o':=0) A3 rf rf) rf ?_
  refine Aa.Ay rf rf (Ab.Am (i:=0) (v:=(.int .i64 a0.kind)) u3 rf rf rf rf) rf<|Aa.Ay rf rf (Ab.Bg (b:=decide (a0.kind=5)) (c:=false) (Ab.eql rf rf) hg18) rf<|Aa.Ay rf rf (Ab.move rf) rf<|Aa.Ai rf rf rf rf<|Aa.Ai rf rf rf rf<|Aa.Ay rf rf (Ab.AA rf rf) rf<|Aa.op (Ab.AA rf rf) rf<|Aa.Af ?_
  refine Wp.C2 rf<|Wp.skip<|At.Ad<|Wp.sr<|Aa.op (Ab.assign rf) rf<|Aa.Af<|Wp.ret ?_
  obtain rfl:=si hd
  exact At.q1 1 hl1 rf (RV.tmp rf) rf
 obtain⟨hg16_,hd⟩:=bF hg16 hd
 rcases Bool.eq_false_or_eq_true (decide (a0.kind=5))with hg19|hg19
 ·
  obtain⟨hg19_,hd⟩:=bT hg19 hd
  refine Wp.region<|Aa.op (Ab.AV (o':=0) A3 rf rf) rf<|Aa.op (Ab.Am (i:=0) (v:=(.int .i64 a0.kind)) u3 rf rf rf rf) rf<|Aa.op (Ab.Bg (b:=decide (a0.kind<3)) (c:=false) (Ab.lss rf rf) hg4) rf<|Aa.op (Ab.move rf) rf<|Aa.Ai rf rf rf rf<|Aa.Ai rf rf rf rf<|Aa.op (Ab.AA rf rf) rf ?_
  refine Aa.op (Ab.move rf) rf<|Aa.Ay rf rf (Ab.AV (o':=0) A3 rf rf) rf<|Aa.Ay rf rf (Ab.Am (i:=0) (v:=(.int .i64 a0.kind)) u3 rf rf rf rf) rf<|Aa.Ay rf rf (Ab.Bg (b:=decide (a0.kind=3)) (c:=false) (Ab.eql rf rf) hg13) rf<|Aa.Ay rf rf (Ab.move rf) rf<|Aa.Ay rf rf (Ab.AV (o':=0) A3 rf rf) rf<|Aa.Ay rf rf (Ab.Am (i:=0) (v:=(.int .i64 a0.kind)) u3 rf rf rf rf) rf<|Aa.Ay rf rf (Ab.Bg (b:=decide (a0.kind=4)) (c:=false) (Ab.eql rf rf) hg16) rf ?_
  refine Aa.Ay rf rf (Ab.AA rf rf) rf<|Aa.Ay rf rf (Ab.move rf) rf<|Aa.Ai rf rf rf rf<|Aa.Ai rf rf rf rf<|Aa.Ay rf rf (Ab.AA rf rf) rf<|Aa.op (Ab.AA rf rf) rf<|Aa.op (Ab.move rf) rf<|Aa.Ay rf rf (Ab.AV (o':=0) A3 rf rf) rf ?_
  refine Aa.Ay rf rf (Ab.Am (i:=0) (v:=(.int .i64 a0.kind)) u3 rf rf rf rf) rf<|Aa.Ay rf rf (Ab.Bg (b:=decide (a0.kind=5)) (c:=true) (Ab.eql rf rf) hg19) rf<|Aa.Ay rf rf (Ab.move rf) rf<|Aa.Ay rf rf (Ab.move rf) rf<|Aa.Ay rf rf (Ab.neq rf rf) rf<|Aa.Ay rf rf (Ab.AK rf rf) rf<|Aa.op (Ab.AA rf rf) rf<|Aa.Af ?_
  refine Wp.cond rf (fun hb8=>?_) (fun hb8=>?_)
  ·
   obtain⟨hb8,hd⟩:=bT hb8 hd
   refine Wp.sr<|Aa.op (Ab.assign rf) rf<|Aa.Af<|Wp.ret<|At.Av ?_
   obtain rfl:=si hd
   exact At.q1 1 hl1 rf (RV.tmp rf) rf
  obtain⟨hb8,hd⟩:=bF hb8 hd
  refine Wp.skip<|At.Ad<|Wp.sr<|Aa.op (Ab.assign rf) rf<|Aa.Af<|Wp.ret ?_
  obtain rfl:=si hd
  exact At.q1 1 hl1 rf (RV.tmp rf) rf
 obtain⟨hg19_,hd⟩:=bF hg19 hd
 refine Wp.region<|Aa.op (Ab.AV (o':=0) A3 rf rf) rf<|Aa.op (Ab.Am (i:=0) (v:=(.int .i64 a0.kind)) u3 rf rf rf rf) rf<|Aa.op (Ab.Bg (b:=decide (a0.kind<3)) (c:=false) (Ab.lss rf rf) hg4) rf<|Aa.op (Ab.move rf) rf<|Aa.Ai rf rf rf rf<|Aa.Ai rf rf rf rf<|Aa.op (Ab.AA rf rf) rf ?_
 refine Aa.op (Ab.move rf) rf<|Aa.Ay rf rf (Ab.AV (o':=0) A3 rf rf) rf<|Aa.Ay rf rf (Ab.Am (i:=0) (v:=(.int .i64 a0.kind)) u3 rf rf rf rf) rf<|Aa.Ay rf rf (Ab.Bg (b:=decide (a0.kind=3)) (c:=false) (Ab.eql rf rf) hg13) rf<|Aa.Ay rf rf (Ab.move rf) rf<|Aa.Ay rf rf (Ab.AV (o':=0) A3 rf rf) rf<|Aa.Ay rf rf (Ab.Am (i:=0) (v:=(.int .i64 a0.kind)) u3 rf rf rf rf) rf<|Aa.Ay rf rf (Ab.Bg (b:=decide (a0.kind=4)) (c:=false) (Ab.eql rf rf) hg16) rf ?_
 refine Aa.Ay rf rf (Ab.AA rf rf) rf<|Aa.Ay rf rf (Ab.move rf) rf<|Aa.Ai rf rf rf rf<|Aa.Ai rf rf rf rf<|Aa.Ay rf rf (Ab.AA rf rf) rf<|Aa.op (Ab.AA rf rf) rf<|Aa.op (Ab.move rf) rf<|Aa.Ay rf rf (Ab.AV (o':=0) A3 rf rf) rf ?_
 refine Aa.Ay rf rf (Ab.Am (i:=0) (v:=(.int .i64 a0.kind)) u3 rf rf rf rf) rf<|Aa.Ay rf rf (Ab.Bg (b:=decide (a0.kind=5)) (c:=false) (Ab.eql rf rf) hg19) rf<|Aa.Ay rf rf (Ab.move rf) rf<|Aa.Ai rf rf rf rf<|Aa.Ai rf rf rf rf<|Aa.Ay rf rf (Ab.AA rf rf) rf<|Aa.op (Ab.AA rf rf) rf<|Aa.Af ?_
 refine Wp.C2 rf<|Wp.skip<|At.Ad<|Wp.sr<|Aa.op (Ab.assign rf) rf<|Aa.Af<|Wp.ret ?_
 obtain rfl:=si hd
 exact At.q1 1 hl1 rf (RV.tmp rf) rf
theorem P0{fu:Nat} :∀ {H:Hp} {O:List Bj} {a0:Rx} {a1:Int} {v1:Value} {r:Int} (hv1:AW Kc H a0.AL v1) (hd:EK fu a0 a1=some r),
    Ca Tryz.prog 65 [(.agg #[(.int .i64 a0.kind),(Ak (word a0.set 0)),(Ak (word a0.set 1)),(Ak (word a0.set 2)),(Ak (word a0.set 3)),v1]),(.int .i64 a1)] H O (.int .i64 r):=by
 induction fu with
 |zero=>intros;rename_i hd;exact absurd hd (by simp[EK])
 |succ fu ih=>
 intro H O a0 a1 v1 r hv1 hd
 replace hd:Ed fu (EK fu) a0 a1=some r:=hd
 generalize EK fu=slf at hd ih
 intro w hs
 refine Bz Tryz.func65 rf rf rf ?_ hs
 clear hs w
 unfold Ed at hd
 refine Wp.sr<|Aa.box (cs:= #[(.int .i64 a0.kind),(Ak (word a0.set 0)),(Ak (word a0.set 1)),(Ak (word a0.set 2)),(Ak (word a0.set 3)),v1]) rf rf rf fun B2=>Aa.op (Ab.assign rf) rf<|Aa.Af<|Wp.seq<|Wp.sr<|Aa.op (Ab.move rf) rf<|Aa.op (Ab.gtr rf rf) rf ?_
 refine Aa.Af ?_
 refine Wp.cond rf (fun hb1=>?_) (fun hb1=>?_)
 ·
  obtain⟨hb1,hd⟩:=bT hb1 hd
  refine Wp.sr<|Aa.op (Ab.assign rf) rf<|Aa.Af<|Wp.ret<|At.Av ?_
  obtain rfl:=si hd
  exact At.q1 1 (Hp.le.refl _) rf (RV.tmp rf) rf
 obtain⟨hb1,hd⟩:=bF hb1 hd
 refine Wp.skip<|At.Ad<|Wp.seq<|Wp.seq ?_
 obtain⟨x1,hx1,hd⟩:=Ae hd
 refine Wp.region<|Aa.op (Ab.AF (i:=0) JH rf Cj rf rf rf) rf<|Aa.op (Ab.call YX rf (Rg hv1 hx1)) rf<|Aa.op (Ab.assign rf) rf<|Aa.Af<|Wp.sr<|Aa.op (Ab.move rf) rf<|Aa.op (Ab.neq rf rf) rf ?_
 refine Aa.Af ?_
 refine Wp.cond rf (fun hb2=>?_) (fun hb2=>?_)
 ·
  obtain⟨hb2,hd⟩:=bT hb2 hd
  refine Wp.sr<|Aa.op (Ab.move rf) rf<|Aa.op (Ab.assign rf) rf<|Aa.Af<|Wp.ret<|At.Av ?_
  obtain rfl:=si hd
  exact At.q1 1 (Hp.le.refl _) rf (RV.tmp rf) rf
 obtain⟨hb2,hd⟩:=bF hb2 hd
 refine Wp.skip<|At.Ad<|Wp.seq<|Wp.sr<|Aa.op (Ab.assign rf) rf<|Aa.Af<|Wp.block<|Wp.A_ (fun m LL HH OO=> ∃(k1:Nat),[(1,(.int .i64 a1)),(2,(ptr B2 0)),(6,(.int .i64 (k1:Int)))]=LL∧ .AM B2 (.cells #[(.int .i64 a0.kind),(Ak (word a0.set 0)),(Ak (word a0.set 1)),(Ak (word a0.set 2)),(Ak (word a0.set 3)),v1] 37 (0,0))::O=OO∧Ax m (G8 fu a0 a1 slf) k1=some r) fu ⟨0,rf,rf,hd⟩ (Sub.of rf) ?_
 intro m1 L1 H1 O1 hl1 hI1
 obtain⟨k1,rfl,rfl,hd⟩:=hI1
 obtain⟨m2,nx1,rfl,hn1,hd⟩:=A9 hd
 replace hd:G8 fu a0 a1 slf k1 nx1=some r:=hd
 unfold G8 at hd
 refine Wp.seq<|Wp.sr<|Aa.op (Ab.move rf) rf<|Aa.op (Ab.AV (o':=5) Et rf rf) rf<|Aa.op (Ab.Am (i:=0) (v:=v1) HO rf rf rf rf) rf ?_
 have hb3:=hv1.le
 refine Aa.op (Ab.len HO rf (hv1.mono hl1).sl) rf<|Aa.op (Ab.lss rf rf) rf<|Aa.Af ?_
 refine Wp.cond rf (fun hb4=>?_) (fun hb4=>?_)
 ·
  obtain⟨hb4,hd⟩:=bT hb4 hd
  refine Wp.skip<|At.Ad<|Wp.seq<|Wp.block<|Wp.seq ?_
  obtain⟨x2,hx2,hd⟩:=Ae hd
  have hx2_:=Ah hx2
  obtain⟨ha1,hd⟩:=Al hd
  obtain⟨x3,hx3,hd⟩:=Ae hd
  refine Wp.region<|Aa.op (Ab.AV (o':=5) Et rf rf) rf<|Aa.op (Ab.Am (i:=0) (v:=v1) HO rf rf rf rf) rf<|Aa.op (Ab.move rf) rf ?_
  obtain⟨_,hz1,hc1⟩:=AW.get (hv1.mono hl1) hx2
  obtain⟨v2,rfl,hv2⟩:=HJ.1 hz1
  refine Aa.op (Ab.Bo HO Cj rf (hv1.mono hl1).sl rf (Ah hx2)) rf<|Aa.op (Ab.C9 (vs:=[(.int .i64 x2.kind),(Ak (word x2.set 0)),(Ak (word x2.set 1)),(Ak (word x2.set 2)),(Ak (word x2.set 3)),v2]) JH rf Cj rf rf (fun j u hj=>(hc1 j u hj))) rf<|Aa.op (Ab.move rf) rf<|Aa.op (Ab.add rf rf (Aq ha1)) rf<|Aa.op (Ab.call W6 rf (ih hv2 hx3)) rf<|Aa.op (Ab.assign rf) rf<|Aa.Af<|Wp.sr ?_
  refine Aa.op (Ab.move rf) rf<|Aa.op (Ab.neq rf rf) rf<|Aa.Af ?_
  refine Wp.cond rf (fun hb5=>?_) (fun hb5=>?_)
  ·
   obtain⟨hb5,hd⟩:=bT hb5 hd
   refine Wp.sr<|Aa.op (Ab.move rf) rf<|Aa.op (Ab.assign rf) rf<|Aa.Af<|Wp.ret<|At.Be<|At.Av<|At.Av ?_
   refine At.Be<|At.Av ?_
   obtain rfl:=si hd
   exact At.q1 1 hl1 rf (RV.tmp rf) rf
  obtain⟨hb5,hd⟩:=bF hb5 hd
  refine Wp.skip<|At.AE<|At.Ad<|Wp.region<|Aa.op (Ab.move rf) rf<|Aa.op (Ab.add rf rf (Aq (by omega))) rf<|Aa.op (Ab.assign rf) rf<|Aa.nil ?_
  refine At.AO (Hp.le.refl _) ⟨(k1+1),rf,rf,(by rw[←hn1];exact hd)⟩ (Sub.of rf)
 obtain⟨hb4,hd⟩:=bF hb4 hd
 refine Wp.exit<|At.An<|At.An<|At.Az<|At.Ad<|Wp.sr<|Aa.op (Ab.assign rf) rf<|Aa.Af ?_
 refine Wp.ret ?_
 obtain rfl:=si hd
 exact At.q1 1 hl1 rf (RV.tmp rf) rf
theorem P3{fu:Nat}{a0:Rx}{v1:Value}{r:Int}(hv1:AW Kc H a0.AL v1)(hd:Hc fu a0=some r):
  Ca Tryz.prog 40 [(.agg #[(.int .i64 a0.kind),(Ak (word a0.set 0)),(Ak (word a0.set 1)),(Ak (word a0.set 2)),(Ak (word a0.set 3)),v1])] H O (.int .i64 r):=by
 intro w hs
 refine Bz Tryz.func40 rf rf rf ?_ hs
 clear hs w
 unfold Hc at hd
 refine Wp.sr<|Aa.box (cs:= #[(.int .i64 a0.kind),(Ak (word a0.set 0)),(Ak (word a0.set 1)),(Ak (word a0.set 2)),(Ak (word a0.set 3)),v1]) rf rf rf fun B2=>Aa.op (Ab.assign rf) rf<|Aa.Af<|Wp.seq ?_
 obtain⟨x1,hx1,hd⟩:=Ae hd
 refine Wp.region<|Aa.op (Ab.AF (i:=0) JH rf Cj rf rf rf) rf<|Aa.op (Ab.call W6 rf (P0 hv1 hx1)) rf<|Aa.op (Ab.assign rf) rf<|Aa.Af<|Wp.ret ?_
 obtain rfl:=si hd
 exact At.q1 1 (Hp.le.refl _) rf (RV.tmp rf) rf
theorem HQ{fu:Nat}{a0:(List (Int×Int×AD×Bool))×Int}{a1:List Int}{v1 v2:Value}{r:List Int}(hv1:AW (cP Ao (cP Ao (cP IG cB))) H a0.1 v1)(hv2:AW Ao H a1 v2)(hd:EB fu a0 a1=some r):
    ED Tryz.prog 67 [(.agg #[v1,(.int .i64 a0.2)]),v2] H O (fun v H' O'=>(∃v3:Value,v3=v∧AW Ao H' r v3)∧O=O'):=by
 intro w hs
 refine Bz Tryz.func67 rf rf rf ?_ hs
 clear hs w
 unfold EB at hd
 refine Wp.sr<|Aa.box (cs:= #[v1,(.int .i64 a0.2)]) rf rf rf fun B2=>Aa.op (Ab.assign rf) rf<|Aa.Af<|Wp.seq ?_
 obtain⟨ha1,hd⟩:=Al hd
 obtain⟨ha2,hd⟩:=Al hd
 refine Wp.region<|Aa.op (Ab.AV (o':=1) J9 rf rf) rf<|Aa.op (Ab.Am (i:=0) (v:=(.int .i64 a0.2)) u3 rf rf rf rf) rf<|Aa.JL (c:=cB) (z:=false) (m:=(Int.toNat a0.2)) GX ES (Z9 rf (Int.toNat_of_nonneg ha1).symm) (Z9 rf (Int.toNat_of_nonneg ha1).symm) ha2 (rf) rf rf rf fun v4 xs1 hq1=>Aa.op (Ab.assign rf) rf<|Aa.Af<|Wp.seq<|Wp.sr ?_
 refine Aa.op (Ab.move rf) rf ?_
 have hb1:=hv2.le
 refine Aa.op (Ab.len BF rf hv2.sl) rf<|Aa.op (Ab.move rf) rf<|Aa.Af<|Wp.block<|Wp.A_ (fun m LL HH OO=> ∃(l1:List Bool),∃(k1:Nat),∃(v5:Value),∃(xs2:List Value),[(2,(ptr B2 0)),(5,v5),(16,v2),(17,(.int .i64 (a1.length:Int))),(18,(.int .i64 (k1:Int)))]=LL∧ .row v5 4 1 l1.length xs2:: .AM B2 (.cells #[v1,(.int .i64 a0.2)] 73 (0,0))::O=OO∧Ax m (fun p nx=>DS fu a0 a1 p.1 p.2 nx) (l1,k1)=some r∧Au cB HH l1 xs2) fu ⟨(List.replicate (Int.toNat a0.2) false:List Bool),0,v4,xs1,rf,rf,hd,hq1⟩ (Sub.of rf) ?_
 intro m1 L1 H1 O1 hl1 hI1
 obtain⟨l1,k1,v5,xs2,rfl,rfl,hd,hq2⟩:=hI1
 obtain⟨m2,nx1,rfl,hn1,hd⟩:=A9 hd
 replace hd:DS fu a0 a1 l1 k1 nx1=some r:=hd
 unfold DS at hd
 refine Wp.sr<|Aa.op (Ab.lss rf rf) rf<|Aa.Af<|Wp.seq ?_
 refine Wp.cond rf (fun hb2=>?_) (fun hb2=>?_)
 ·
  obtain⟨hb2,hd⟩:=bT hb2 hd
  refine Wp.skip<|At.Ad<|Wp.seq<|Wp.block<|Wp.seq ?_
  obtain⟨x1,hx1,hd⟩:=Ae hd
  have hx1_:=Ah hx1
  refine Wp.region ?_
  obtain⟨_,rfl,hc1⟩:=AW.get (hv2.mono hl1) hx1
  refine Aa.op (Ab.Bo BF Cp rf (hv2.mono hl1).sl rf (Ah hx1)) rf<|Aa.op (Ab.FJ u3 rf rf (hc1 0 _ rf)) rf<|Aa.op (Ab.assign rf) rf<|Aa.Af ?_
  obtain⟨x2,hx2,hd⟩:=Ae hd
  have hx2_:=Ah hx2
  refine Wp.region<|Aa.op (Ab.move rf) rf<|Aa.op (Ab.move rf) rf ?_
  obtain⟨_,rfl,hc2,hc2_⟩:=Au.get hq2 (AG hx2).2
  refine Aa.op (Ab.Bu (j:=0) GX ES rf rf rf (Ah hx2)) rf ?_
  refine Aa.Pw (q:=0) (off:=0) (vs:=[(.bool true)]) (y:=true) (cs:=[(.bool x2)]) hq2 hx2 hc2_ rf rf rf ES rf rf (Ac rf (As)) rf (rf) rf (fun xs3 hq3=>?_)
  refine Aa.nil<|At.AE<|At.Ad<|Wp.region<|Aa.op (Ab.add rf rf (Aq (by omega))) rf<|Aa.op (Ab.move rf) rf<|Aa.nil ?_
  refine At.AO (Hp.le.refl _) ⟨(l1.set x1.toNat true),(k1+1),v5,xs3,rf,rf,(by rw[←hn1];exact hd),hq3⟩ (Sub.of rf)
 obtain⟨hb2,hd⟩:=bF hb2 hd
 refine Wp.exit<|At.An<|At.An<|At.Az<|At.Ad<|Wp.seq<|Wp.sr<|Aa.op (Ab.assign rf) rf ?_
 refine Aa.Af<|Wp.block<|Wp.A_ (fun m LL HH OO=> ∃(l2:List Bool),∃(b1:Bool),∃(v6:Value),∃(xs4:List Value),[(2,(ptr B2 0)),(5,v6),(8,(.bool b1))]=LL∧ .row v6 4 1 l2.length xs4:: .AM B2 (.cells #[v1,(.int .i64 a0.2)] 73 (0,0))::O=OO∧Ax m (fun p nx=>EA fu a0 p.1 p.2 nx) (l2,b1)=some r∧Au cB HH l2 xs4) fu ⟨l1,true,v5,xs2,rf,rf,hd,hq2⟩ (Sub.of rf) ?_
 intro m3 L2 H2 O2 hl2 hI2
 obtain⟨l2,b1,v6,xs4,rfl,rfl,hd,hq4⟩:=hI2
 obtain⟨m4,nx2,rfl,hn2,hd⟩:=A9 hd
 replace hd:EA fu a0 l2 b1 nx2=some r:=hd
 unfold EA at hd
 refine Wp.seq<|Wp.sr<|Aa.op (Ab.move rf) rf<|Aa.Af ?_
 refine Wp.cond rf (fun hb3=>?_) (fun hb3=>?_)
 ·
  replace hd:=Fs hb3 hd
  refine Wp.skip<|At.Ad<|Wp.block<|Wp.sr<|Aa.op (Ab.assign rf) rf<|Aa.Af<|Wp.sr<|Aa.op (Ab.AV (o':=0) Gb rf rf) rf ?_
  refine Aa.op (Ab.Am (i:=1) (v:=v1) Lr rf rf rf rf) rf ?_
  have hb4:=hv1.le
  refine Aa.op (Ab.len Lr rf (hv1.mono (hl1.trans hl2)).sl) rf<|Aa.op (Ab.move rf) rf<|Aa.Af<|Wp.block<|Wp.A_ (fun m LL HH OO=> ∃(l3:List Bool),∃(b2:Bool),∃(k2:Nat),∃(v7:Value),∃(xs5:List Value),[(2,(ptr B2 0)),(5,v7),(8,(.bool b2)),(28,v1),(29,(.int .i64 (a0.1.length:Int))),(30,(.int .i64 (k2:Int)))]=LL∧ .row v7 4 1 l3.length xs5:: .AM B2 (.cells #[v1,(.int .i64 a0.2)] 73 (0,0))::O=OO∧Ax m (fun p nx=>DR fu a0 nx2 p.1 p.2.1 p.2.2 nx) (l3,b2,k2)=some r∧Au cB HH l3 xs5) fu ⟨l2,false,0,v6,xs4,rf,rf,hd,hq4⟩ (Sub.of rf) ?_
  intro m5 L3 H3 O3 hl3 hI3
  obtain⟨l3,b2,k2,v7,xs5,rfl,rfl,hd,hq5⟩:=hI3
  obtain⟨m6,nx3,rfl,hn3,hd⟩:=A9 hd
  replace hd:DR fu a0 nx2 l3 b2 k2 nx3=some r:=hd
  unfold DR at hd
  refine Wp.sr<|Aa.op (Ab.lss rf rf) rf<|Aa.Af<|Wp.seq ?_
  refine Wp.cond rf (fun hb5=>?_) (fun hb5=>?_)
  ·
   obtain⟨hb5,hd⟩:=bT hb5 hd
   refine Wp.skip<|At.Ad<|Wp.seq<|Wp.block<|Wp.seq ?_
   obtain⟨x3,hx3,hd⟩:=Ae hd
   have hx3_:=Ah hx3
   refine Wp.region ?_
   obtain⟨_,⟨_,_,rfl,rfl,⟨_,_,rfl,rfl,⟨_,_,rfl,rfl,rfl⟩⟩⟩,hc3⟩:=AW.get (hv1.mono ((hl1.trans hl2).trans hl3)) hx3
   refine Aa.op (Ab.Bo Lr Dy rf (hv1.mono ((hl1.trans hl2).trans hl3)).sl rf (Ah hx3)) rf<|Aa.op (Ab.C9 (vs:=[(.int .i64 x3.1),(.int .i64 x3.2.1),(Ak (word x3.2.2.1 0)),(Ak (word x3.2.2.1 1)),(Ak (word x3.2.2.1 2)),(Ak (word x3.2.2.1 3)),(.bool x3.2.2.2)]) VG rf Dy rf rf (fun j u hj=>(hc3 j u hj))) rf<|Aa.alloc (cs:= #[(.int .i64 0),(.int .i64 0),(Ak (word (fun _=>false) 0)),(Ak (word (fun _=>false) 1)),(Ak (word (fun _=>false) 2)),(Ak (word (fun _=>false) 3)),(.bool false)]) Dy (by simp only[zw];rfl) rf fun B3=>Aa.AP (i:=0) (cs':= #[(.int .i64 x3.1),(.int .i64 x3.2.1),(Ak (word x3.2.2.1 0)),(Ak (word x3.2.2.1 1)),(Ak (word x3.2.2.1 2)),(Ak (word x3.2.2.1 3)),(.bool x3.2.2.2)]) rf rf Dy rf rf (Bc (Ac rf (Ac rf (Ac rf (Ac rf (Ac rf (Ac rf (Ac rf (As))))))))) rf ?_
   refine Aa.own (O:=_::_::_::_) ?_ rf
   refine Aa.Af<|Wp.seq ?_
   rcases Bool.eq_false_or_eq_true (x3.2.2.2)with hg1|hg1
   ·
    replace hd:=Fs hg1 hd
    obtain⟨x4,hx4,hd⟩:=Ae hd
    have hx4_:=Ah hx4
    rcases Bool.eq_false_or_eq_true (x4)with hg2|hg2
    ·
     replace hd:=Fs hg2 hd
     obtain⟨x5,hx5,hd⟩:=Ae hd
     have hx5_:=Ah hx5
     refine Wp.region<|Aa.op (Ab.AV (o':=6) G_ rf rf) rf<|Aa.op (Ab.Bg (b:=x3.2.2.2) (c:=true) (Ab.Am (i:=0) (v:=(.bool x3.2.2.2)) u4 rf rf rf rf) hg1) rf<|Aa.op (Ab.move rf) rf<|Aa.Ay rf rf (Ab.move rf) rf<|Aa.Ay rf rf (Ab.AV (o':=0) Jy rf rf) rf<|Aa.Ay rf rf (Ab.Am (i:=0) (v:=(.int .i64 x3.1)) u3 rf rf rf rf) rf ?_
     obtain⟨_,rfl,hc4,hc4_⟩:=Au.get hq5 (AG hx4).2
     refine Aa.Ay rf rf (Ab.Bu (j:=1) GX ES rf rf rf (Ah hx4)) rf<|Aa.Ay rf rf (Ab.Bg (b:=x4) (c:=true) (Ab.Ch (i:=1) (k:=x3.1.toNat*1+0) u4 rf rf rf (hc4 0 _ rf)) hg2) rf<|Aa.op (Ab.AK rf rf) rf<|Aa.op (Ab.move rf) rf<|Aa.Ay rf rf (Ab.move rf) rf<|Aa.Ay rf rf (Ab.AV (o':=1) L_ rf rf) rf<|Aa.Ay rf rf (Ab.Am (i:=0) (v:=(.int .i64 x3.2.1)) u3 rf rf rf rf) rf ?_
     obtain⟨_,rfl,hc5,hc5_⟩:=Au.get hq5 (AG hx5).2
     refine Aa.Ay rf rf (Ab.Bu (j:=1) GX ES rf rf rf (Ah hx5)) rf<|Aa.Ay rf rf (Ab.Ch (i:=1) (k:=x3.2.1.toNat*1+0) u4 rf rf rf (hc5 0 _ rf)) rf<|Aa.Ay rf rf (Ab.not rf) rf<|Aa.op (Ab.AK rf rf) rf<|Aa.Af ?_
     refine Wp.cond rf (fun hb6=>?_) (fun hb6=>?_)
     ·
      replace hd:=Fs hb6 hd
      refine Wp.seq ?_
      obtain⟨x6,hx6,hd⟩:=Ae hd
      have hx6_:=Ah hx6
      refine Wp.region<|Aa.op (Ab.move rf) rf<|Aa.op (Ab.AV (o':=1) L_ rf rf) rf<|Aa.op (Ab.Am (i:=0) (v:=(.int .i64 x3.2.1)) u3 rf rf rf rf) rf ?_
      obtain⟨_,rfl,hc6,hc6_⟩:=Au.get hq5 (AG hx6).2
      refine Aa.op (Ab.Bu (j:=1) GX ES rf rf rf (Ah hx6)) rf ?_
      refine Aa.Pw (q:=1) (off:=0) (vs:=[(.bool true)]) (y:=true) (cs:=[(.bool x6)]) hq5 hx6 hc6_ rf rf rf ES rf rf (Ac rf (As)) rf (rf) rf (fun xs6 hq6=>?_)
      refine Aa.Af<|Wp.region<|Aa.op (Ab.assign rf) rf<|Aa.nil<|At.AE<|At.Ad<|Wp.region<|Aa.op (Ab.add rf rf (Aq (by omega))) rf ?_
      refine Aa.op (Ab.move rf) rf<|Aa.nil<|At.AR [1,2] 3 rf rf rf ?_
      refine At.AO (Hp.le.refl _) ⟨(l3.set x3.2.1.toNat true),true,(k2+1),v7,xs6,rf,rf,(by rw[←hn3];exact hd),hq6⟩ (Sub.of rf)
     replace hd:=Ft hb6 hd
     refine Wp.skip<|At.AE<|At.Ad<|Wp.region<|Aa.op (Ab.add rf rf (Aq (by omega))) rf<|Aa.op (Ab.move rf) rf<|Aa.nil<|At.AR [1,2] 3 rf rf rf ?_
     refine At.AO (Hp.le.refl _) ⟨l3,b2,(k2+1),v7,xs5,rf,rf,(by rw[←hn3];exact hd),hq5⟩ (Sub.of rf)
    replace hd:=Ft hg2 hd
    refine Wp.region<|Aa.op (Ab.AV (o':=6) G_ rf rf) rf<|Aa.op (Ab.Bg (b:=x3.2.2.2) (c:=true) (Ab.Am (i:=0) (v:=(.bool x3.2.2.2)) u4 rf rf rf rf) hg1) rf<|Aa.op (Ab.move rf) rf<|Aa.Ay rf rf (Ab.move rf) rf<|Aa.Ay rf rf (Ab.AV (o':=0) Jy rf rf) rf<|Aa.Ay rf rf (Ab.Am (i:=0) (v:=(.int .i64 x3.1)) u3 rf rf rf rf) rf ?_
    obtain⟨_,rfl,hc4,hc4_⟩:=Au.get hq5 (AG hx4).2
    refine Aa.Ay rf rf (Ab.Bu (j:=1) GX ES rf rf rf (Ah hx4)) rf<|Aa.Ay rf rf (Ab.Bg (b:=x4) (c:=false) (Ab.Ch (i:=1) (k:=x3.1.toNat*1+0) u4 rf rf rf (hc4 0 _ rf)) hg2) rf<|Aa.op (Ab.AK rf rf) rf<|Aa.op (Ab.move rf) rf<|Aa.Ai rf rf rf rf<|Aa.Ai rf rf rf rf<|Aa.Ai rf rf rf rf<|Aa.Ai rf rf rf rf ?_
    refine Aa.Ai rf rf rf rf<|Aa.Ai rf rf rf rf<|Aa.op (Ab.AA rf rf) rf<|Aa.Af<|Wp.C2 rf<|Wp.skip<|At.AE<|At.Ad ?_
    refine Wp.region<|Aa.op (Ab.add rf rf (Aq (by omega))) rf<|Aa.op (Ab.move rf) rf<|Aa.nil<|At.AR [1,2] 3 rf rf rf ?_
    refine At.AO (Hp.le.refl _) ⟨l3,b2,(k2+1),v7,xs5,rf,rf,(by rw[←hn3];exact hd),hq5⟩ (Sub.of rf)
   replace hd:=Ft hg1 hd
   refine Wp.region<|Aa.op (Ab.AV (o':=6) G_ rf rf) rf<|Aa.op (Ab.Bg (b:=x3.2.2.2) (c:=false) (Ab.Am (i:=0) (v:=(.bool x3.2.2.2)) u4 rf rf rf rf) hg1) rf<|Aa.op (Ab.move rf) rf<|Aa.Ai rf rf rf rf<|Aa.Ai rf rf rf rf<|Aa.Ai rf rf rf rf<|Aa.Ai rf rf rf rf ?_
   refine Aa.Ai rf rf rf rf<|Aa.op (Ab.AA rf rf) rf<|Aa.op (Ab.move rf) rf<|Aa.Ai rf rf rf rf<|Aa.Ai rf rf rf rf<|Aa.Ai rf rf rf rf<|Aa.Ai rf rf rf rf<|Aa.Ai rf rf rf rf ?_
   refine Aa.Ai rf rf rf rf<|Aa.op (Ab.AA rf rf) rf<|Aa.Af<|Wp.C2 rf<|Wp.skip<|At.AE<|At.Ad<|Wp.region ?_
   refine Aa.op (Ab.add rf rf (Aq (by omega))) rf<|Aa.op (Ab.move rf) rf<|Aa.nil<|At.AR [1,2] 3 rf rf rf ?_
   refine At.AO (Hp.le.refl _) ⟨l3,b2,(k2+1),v7,xs5,rf,rf,(by rw[←hn3];exact hd),hq5⟩ (Sub.of rf)
  obtain⟨hb5,hd⟩:=bF hb5 hd
  refine Wp.exit<|At.An<|At.An<|At.Az<|At.AE ?_
  refine At.AO hl3 ⟨l3,b2,v7,xs5,rf,rf,(by rw[←hn2];exact hd),hq5⟩ (Sub.of rf)
 replace hd:=Ft hb3 hd
 refine Wp.exit<|At.An<|At.An<|At.Az<|At.Ad<|Wp.sr<|Aa.op (Ab.assign rf) rf<|Aa.Af ?_
 refine Wp.seq<|Wp.sr<|Aa.op (Ab.move rf) rf ?_
 refine Aa.A7 (i:=0) rf fun hb7=>?_
 refine Aa.op (Ab.BR (i:=0) GX rf rf) rf<|Aa.op (Ab.move rf) rf<|Aa.Af<|Wp.block<|Wp.BG 3 1<|Wp.A_ (fun m LL HH OO=> ∃(l4:List Int),∃(k3:Nat),∃(v8:Value),∃(xs7:List Value),[(5,v6),(11,v8),(57,(.int .i64 (l2.length:Int))),(58,(.int .i64 (k3:Int)))]=LL∧ .row v8 3 1 l4.length xs7:: .row v6 4 1 l2.length xs4:: .AM B2 (.cells #[v1,(.int .i64 a0.2)] 73 (0,0))::O=OO∧Ax m (fun p nx=>DQ fu l2 p.1 p.2 nx) (l4,k3)=some r∧Au Ao HH l4 xs7) fu ⟨([]:List Int),0,(.slice none 0 0),[],rf,rf,hd,(Au.nil (c:=Ao) (H:=H2))⟩ (Sub.of rf) ?_
 intro m7 L4 H4 O4 hl4 hI4
 obtain⟨l4,k3,v8,xs7,rfl,rfl,hd,hq7⟩:=hI4
 obtain⟨m8,nx4,rfl,hn4,hd⟩:=A9 hd
 replace hd:DQ fu l2 l4 k3 nx4=some r:=hd
 unfold DQ at hd
 refine Wp.sr<|Aa.op (Ab.lss rf rf) rf<|Aa.Af<|Wp.seq ?_
 refine Wp.cond rf (fun hb8=>?_) (fun hb8=>?_)
 ·
  obtain⟨hb8,hd⟩:=bT hb8 hd
  refine Wp.skip<|At.Ad<|Wp.seq<|Wp.block<|Wp.sr<|Aa.op (Ab.move rf) rf<|Aa.op (Ab.assign rf) rf<|Aa.Af ?_
  refine Wp.seq ?_
  obtain⟨x7,hx7,hd⟩:=Ae hd
  have hx7_:=Ah hx7
  refine Wp.region<|Aa.op (Ab.move rf) rf<|Aa.op (Ab.move rf) rf ?_
  obtain⟨_,rfl,hc7,hc7_⟩:=Au.get (hq4.mono hl4) (AG hx7).2
  refine Aa.op (Ab.Bu (j:=1) GX ES rf rf rf (Ah hx7)) rf<|Aa.op (Ab.Ch (i:=1) (k:=k3*1+0) u4 rf rf rf (hc7 0 _ rf)) rf<|Aa.Af ?_
  refine Wp.cond rf (fun hb9=>?_) (fun hb9=>?_)
  ·
   replace hd:=Fs hb9 hd
   obtain⟨ha3,hd⟩:=Al hd
   refine Wp.region<|Aa.op (Ab.move rf) rf<|Aa.op (Ab.move rf) rf<|Aa.A1 (c:=Ao) (y:=(k3:Int)) (cs:=[(.int .i64 (k3:Int))]) BF Cp rf rf rf rf (rf) rf fun v9 xs8 hq8=>Aa.Df (i:=1) (j:=0) hq7 hq8 BF Cp rf (by decide) rf rf rf rf (by decide) ha3 rf fun v10 xs9 hq9=>Aa.drop (i:=0)<|Aa.op (Ab.assign rf) rf<|Aa.nil ?_
   refine At.AE<|At.Ad<|Wp.region<|Aa.op (Ab.add rf rf (Aq (by omega))) rf<|Aa.op (Ab.move rf) rf<|Aa.nil ?_
   refine At.AO (Hp.le.refl _) ⟨(l4++([(k3:Int)]:List Int)),(k3+1),v10,xs9,rf,rf,(by rw[←hn4];exact hd),hq9⟩ (Sub.of rf)
  replace hd:=Ft hb9 hd
  refine Wp.skip<|At.AE<|At.Ad<|Wp.region<|Aa.op (Ab.add rf rf (Aq (by omega))) rf<|Aa.op (Ab.move rf) rf<|Aa.nil ?_
  refine At.AO (Hp.le.refl _) ⟨l4,(k3+1),v8,xs7,rf,rf,(by rw[←hn4];exact hd),hq7⟩ (Sub.of rf)
 obtain⟨hb8,hd⟩:=bF hb8 hd
 refine Wp.exit<|At.An<|At.An<|At.Az<|At.Ad<|Wp.sr<|Aa.op (Ab.move rf) rf<|Aa.op (Ab.assign rf) rf ?_
 refine Aa.Af<|Wp.ret ?_
 refine At.A7 (i:=0) rf fun hb10=>?_
 refine At.freeze (i:=0) rf fun H5 hl5 hs1=>?_
 have hv3:=AW.of (c:=Ao) hs1 rfl (hq7.mono hl5) hb10
 obtain rfl:=si hd
 exact At.DB rf (RV.tmp (v:=v8) rf) (fun w hs=>⟨_,_,_,rf,(((hl1.trans hl2).trans hl4).trans hl5),(hs.Cg 2),⟨⟨v8,rf,hv3⟩,rf⟩⟩)
theorem Ii{fu:Nat}{a0:List Int}{a1:Int}{v1:Value}{r:Bool}(hv1:AW Ao H a0 v1)(hd:II fu a0 a1=some r):
    Ca Tryz.prog 68 [v1,(.int .i64 a1)] H O (.bool r):=by
 intro w hs
 refine Bz Tryz.func68 rf rf rf ?_ hs
 clear hs w
 unfold II at hd
 refine Wp.sr<|Aa.op (Ab.assign rf) rf<|Aa.Af<|Wp.seq<|Wp.sr<|Aa.op (Ab.move rf) rf ?_
 have hb1:=hv1.le
 refine Aa.op (Ab.len BF rf hv1.sl) rf<|Aa.op (Ab.move rf) rf<|Aa.Af<|Wp.block<|Wp.A_ (fun m LL HH OO=> ∃(k1:Nat),[(1,(.int .i64 a1)),(7,v1),(8,(.int .i64 (a0.length:Int))),(9,(.int .i64 (k1:Int)))]=LL∧O=OO∧Ax m (FY fu a0 a1) k1=some r) fu ⟨0,rf,rf,hd⟩ (Sub.of rf) ?_
 intro m1 L1 H1 O1 hl1 hI1
 obtain⟨k1,rfl,rfl,hd⟩:=hI1
 obtain⟨m2,nx1,rfl,hn1,hd⟩:=A9 hd
 replace hd:FY fu a0 a1 k1 nx1=some r:=hd
 unfold FY at hd
 refine Wp.sr<|Aa.op (Ab.lss rf rf) rf<|Aa.Af<|Wp.seq ?_
 refine Wp.cond rf (fun hb2=>?_) (fun hb2=>?_)
 ·
  obtain⟨hb2,hd⟩:=bT hb2 hd
  refine Wp.skip<|At.Ad<|Wp.seq<|Wp.block<|Wp.seq ?_
  obtain⟨x1,hx1,hd⟩:=Ae hd
  have hx1_:=Ah hx1
  refine Wp.region ?_
  obtain⟨_,rfl,hc1⟩:=AW.get (hv1.mono hl1) hx1
  refine Aa.op (Ab.Bo BF Cp rf (hv1.mono hl1).sl rf (Ah hx1)) rf<|Aa.op (Ab.FJ u3 rf rf (hc1 0 _ rf)) rf<|Aa.op (Ab.assign rf) rf<|Aa.Af<|Wp.sr<|Aa.op (Ab.move rf) rf<|Aa.op (Ab.move rf) rf<|Aa.op (Ab.eql rf rf) rf ?_
  refine Aa.Af ?_
  refine Wp.cond rf (fun hb3=>?_) (fun hb3=>?_)
  ·
   obtain⟨hb3,hd⟩:=bT hb3 hd
   refine Wp.sr<|Aa.op (Ab.assign rf) rf<|Aa.Af<|Wp.ret<|At.Be<|At.Av<|At.Av<|At.Be ?_
   refine At.Av ?_
   obtain rfl:=si hd
   exact At.q1 0 hl1 rf (RV.tmp rf) rf
  obtain⟨hb3,hd⟩:=bF hb3 hd
  refine Wp.skip<|At.AE<|At.Ad<|Wp.region<|Aa.op (Ab.add rf rf (Aq (by omega))) rf<|Aa.op (Ab.move rf) rf<|Aa.nil ?_
  refine At.AO (Hp.le.refl _) ⟨(k1+1),rf,rf,(by rw[←hn1];exact hd)⟩ (Sub.of rf)
 obtain⟨hb2,hd⟩:=bF hb2 hd
 refine Wp.exit<|At.An<|At.An<|At.Az<|At.Ad<|Wp.sr<|Aa.op (Ab.assign rf) rf<|Aa.Af ?_
 refine Wp.ret ?_
 obtain rfl:=si hd
 exact At.q1 0 hl1 rf (RV.tmp rf) rf
theorem JJ{fu:Nat}{a0:(List (Int×Int×AD×Bool))×Int}{v1:Value}{r:List Int}(hv1:AW (cP Ao (cP Ao (cP IG cB))) H a0.1 v1)(hd:Fe fu a0=some r):
    ED Tryz.prog 66 [(.agg #[v1,(.int .i64 a0.2)])] H O (fun v H' O'=>(∃v2:Value,v2=v∧AW Ao H' r v2)∧O=O'):=by
 intro w hs
 refine Bz Tryz.func66 rf rf rf ?_ hs
 clear hs w
 unfold Fe at hd
 refine Wp.sr<|Aa.box (cs:= #[v1,(.int .i64 a0.2)]) rf rf rf fun B2=>Aa.op (Ab.assign rf) rf<|Aa.Af<|Wp.sr<|Aa.A1 (c:=Ao) (y:=0) (cs:=[(.int .i64 0)]) BF Cp rf rf rf rf (rf) rf fun v3 xs1 hq1=>Aa.op (Ab.assign rf) rf<|Aa.Af ?_
 refine Wp.seq<|Wp.sr<|Aa.op (Ab.assign rf) rf<|Aa.Af<|Wp.block<|Wp.A_ (fun m LL HH OO=> ∃(l1:List Int),∃(k1:Nat),∃(v4:Value),∃(xs2:List Value),[(1,(ptr B2 0)),(3,v4),(4,(.int .i64 (k1:Int)))]=LL∧ .row v4 3 1 l1.length xs2:: .AM B2 (.cells #[v1,(.int .i64 a0.2)] 73 (0,0))::O=OO∧Ax m (fun p nx=>DV fu a0 p.1 p.2 nx) (l1,k1)=some r∧Au Ao HH l1 xs2) fu ⟨([0]:List Int),1,v3,xs1,rf,rf,hd,hq1⟩ (Sub.of rf) ?_
 intro m1 L1 H1 O1 hl1 hI1
 obtain⟨l1,k1,v4,xs2,rfl,rfl,hd,hq2⟩:=hI1
 obtain⟨m2,nx1,rfl,hn1,hd⟩:=A9 hd
 replace hd:DV fu a0 l1 k1 nx1=some r:=hd
 unfold DV at hd
 refine Wp.seq<|Wp.sr<|Aa.op (Ab.move rf) rf<|Aa.op (Ab.lss rf rf) rf<|Aa.Af ?_
 refine Wp.cond rf (fun hb1=>?_) (fun hb1=>?_)
 ·
  obtain⟨hb1,hd⟩:=bT hb1 hd
  refine Wp.skip<|At.Ad<|Wp.seq<|Wp.block<|Wp.sr<|Aa.op (Ab.assign rf) rf<|Aa.Af<|Wp.seq ?_
  refine Wp.sr<|Aa.op (Ab.AV (o':=0) Gb rf rf) rf<|Aa.op (Ab.Am (i:=1) (v:=v1) Lr rf rf rf rf) rf ?_
  have hb2:=hv1.le
  refine Aa.op (Ab.len Lr rf (hv1.mono hl1).sl) rf<|Aa.op (Ab.move rf) rf<|Aa.Af<|Wp.block<|Wp.A_ (fun m LL HH OO=> ∃(b1:Bool),∃(k2:Nat),[(1,(ptr B2 0)),(3,v4),(4,(.int .i64 (k1:Int))),(5,(.bool b1)),(14,v1),(15,(.int .i64 (a0.1.length:Int))),(16,(.int .i64 (k2:Int)))]=LL∧ .row v4 3 1 l1.length xs2:: .AM B2 (.cells #[v1,(.int .i64 a0.2)] 73 (0,0))::O=OO∧Ax m (fun p nx=>DU fu a0 l1 k1 nx1 p.1 p.2 nx) (b1,k2)=some r) fu ⟨false,0,rf,rf,hd⟩ (Sub.of rf) ?_
  intro m3 L2 H2 O2 hl2 hI2
  obtain⟨b1,k2,rfl,rfl,hd⟩:=hI2
  obtain⟨m4,nx2,rfl,hn2,hd⟩:=A9 hd
  replace hd:DU fu a0 l1 k1 nx1 b1 k2 nx2=some r:=hd
  unfold DU at hd
  refine Wp.sr<|Aa.op (Ab.lss rf rf) rf<|Aa.Af<|Wp.seq ?_
  refine Wp.cond rf (fun hb3=>?_) (fun hb3=>?_)
  ·
   obtain⟨hb3,hd⟩:=bT hb3 hd
   refine Wp.skip<|At.Ad<|Wp.seq<|Wp.block<|Wp.seq ?_
   obtain⟨x1,hx1,hd⟩:=Ae hd
   have hx1_:=Ah hx1
   refine Wp.region ?_
   obtain⟨_,⟨_,_,rfl,rfl,⟨_,_,rfl,rfl,⟨_,_,rfl,rfl,rfl⟩⟩⟩,hc1⟩:=AW.get (hv1.mono (hl1.trans hl2)) hx1
   refine Aa.op (Ab.Bo Lr Dy rf (hv1.mono (hl1.trans hl2)).sl rf (Ah hx1)) rf<|Aa.op (Ab.C9 (vs:=[(.int .i64 x1.1),(.int .i64 x1.2.1),(Ak (word x1.2.2.1 0)),(Ak (word x1.2.2.1 1)),(Ak (word x1.2.2.1 2)),(Ak (word x1.2.2.1 3)),(.bool x1.2.2.2)]) VG rf Dy rf rf (fun j u hj=>(hc1 j u hj))) rf<|Aa.alloc (cs:= #[(.int .i64 0),(.int .i64 0),(Ak (word (fun _=>false) 0)),(Ak (word (fun _=>false) 1)),(Ak (word (fun _=>false) 2)),(Ak (word (fun _=>false) 3)),(.bool false)]) Dy (by simp only[zw];rfl) rf fun B3=>Aa.AP (i:=0) (cs':= #[(.int .i64 x1.1),(.int .i64 x1.2.1),(Ak (word x1.2.2.1 0)),(Ak (word x1.2.2.1 1)),(Ak (word x1.2.2.1 2)),(Ak (word x1.2.2.1 3)),(.bool x1.2.2.2)]) rf rf Dy rf rf (Bc (Ac rf (Ac rf (Ac rf (Ac rf (Ac rf (Ac rf (Ac rf (As))))))))) rf ?_
   refine Aa.own (O:=_::_::_::_) ?_ rf
   refine Aa.Af ?_
   rcases Bool.eq_false_or_eq_true (b1)with hg1|hg1
   ·
    replace hd:=Fs hg1 hd
    refine Wp.CV 16 follows rf (by kernel_rfl)<|Ag.A6 (Ab.Bg (b:=b1) (c:=true) (Ab.move rf) hg1) rf<|Ag.A6 (Ab.move rf) rf<|Ag.Aw rf rf rf rf<|Ag.Aw rf rf rf rf<|Ag.Aw rf rf rf rf<|Ag.Aw rf rf rf rf<|Ag.Aw rf rf rf rf ?_
    refine Ag.Aw rf rf rf rf<|Ag.Aw rf rf rf rf<|Ag.Aw rf rf rf rf<|Ag.Aw rf rf rf rf<|Ag.Aw rf rf rf rf<|Ag.Aw rf rf rf rf<|Ag.Aw rf rf rf rf<|Ag.A6 (Ab.AK rf rf) rf ?_
    refine Ag.A6 (Ab.assign rf) rf<|Ag.CW<|Ap.is (t:=1) rf<|Ap.is (t:=3) rf<|Ap.is (t:=4) rf<|Ap.is (t:=5) rf<|Ap.is (t:=14) rf<|Ap.is (t:=15) rf ?_
    refine Ap.is (t:=16) rf<|Ap.JB<|Aa.nil<|At.AE<|At.Ad<|Wp.region<|Aa.op (Ab.add rf rf (Aq (by omega))) rf<|Aa.op (Ab.move rf) rf ?_
    refine Aa.nil<|At.AR [1,2] 3 rf rf rf ?_
    refine At.AO (Hp.le.refl _) ⟨true,(k2+1),rf,rf,(by rw[←hn2];exact hd)⟩ (Sub.of rf)
   replace hd:=Ft hg1 hd
   obtain⟨ha1,hd⟩:=Al hd
   have:=ha1
   obtain⟨ha2,hd⟩:=Al hd
   obtain⟨ha3,hd⟩:=Al hd
   have:=ha3
   refine Wp.CV 16 follows rf (by kernel_rfl)<|Ag.A6 (Ab.Bg (b:=b1) (c:=false) (Ab.move rf) hg1) rf<|Ag.A6 (Ab.move rf) rf<|Ag.AY rf rf (Ab.AV (o':=2) L9 rf rf) rf<|Ag.AY rf rf (Ab.GS (i:=0) (vs:=[(Ak (word x1.2.2.1 0)),(Ak (word x1.2.2.1 1)),(Ak (word x1.2.2.1 2)),(Ak (word x1.2.2.1 3))]) LS rf BJ rf rf rf) rf<|Ag.AY rf rf (Ab.move rf) rf<|Ag.AY rf rf (Ab.conv u3 u5 rf (Cm ha1)) rf<|Ag.AY rf rf (Ab.call Sm rf (@OE _ _ x1.2.2.1 (k1:Int) (by omega) (by omega))) rf ?_
   refine Ag.AY rf rf (Ab.AV (o':=2) L9 rf rf) rf<|Ag.AY rf rf (Ab.GS (i:=0) (vs:=[(Ak (word x1.2.2.1 0)),(Ak (word x1.2.2.1 1)),(Ak (word x1.2.2.1 2)),(Ak (word x1.2.2.1 3))]) LS rf BJ rf rf rf) rf<|Ag.AY rf rf (Ab.move rf) rf<|Ag.AY rf rf (Ab.sub rf rf (Aq ha2)) rf<|Ag.AY rf rf (Ab.conv u3 u5 rf (Cm ha3)) rf<|Ag.AY rf rf (Ab.call Sm rf (@OE _ _ x1.2.2.1 ((k1:Int)-1) (by omega) (by omega))) rf<|Ag.AY rf rf (Ab.ZV u4 rf rf) rf<|Ag.A6 (Ab.AA rf rf) rf ?_
   refine Ag.A6 (Ab.assign rf) rf<|Ag.CW<|Ap.is (t:=1) rf<|Ap.is (t:=3) rf<|Ap.is (t:=4) rf<|Ap.is (t:=5) rf<|Ap.is (t:=14) rf<|Ap.is (t:=15) rf ?_
   refine Ap.is (t:=16) rf<|Ap.JB<|Aa.nil<|At.AE<|At.Ad<|Wp.region<|Aa.op (Ab.add rf rf (Aq (by omega))) rf<|Aa.op (Ab.move rf) rf ?_
   refine Aa.nil<|At.AR [1,2] 3 rf rf rf ?_
   refine At.AO (Hp.le.refl _) ⟨(!((x1.2.2.1 ((k1:Int)).toNat)==(x1.2.2.1 (((k1:Int)-1)).toNat))),(k2+1),rf,rf,(by rw[←hn2];exact hd)⟩ (Sub.of rf)
  obtain⟨hb3,hd⟩:=bF hb3 hd
  refine Wp.exit<|At.An<|At.An<|At.Az<|At.Ad<|Wp.sr<|Aa.op (Ab.move rf) rf<|Aa.Af ?_
  refine Wp.cond rf (fun hb4=>?_) (fun hb4=>?_)
  ·
   replace hd:=Fs hb4 hd
   obtain⟨ha4,hd⟩:=Al hd
   refine Wp.region<|Aa.op (Ab.move rf) rf<|Aa.op (Ab.move rf) rf<|Aa.A1 (c:=Ao) (y:=(k1:Int)) (cs:=[(.int .i64 (k1:Int))]) BF Cp rf rf rf rf (rf) rf fun v5 xs3 hq3=>Aa.Df (i:=1) (j:=0) (hq2.mono hl2) hq3 BF Cp rf (by decide) rf rf rf rf (by decide) ha4 rf fun v6 xs4 hq4=>Aa.drop (i:=0)<|Aa.op (Ab.assign rf) rf<|Aa.nil ?_
   refine At.AE<|At.Ad<|Wp.region<|Aa.op (Ab.move rf) rf<|Aa.op (Ab.add rf rf (Aq (by omega))) rf<|Aa.op (Ab.assign rf) rf<|Aa.nil ?_
   refine At.AO hl2 ⟨(l1++([(k1:Int)]:List Int)),(k1+1),v6,xs4,rf,rf,(by rw[←hn1];exact hd),hq4⟩ (Sub.of rf)
  replace hd:=Ft hb4 hd
  refine Wp.skip<|At.AE<|At.Ad<|Wp.region<|Aa.op (Ab.move rf) rf<|Aa.op (Ab.add rf rf (Aq (by omega))) rf<|Aa.op (Ab.assign rf) rf<|Aa.nil ?_
  refine At.AO hl2 ⟨l1,(k1+1),v4,xs2,rf,rf,(by rw[←hn1];exact hd),(hq2.mono hl2)⟩ (Sub.of rf)
 obtain⟨hb1,hd⟩:=bF hb1 hd
 refine Wp.exit<|At.An<|At.An<|At.Az<|At.Ad<|Wp.sr<|Aa.op (Ab.move rf) rf<|Aa.op (Ab.assign rf) rf ?_
 refine Aa.Af<|Wp.ret ?_
 refine At.A7 (i:=0) rf fun hb5=>?_
 refine At.freeze (i:=0) rf fun H3 hl3 hs1=>?_
 have hv2:=AW.of (c:=Ao) hs1 rfl (hq2.mono hl3) hb5
 obtain rfl:=si hd
 exact At.DB rf (RV.tmp (v:=v4) rf) (fun w hs=>⟨_,_,_,rf,(hl1.trans hl3),(hs.Cg 1),⟨⟨v4,rf,hv2⟩,rf⟩⟩)
theorem Re{fu:Nat} :∀ {H:Hp} {O:List Bj} {a0:(List (Int×Int×AD×Bool))×Int} {a1:Rx} {a2:Int} {a3:Int} {v1 v2:Value} {xs1:List Value} {r:(List (Int×Int×AD×Bool))×Int} (hq1:Au (cP Ao (cP Ao (cP IG cB))) H a0.1 xs1) (hv1:AW Kc H a1.AL v2) (hd:EW fu a0 a1 a2 a3=some r),
    ED Tryz.prog 41 [(.agg #[v1,(.int .i64 a0.2)]),(.agg #[(.int .i64 a1.kind),(Ak (word a1.set 0)),(Ak (word a1.set 1)),(Ak (word a1.set 2)),(Ak (word a1.set 3)),v2]),(.int .i64 a2),(.int .i64 a3)] H (.row v1 117 7 a0.1.length xs1::O) (fun v H' O'=> ∃(v1:Value) (xs2:List Value), .agg #[v1,(.int .i64 r.2)]=v∧Au (cP Ao (cP Ao (cP IG cB))) H' r.1 xs2∧ .row v1 117 7 r.1.length xs2::O=O'):=by
 induction fu with
 |zero=>intros;rename_i hd;exact absurd hd (by simp[EW])
 |succ fu ih=>
 intro H O a0 a1 a2 a3 v1 v2 xs1 r hq1 hv1 hd
 replace hd:Gw fu (EW fu) a0 a1 a2 a3=some r:=hd
 generalize EW fu=slf at hd ih
 intro w hs
 refine Bz Tryz.func41 rf rf rf ?_ hs
 clear hs w
 unfold Gw at hd
 refine Wp.sr<|Aa.box (cs:= #[v1,(.int .i64 a0.2)]) rf rf rf fun B2=>Aa.box (cs:= #[(.int .i64 a1.kind),(Ak (word a1.set 0)),(Ak (word a1.set 1)),(Ak (word a1.set 2)),(Ak (word a1.set 3)),v2]) rf rf rf fun B3=>Aa.alloc (cs:= #[(.slice none 0 0),(.int .i64 0)]) Ez rf rf fun B4=>Aa.Af<|Wp.seq<|Wp.sr<|Aa.op (Ab.AV (o':=0) A3 rf rf) rf ?_
 refine Aa.op (Ab.Am (i:=1) (v:=(.int .i64 a1.kind)) u3 rf rf rf rf) rf<|Aa.Af<|Wp.block<|Wp.sr<|Aa.op (Ab.eql rf rf) rf<|Aa.op (Ab.assign rf) rf<|Aa.Af ?_
 refine Wp.cond rf (fun hb1=>?_) (fun hb1=>?_)
 ·
  obtain⟨hb1,hd⟩:=bT hb1 hd
  obtain⟨ha1,hd⟩:=Al hd
  refine Wp.region<|Aa.op (Ab.AV (o':=0) Gb rf rf) rf<|Aa.op (Ab.Am (i:=2) (v:=v1) Lr rf rf rf rf) rf<|Aa.op (Ab.move rf) rf<|Aa.op (Ab.move rf) rf<|Aa.op (Ab.Bi (vs:=[(0,(.int .i64 a2)),(1,(.int .i64 a3)),(3,(.bool true))]) (cs:= #[(.int .i64 a2),(.int .i64 a3),(Ak (word (fun _=>false) 0)),(Ak (word (fun _=>false) 1)),(Ak (word (fun _=>false) 2)),(Ak (word (fun _=>false) 3)),(.bool true)]) OK Dy rf rf (AJ rf (AJ rf (AJ rf (Bd)))) (by simp only[zw];rfl)) rf<|Aa.A1 (c:=(cP Ao (cP Ao (cP IG cB)))) (y:=(a2,a3,(fun _=>false),true)) (cs:=[(.int .i64 a2),(.int .i64 a3),(Ak (word (fun _=>false) 0)),(Ak (word (fun _=>false) 1)),(Ak (word (fun _=>false) 2)),(Ak (word (fun _=>false) 3)),(.bool true)]) Lr Dy rf rf rf rf (⟨[(.int .i64 a2)],[(.int .i64 a3),(Ak (word (fun _=>false) 0)),(Ak (word (fun _=>false) 1)),(Ak (word (fun _=>false) 2)),(Ak (word (fun _=>false) 3)),(.bool true)],rf,rf,⟨[(.int .i64 a3)],[(Ak (word (fun _=>false) 0)),(Ak (word (fun _=>false) 1)),(Ak (word (fun _=>false) 2)),(Ak (word (fun _=>false) 3)),(.bool true)],rf,rf,⟨[(Ak (word (fun _=>false) 0)),(Ak (word (fun _=>false) 1)),(Ak (word (fun _=>false) 2)),(Ak (word (fun _=>false) 3))],[(.bool true)],rf,rf,rf⟩⟩⟩) rf fun v3 xs3 hq2=>Aa.Df (i:=4) (j:=0) hq1 hq2 Lr Dy rf (by decide) rf rf rf rf (by decide) ha1 rf fun v4 xs4 hq3=>?_
  refine Aa.drop (i:=0)<|Aa.op (Ab.AV (o':=0) Gb rf rf) rf<|Aa.Bm (i:=3) rf fun ho1=>Aa.Cc (i:=2) rf rf ho1 VN rf (Nat.le_of_ble_eq_true rf) ?_
  refine Aa.own (O:=_::_::_::_::_) ?_ rf
  refine Aa.nil<|At.AE<|At.Ad<|Wp.sr<|Aa.op (Ab.AF (i:=2) Nc rf Ez rf rf rf) rf<|Aa.Bm (i:=3) rf fun ho2=>Aa.AP (i:=0) (cs':= #[v4,(.int .i64 a0.2)]) rf rf Ez rf rf (Bc (Ac ho2 (Ac rf (As)))) rf ?_
  refine Aa.own (O:=_::_::_::_::_) ?_ rf
  refine Aa.Af<|Wp.ret ?_
  obtain rfl:=si hd
  exact At.DB rf (RV.C' (i:=0) rf Nc rf Ez rf rf) (fun w hs=>⟨_,_,_,rf,(Hp.le.refl _),(hs.AR [3] 4 rf rf rf),_,_,rf,hq3,rf⟩)
 obtain⟨hb1,hd⟩:=bF hb1 hd
 refine Wp.sr<|Aa.op (Ab.eql rf rf) rf<|Aa.op (Ab.assign rf) rf<|Aa.Af ?_
 refine Wp.cond rf (fun hb2=>?_) (fun hb2=>?_)
 ·
  obtain⟨hb2,hd⟩:=bT hb2 hd
  obtain⟨ha2,hd⟩:=Al hd
  refine Wp.region<|Aa.op (Ab.AV (o':=0) Gb rf rf) rf<|Aa.op (Ab.Am (i:=2) (v:=v1) Lr rf rf rf rf) rf<|Aa.op (Ab.move rf) rf<|Aa.op (Ab.move rf) rf<|Aa.op (Ab.AV (o':=1) J_ rf rf) rf<|Aa.op (Ab.GS (i:=1) (vs:=[(Ak (word a1.set 0)),(Ak (word a1.set 1)),(Ak (word a1.set 2)),(Ak (word a1.set 3))]) LS rf BJ rf rf rf) rf<|Aa.op (Ab.Bi (vs:=[(0,(.int .i64 a2)),(1,(.int .i64 a3)),(2,(.agg #[(Ak (word a1.set 0)),(Ak (word a1.set 1)),(Ak (word a1.set 2)),(Ak (word a1.set 3))]))]) (cs:= #[(.int .i64 a2),(.int .i64 a3),(Ak (word a1.set 0)),(Ak (word a1.set 1)),(Ak (word a1.set 2)),(Ak (word a1.set 3)),(.bool false)]) OK Dy rf rf (AJ rf (AJ rf (AJ rf (Bd)))) rf) rf ?_
  refine Aa.A1 (c:=(cP Ao (cP Ao (cP IG cB)))) (y:=(a2,a3,a1.set,false)) (cs:=[(.int .i64 a2),(.int .i64 a3),(Ak (word a1.set 0)),(Ak (word a1.set 1)),(Ak (word a1.set 2)),(Ak (word a1.set 3)),(.bool false)]) Lr Dy rf rf rf rf (⟨[(.int .i64 a2)],[(.int .i64 a3),(Ak (word a1.set 0)),(Ak (word a1.set 1)),(Ak (word a1.set 2)),(Ak (word a1.set 3)),(.bool false)],rf,rf,⟨[(.int .i64 a3)],[(Ak (word a1.set 0)),(Ak (word a1.set 1)),(Ak (word a1.set 2)),(Ak (word a1.set 3)),(.bool false)],rf,rf,⟨[(Ak (word a1.set 0)),(Ak (word a1.set 1)),(Ak (word a1.set 2)),(Ak (word a1.set 3))],[(.bool false)],rf,rf,rf⟩⟩⟩) rf fun v5 xs5 hq4=>Aa.Df (i:=4) (j:=0) hq1 hq4 Lr Dy rf (by decide) rf rf rf rf (by decide) ha2 rf fun v6 xs6 hq5=>Aa.drop (i:=0)<|Aa.op (Ab.AV (o':=0) Gb rf rf) rf<|Aa.Bm (i:=3) rf fun ho3=>Aa.Cc (i:=2) rf rf ho3 VN rf (Nat.le_of_ble_eq_true rf) ?_
  refine Aa.own (O:=_::_::_::_::_) ?_ rf
  refine Aa.nil<|At.AE<|At.Ad<|Wp.sr<|Aa.op (Ab.AF (i:=2) Nc rf Ez rf rf rf) rf<|Aa.Bm (i:=3) rf fun ho4=>Aa.AP (i:=0) (cs':= #[v6,(.int .i64 a0.2)]) rf rf Ez rf rf (Bc (Ac ho4 (Ac rf (As)))) rf ?_
  refine Aa.own (O:=_::_::_::_::_) ?_ rf
  refine Aa.Af<|Wp.ret ?_
  obtain rfl:=si hd
  exact At.DB rf (RV.C' (i:=0) rf Nc rf Ez rf rf) (fun w hs=>⟨_,_,_,rf,(Hp.le.refl _),(hs.AR [3] 4 rf rf rf),_,_,rf,hq5,rf⟩)
 obtain⟨hb2,hd⟩:=bF hb2 hd
 refine Wp.sr<|Aa.op (Ab.eql rf rf) rf<|Aa.op (Ab.assign rf) rf<|Aa.Af ?_
 refine Wp.cond rf (fun hb3=>?_) (fun hb3=>?_)
 ·
  obtain⟨hb3,hd⟩:=bT hb3 hd
  refine Wp.sr<|Aa.op (Ab.AV (o':=5) Et rf rf) rf<|Aa.op (Ab.Am (i:=1) (v:=v2) HO rf rf rf rf) rf ?_
  have hb4:=hv1.le
  refine Aa.op (Ab.len HO rf hv1.sl) rf<|Aa.op (Ab.move rf) rf<|Aa.Af<|Wp.block<|Wp.A_ (fun m LL HH OO=> ∃(i1:Int),∃(k1:Nat),∃(l1:List (Int×Int×AD×Bool)),∃(i2:Int),∃(v7:Value),∃(xs7:List Value),[(2,(.int .i64 i1)),(3,(.int .i64 a3)),(4,(ptr B2 0)),(5,(ptr B3 0)),(8,(ptr B4 0)),(42,v2),(43,(.int .i64 (a1.AL.length:Int))),(44,(.int .i64 (k1:Int)))]=LL∧ .AM B4 (.cells #[(.slice none 0 0),(.int .i64 0)] 73 (0,0)):: .AM B3 (.cells #[(.int .i64 a1.kind),(Ak (word a1.set 0)),(Ak (word a1.set 1)),(Ak (word a1.set 2)),(Ak (word a1.set 3)),v2] 37 (0,0)):: .AM B2 (.cells #[v7,(.int .i64 i2)] 73 (0,0)):: .row v7 117 7 l1.length xs7::O=OO∧Ax m (fun p nx=>DD fu a1 a3 slf p.1 p.2.1 p.2.2.1 p.2.2.2 nx) (i1,k1,l1,i2)=some r∧Au (cP Ao (cP Ao (cP IG cB))) HH l1 xs7) fu ⟨a2,0,a0.1,a0.2,v1,xs1,rf,rf,hd,hq1⟩ (Sub.of rf) ?_
  intro m1 L1 H1 O1 hl1 hI1
  obtain⟨i1,k1,l1,i2,v7,xs7,rfl,rfl,hd,hq6⟩:=hI1
  obtain⟨m2,nx1,rfl,hn1,hd⟩:=A9 hd
  replace hd:DD fu a1 a3 slf i1 k1 l1 i2 nx1=some r:=hd
  unfold DD at hd
  refine Wp.sr<|Aa.op (Ab.lss rf rf) rf<|Aa.Af<|Wp.seq ?_
  refine Wp.cond rf (fun hb5=>?_) (fun hb5=>?_)
  ·
   obtain⟨hb5,hd⟩:=bT hb5 hd
   refine Wp.skip<|At.Ad<|Wp.seq<|Wp.block<|Wp.seq ?_
   obtain⟨x1,hx1,hd⟩:=Ae hd
   have hx1_:=Ah hx1
   refine Wp.region<|Aa.op (Ab.move rf) rf ?_
   obtain⟨_,hz1,hc1⟩:=AW.get (hv1.mono hl1) hx1
   obtain⟨v8,rfl,hv2⟩:=HJ.1 hz1
   refine Aa.op (Ab.Bo HO Cj rf (hv1.mono hl1).sl rf (Ah hx1)) rf<|Aa.op (Ab.C9 (vs:=[(.int .i64 x1.kind),(Ak (word x1.set 0)),(Ak (word x1.set 1)),(Ak (word x1.set 2)),(Ak (word x1.set 3)),v8]) JH rf Cj rf rf (fun j u hj=>(hc1 j u hj))) rf<|Aa.alloc (cs:= #[(.int .i64 0),(Ak (word (fun _=>false) 0)),(Ak (word (fun _=>false) 1)),(Ak (word (fun _=>false) 2)),(Ak (word (fun _=>false) 3)),(.slice none 0 0)]) Cj (by simp only[zw];rfl) rf fun B5=>Aa.op (Ab.assign rf) rf<|Aa.AP (i:=0) (cs':= #[(.int .i64 x1.kind),(Ak (word x1.set 0)),(Ak (word x1.set 1)),(Ak (word x1.set 2)),(Ak (word x1.set 3)),v8]) rf rf Cj rf rf (Bc (Ac rf (Ac rf (Ac rf (Ac rf (Ac rf (Ac hv2.one (As)))))))) rf ?_
   refine Aa.own (O:=_::_::_::_::_::_) ?_ rf
   refine Aa.Af<|Wp.sr<|Aa.op (Ab.move rf) rf<|Aa.op (Ab.assign rf) rf<|Aa.Af<|Wp.seq<|Wp.sr<|Aa.op (Ab.move rf) rf ?_
   refine Aa.op (Ab.add rf rf (Aq (by omega))) rf<|Aa.op (Ab.AV (o':=5) Et rf rf) rf<|Aa.op (Ab.Am (i:=2) (v:=v2) HO rf rf rf rf) rf ?_
   have hb6:=hv1.le
   refine Aa.op (Ab.len HO rf (hv1.mono hl1).sl) rf<|Aa.op (Ab.lss rf rf) rf<|Aa.Af ?_
   refine Wp.Fp (fun LL HH OO=> ∃(i3:Int),∃(i4:Int),[(2,(.int .i64 i1)),(3,(.int .i64 a3)),(4,(ptr B2 0)),(5,(ptr B3 0)),(8,(ptr B4 0)),(10,(ptr B5 0)),(11,(.int .i64 i3)),(42,v2),(43,(.int .i64 (a1.AL.length:Int))),(44,(.int .i64 (k1:Int)))]=LL∧ .AM B5 (.cells #[(.int .i64 x1.kind),(Ak (word x1.set 0)),(Ak (word x1.set 1)),(Ak (word x1.set 2)),(Ak (word x1.set 3)),v8] 37 (0,0)):: .AM B4 (.cells #[(.slice none 0 0),(.int .i64 0)] 73 (0,0)):: .AM B3 (.cells #[(.int .i64 a1.kind),(Ak (word a1.set 0)),(Ak (word a1.set 1)),(Ak (word a1.set 2)),(Ak (word a1.set 3)),v2] 37 (0,0)):: .AM B2 (.cells #[v7,(.int .i64 i4)] 73 (0,0)):: .row v7 117 7 l1.length xs7::O=OO∧Fb fu slf i1 k1 l1 nx1 x1 i3 i4=some r) ?_ ?_
   ·
    refine Wp.cond rf (fun hb7=>?_) (fun hb7=>?_)
    ·
     obtain⟨hb7,hd⟩:=bT hb7 hd
     refine Wp.sr<|Aa.op (Ab.AV (o':=1) J9 rf rf) rf<|Aa.op (Ab.Am (i:=3) (v:=(.int .i64 i2)) u3 rf rf rf rf) rf<|Aa.op (Ab.assign rf) rf<|Aa.Af ?_
     obtain⟨ha3,hd⟩:=Al hd
     refine Wp.region<|Aa.op (Ab.AV (o':=1) J9 rf rf) rf<|Aa.op (Ab.Am (i:=3) (v:=(.int .i64 i2)) u3 rf rf rf rf) rf<|Aa.op (Ab.add rf rf (Aq ha3)) rf<|Aa.op (Ab.AV (o':=1) J9 rf rf) rf<|Aa.Cc (i:=3) rf rf rf Cp rf (Nat.le_of_ble_eq_true rf) ?_
     refine Aa.own (O:=_::_::_::_::_::_) ?_ rf
     refine Aa.nil ?_
     refine At.Cn (Hp.le.refl _) ⟨i2,(i2+1),rf,rf,hd⟩ (Sub.of rf)
    obtain⟨hb7,hd⟩:=bF hb7 hd
    refine Wp.skip ?_
    refine At.Cn (Hp.le.refl _) ⟨a3,i2,rf,rf,hd⟩ (Sub.of rf)
   intro L2 H2 O2 hl2 hI2
   obtain⟨i3,i4,rfl,rfl,hd⟩:=hI2
   unfold Fb at hd
   refine Wp.seq ?_
   obtain⟨x2,hx2,hd⟩:=Ae hd
   refine Wp.region<|Aa.op (Ab.AF (i:=3) Nc rf Ez rf rf rf) rf<|Aa.op (Ab.AF (i:=0) JH rf Cj rf rf rf) rf<|Aa.op (Ab.move rf) rf<|Aa.op (Ab.move rf) rf<|Aa.AR [4,0,1,2,3] 5 rf rf rf<|Aa.E8 (BC.call Sq rf (ih (a0:=(l1,i4)) (hq6.mono hl2) (hv2.mono hl2) hx2)) rf ?_
   rintro _ H3 _ hl3 ⟨v9,xs8,rfl,hq7,rfl⟩
   refine Aa.Bm (i:=0) rf fun ho5=>Aa.AP (i:=4) (cs':= #[v9,(.int .i64 x2.2)]) rf rf Ez rf rf (Bc (Ac ho5 (Ac rf (As)))) rf ?_
   refine Aa.own (O:=_::_::_::_::_::_) ?_ rf
   refine Aa.Af<|Wp.region<|Aa.op (Ab.move rf) rf<|Aa.op (Ab.assign rf) rf<|Aa.nil<|At.AE<|At.Ad<|Wp.region ?_
   refine Aa.op (Ab.add rf rf (Aq (by omega))) rf<|Aa.op (Ab.move rf) rf<|Aa.nil<|At.AR [2,3,4,0] 5 rf rf rf ?_
   refine At.AO (hl2.trans hl3) ⟨i3,(k1+1),x2.1,x2.2,v9,xs8,rf,rf,(by rw[←hn1];exact hd),hq7⟩ (Sub.of rf)
  obtain⟨hb5,hd⟩:=bF hb5 hd
  refine Wp.exit<|At.An<|At.An<|At.Az<|At.AE<|At.Ad<|Wp.sr<|Aa.op (Ab.AF (i:=2) Nc rf Ez rf rf rf) rf ?_
  refine Aa.Bm (i:=3) rf fun ho6=>Aa.AP (i:=0) (cs':= #[v7,(.int .i64 i2)]) rf rf Ez rf rf (Bc (Ac ho6 (Ac rf (As)))) rf ?_
  refine Aa.own (O:=_::_::_::_::_) ?_ rf
  refine Aa.Af<|Wp.ret ?_
  obtain rfl:=si hd
  exact At.DB rf (RV.C' (i:=0) rf Nc rf Ez rf rf) (fun w hs=>⟨_,_,_,rf,hl1,(hs.AR [3] 4 rf rf rf),_,_,rf,hq6,rf⟩)
 obtain⟨hb3,hd⟩:=bF hb3 hd
 refine Wp.sr<|Aa.op (Ab.eql rf rf) rf<|Aa.op (Ab.assign rf) rf<|Aa.Af ?_
 refine Wp.cond rf (fun hb8=>?_) (fun hb8=>?_)
 ·
  obtain⟨hb8,hd⟩:=bT hb8 hd
  refine Wp.sr<|Aa.op (Ab.AV (o':=5) Et rf rf) rf<|Aa.op (Ab.Am (i:=1) (v:=v2) HO rf rf rf rf) rf ?_
  have hb9:=hv1.le
  refine Aa.op (Ab.len HO rf hv1.sl) rf<|Aa.op (Ab.move rf) rf<|Aa.Af<|Wp.block<|Wp.A_ (fun m LL HH OO=> ∃(k2:Nat),∃(l2:List (Int×Int×AD×Bool)),∃(i5:Int),∃(v10:Value),∃(xs9:List Value),[(2,(.int .i64 a2)),(3,(.int .i64 a3)),(4,(ptr B2 0)),(8,(ptr B4 0)),(72,v2),(73,(.int .i64 (a1.AL.length:Int))),(74,(.int .i64 (k2:Int)))]=LL∧ .AM B4 (.cells #[(.slice none 0 0),(.int .i64 0)] 73 (0,0)):: .AM B3 (.cells #[(.int .i64 a1.kind),(Ak (word a1.set 0)),(Ak (word a1.set 1)),(Ak (word a1.set 2)),(Ak (word a1.set 3)),v2] 37 (0,0)):: .AM B2 (.cells #[v10,(.int .i64 i5)] 73 (0,0)):: .row v10 117 7 l2.length xs9::O=OO∧Ax m (fun p nx=>DC fu a1 a2 a3 slf p.1 p.2.1 p.2.2 nx) (k2,l2,i5)=some r∧Au (cP Ao (cP Ao (cP IG cB))) HH l2 xs9) fu ⟨0,a0.1,a0.2,v1,xs1,rf,rf,hd,hq1⟩ (Sub.of rf) ?_
  intro m3 L3 H4 O3 hl4 hI3
  obtain⟨k2,l2,i5,v10,xs9,rfl,rfl,hd,hq8⟩:=hI3
  obtain⟨m4,nx2,rfl,hn2,hd⟩:=A9 hd
  replace hd:DC fu a1 a2 a3 slf k2 l2 i5 nx2=some r:=hd
  unfold DC at hd
  refine Wp.sr<|Aa.op (Ab.lss rf rf) rf<|Aa.Af<|Wp.seq ?_
  refine Wp.cond rf (fun hb10=>?_) (fun hb10=>?_)
  ·
   obtain⟨hb10,hd⟩:=bT hb10 hd
   refine Wp.skip<|At.Ad<|Wp.seq<|Wp.block<|Wp.seq ?_
   obtain⟨x3,hx3,hd⟩:=Ae hd
   have hx3_:=Ah hx3
   refine Wp.region ?_
   obtain⟨_,hz2,hc2⟩:=AW.get (hv1.mono hl4) hx3
   obtain⟨v11,rfl,hv3⟩:=HJ.1 hz2
   refine Aa.op (Ab.Bo HO Cj rf (hv1.mono hl4).sl rf (Ah hx3)) rf<|Aa.op (Ab.C9 (vs:=[(.int .i64 x3.kind),(Ak (word x3.set 0)),(Ak (word x3.set 1)),(Ak (word x3.set 2)),(Ak (word x3.set 3)),v11]) JH rf Cj rf rf (fun j u hj=>(hc2 j u hj))) rf<|Aa.alloc (cs:= #[(.int .i64 0),(Ak (word (fun _=>false) 0)),(Ak (word (fun _=>false) 1)),(Ak (word (fun _=>false) 2)),(Ak (word (fun _=>false) 3)),(.slice none 0 0)]) Cj (by simp only[zw];rfl) rf fun B6=>Aa.AP (i:=0) (cs':= #[(.int .i64 x3.kind),(Ak (word x3.set 0)),(Ak (word x3.set 1)),(Ak (word x3.set 2)),(Ak (word x3.set 3)),v11]) rf rf Cj rf rf (Bc (Ac rf (Ac rf (Ac rf (Ac rf (Ac rf (Ac hv3.one (As)))))))) rf ?_
   refine Aa.own (O:=_::_::_::_::_::_) ?_ rf
   refine Aa.Af ?_
   obtain⟨x4,hx4,hd⟩:=Ae hd
   refine Wp.region<|Aa.op (Ab.AF (i:=3) Nc rf Ez rf rf rf) rf<|Aa.op (Ab.AF (i:=0) JH rf Cj rf rf rf) rf<|Aa.op (Ab.move rf) rf<|Aa.op (Ab.move rf) rf<|Aa.AR [4,0,1,2,3] 5 rf rf rf<|Aa.E8 (BC.call Sq rf (ih (a0:=(l2,i5)) hq8 hv3 hx4)) rf ?_
   rintro _ H5 _ hl5 ⟨v12,xs10,rfl,hq9,rfl⟩
   refine Aa.Bm (i:=0) rf fun ho7=>Aa.AP (i:=4) (cs':= #[v12,(.int .i64 x4.2)]) rf rf Ez rf rf (Bc (Ac ho7 (Ac rf (As)))) rf ?_
   refine Aa.own (O:=_::_::_::_::_::_) ?_ rf
   refine Aa.nil<|At.AE<|At.Ad<|Wp.region<|Aa.op (Ab.add rf rf (Aq (by omega))) rf<|Aa.op (Ab.move rf) rf<|Aa.nil<|At.AR [2,3,4,0] 5 rf rf rf ?_
   refine At.AO hl5 ⟨(k2+1),x4.1,x4.2,v12,xs10,rf,rf,(by rw[←hn2];exact hd),hq9⟩ (Sub.of rf)
  obtain⟨hb10,hd⟩:=bF hb10 hd
  refine Wp.exit<|At.An<|At.An<|At.Az<|At.AE<|At.Ad<|Wp.sr<|Aa.op (Ab.AF (i:=2) Nc rf Ez rf rf rf) rf ?_
  refine Aa.Bm (i:=3) rf fun ho8=>Aa.AP (i:=0) (cs':= #[v10,(.int .i64 i5)]) rf rf Ez rf rf (Bc (Ac ho8 (Ac rf (As)))) rf ?_
  refine Aa.own (O:=_::_::_::_::_) ?_ rf
  refine Aa.Af<|Wp.ret ?_
  obtain rfl:=si hd
  exact At.DB rf (RV.C' (i:=0) rf Nc rf Ez rf rf) (fun w hs=>⟨_,_,_,rf,hl4,(hs.AR [3] 4 rf rf rf),_,_,rf,hq8,rf⟩)
 obtain⟨hb8,hd⟩:=bF hb8 hd
 refine Wp.sr<|Aa.op (Ab.eql rf rf) rf<|Aa.op (Ab.assign rf) rf<|Aa.Af ?_
 refine Wp.cond rf (fun hb11=>?_) (fun hb11=>?_)
 ·
  obtain⟨hb11,hd⟩:=bT hb11 hd
  refine Wp.sr<|Aa.op (Ab.AV (o':=1) J9 rf rf) rf<|Aa.op (Ab.Am (i:=2) (v:=(.int .i64 a0.2)) u3 rf rf rf rf) rf<|Aa.op (Ab.assign rf) rf<|Aa.Af<|Wp.seq ?_
  obtain⟨ha4,hd⟩:=Al hd
  refine Wp.region<|Aa.op (Ab.AV (o':=1) J9 rf rf) rf<|Aa.op (Ab.Am (i:=2) (v:=(.int .i64 a0.2)) u3 rf rf rf rf) rf<|Aa.op (Ab.add rf rf (Aq ha4)) rf<|Aa.op (Ab.AV (o':=1) J9 rf rf) rf<|Aa.Cc (i:=2) rf rf rf Cp rf (Nat.le_of_ble_eq_true rf) ?_
  refine Aa.own (O:=_::_::_::_::_) ?_ rf
  refine Aa.Af<|Wp.seq ?_
  obtain⟨ha5,hd⟩:=Al hd
  refine Wp.region<|Aa.op (Ab.AV (o':=0) Gb rf rf) rf<|Aa.op (Ab.Am (i:=2) (v:=v1) Lr rf rf rf rf) rf<|Aa.op (Ab.move rf) rf<|Aa.op (Ab.move rf) rf<|Aa.op (Ab.Bi (vs:=[(0,(.int .i64 a2)),(1,(.int .i64 a0.2)),(3,(.bool true))]) (cs:= #[(.int .i64 a2),(.int .i64 a0.2),(Ak (word (fun _=>false) 0)),(Ak (word (fun _=>false) 1)),(Ak (word (fun _=>false) 2)),(Ak (word (fun _=>false) 3)),(.bool true)]) OK Dy rf rf (AJ rf (AJ rf (AJ rf (Bd)))) (by simp only[zw];rfl)) rf<|Aa.A1 (c:=(cP Ao (cP Ao (cP IG cB)))) (y:=(a2,a0.2,(fun _=>false),true)) (cs:=[(.int .i64 a2),(.int .i64 a0.2),(Ak (word (fun _=>false) 0)),(Ak (word (fun _=>false) 1)),(Ak (word (fun _=>false) 2)),(Ak (word (fun _=>false) 3)),(.bool true)]) Lr Dy rf rf rf rf (⟨[(.int .i64 a2)],[(.int .i64 a0.2),(Ak (word (fun _=>false) 0)),(Ak (word (fun _=>false) 1)),(Ak (word (fun _=>false) 2)),(Ak (word (fun _=>false) 3)),(.bool true)],rf,rf,⟨[(.int .i64 a0.2)],[(Ak (word (fun _=>false) 0)),(Ak (word (fun _=>false) 1)),(Ak (word (fun _=>false) 2)),(Ak (word (fun _=>false) 3)),(.bool true)],rf,rf,⟨[(Ak (word (fun _=>false) 0)),(Ak (word (fun _=>false) 1)),(Ak (word (fun _=>false) 2)),(Ak (word (fun _=>false) 3))],[(.bool true)],rf,rf,rf⟩⟩⟩) rf fun v13 xs11 hq10=>Aa.Df (i:=4) (j:=0) hq1 hq10 Lr Dy rf (by decide) rf rf rf rf (by decide) ha5 rf fun v14 xs12 hq11=>?_
  refine Aa.drop (i:=0)<|Aa.op (Ab.AV (o':=0) Gb rf rf) rf<|Aa.Bm (i:=3) rf fun ho9=>Aa.Cc (i:=2) rf rf ho9 VN rf (Nat.le_of_ble_eq_true rf) ?_
  refine Aa.own (O:=_::_::_::_::_) ?_ rf
  refine Aa.Af<|Wp.seq ?_
  obtain⟨ha6,hd⟩:=Al hd
  refine Wp.region<|Aa.op (Ab.AV (o':=0) Gb rf rf) rf<|Aa.op (Ab.Am (i:=2) (v:=v14) Lr rf rf rf rf) rf<|Aa.op (Ab.move rf) rf<|Aa.op (Ab.move rf) rf<|Aa.op (Ab.Bi (vs:=[(0,(.int .i64 a0.2)),(1,(.int .i64 a3)),(3,(.bool true))]) (cs:= #[(.int .i64 a0.2),(.int .i64 a3),(Ak (word (fun _=>false) 0)),(Ak (word (fun _=>false) 1)),(Ak (word (fun _=>false) 2)),(Ak (word (fun _=>false) 3)),(.bool true)]) OK Dy rf rf (AJ rf (AJ rf (AJ rf (Bd)))) (by simp only[zw];rfl)) rf<|Aa.A1 (c:=(cP Ao (cP Ao (cP IG cB)))) (y:=(a0.2,a3,(fun _=>false),true)) (cs:=[(.int .i64 a0.2),(.int .i64 a3),(Ak (word (fun _=>false) 0)),(Ak (word (fun _=>false) 1)),(Ak (word (fun _=>false) 2)),(Ak (word (fun _=>false) 3)),(.bool true)]) Lr Dy rf rf rf rf (⟨[(.int .i64 a0.2)],[(.int .i64 a3),(Ak (word (fun _=>false) 0)),(Ak (word (fun _=>false) 1)),(Ak (word (fun _=>false) 2)),(Ak (word (fun _=>false) 3)),(.bool true)],rf,rf,⟨[(.int .i64 a3)],[(Ak (word (fun _=>false) 0)),(Ak (word (fun _=>false) 1)),(Ak (word (fun _=>false) 2)),(Ak (word (fun _=>false) 3)),(.bool true)],rf,rf,⟨[(Ak (word (fun _=>false) 0)),(Ak (word (fun _=>false) 1)),(Ak (word (fun _=>false) 2)),(Ak (word (fun _=>false) 3))],[(.bool true)],rf,rf,rf⟩⟩⟩) rf fun v15 xs13 hq12=>Aa.Df (i:=4) (j:=0) hq11 hq12 Lr Dy rf (by decide) rf rf rf rf (by decide) ha6 rf fun v16 xs14 hq13=>?_
  refine Aa.drop (i:=0)<|Aa.op (Ab.AV (o':=0) Gb rf rf) rf<|Aa.Bm (i:=3) rf fun ho10=>Aa.Cc (i:=2) rf rf ho10 VN rf (Nat.le_of_ble_eq_true rf) ?_
  refine Aa.own (O:=_::_::_::_::_) ?_ rf
  refine Aa.Af ?_
  obtain⟨x5,hx5,hd⟩:=Ae hd
  have hx5_:=Ah hx5
  obtain⟨x6,hx6,hd⟩:=Ae hd
  obtain⟨_,hz3,hc3⟩:=AW.get hv1 hx5
  obtain⟨v17,rfl,hv4⟩:=HJ.1 hz3
  refine Wp.CV 7 follows rf (by kernel_rfl)<|Ag.A6 (Ab.AF (i:=2) Nc rf Ez rf rf rf) rf<|Ag.A6 (Ab.AV (o':=5) Et rf rf) rf<|Ag.A6 (Ab.Am (i:=1) (v:=v2) HO rf rf rf rf) rf<|Ag.A6 (Ab.Bo HO Cj rf hv1.sl rf (Ah hx5)) rf<|Ag.A6 (Ab.C9 (vs:=[(.int .i64 x5.kind),(Ak (word x5.set 0)),(Ak (word x5.set 1)),(Ak (word x5.set 2)),(Ak (word x5.set 3)),v17]) JH rf Cj rf rf (fun j u hj=>(hc3 j u hj))) rf<|Ag.A6 (Ab.move rf) rf<|Ag.A6 (Ab.move rf) rf ?_
  refine Ag.CW<|Ap.is (t:=4) rf<|Ap.is (t:=8) rf<|Ap.is (t:=108) rf<|Ap.is (t:=112) rf<|Ap.is (t:=113) rf<|Ap.is (t:=114) rf<|Ap.JB ?_
  refine Aa.AR [3,0,1,2] 4 rf rf rf<|Aa.E8 (BC.call Sq rf (ih (a0:=((a0.1++([(a2,a0.2,(fun _=>false),true)]:List (Int×Int×AD×Bool)))++([(a0.2,a3,(fun _=>false),true)]:List (Int×Int×AD×Bool)),a0.2+1)) hq13 hv4 hx6)) rf ?_
  rintro _ H6 _ hl6 ⟨v18,xs15,rfl,hq14,rfl⟩
  refine Aa.Bm (i:=0) rf fun ho11=>Aa.AP (i:=3) (cs':= #[v18,(.int .i64 x6.2)]) rf rf Ez rf rf (Bc (Ac ho11 (Ac rf (As)))) rf ?_
  refine Aa.own (O:=_::_::_::_::_) ?_ rf
  refine Aa.nil<|At.AE<|At.Ad<|Wp.sr<|Aa.op (Ab.AF (i:=3) Nc rf Ez rf rf rf) rf<|Aa.Bm (i:=0) rf fun ho12=>Aa.AP (i:=1) (cs':= #[v18,(.int .i64 x6.2)]) rf rf Ez rf rf (Bc (Ac ho12 (Ac rf (As)))) rf ?_
  refine Aa.own (O:=_::_::_::_::_) ?_ rf
  refine Aa.Af<|Wp.ret ?_
  obtain rfl:=si hd
  exact At.DB rf (RV.C' (i:=1) rf Nc rf Ez rf rf) (fun w hs=>⟨_,_,_,rf,hl6,(hs.AR [0] 4 rf rf rf),_,_,rf,hq14,rf⟩)
 obtain⟨hb11,hd⟩:=bF hb11 hd
 refine Wp.skip<|At.AE<|At.Ad<|Wp.sr<|Aa.op (Ab.AF (i:=2) Nc rf Ez rf rf rf) rf<|Aa.Bm (i:=3) rf fun ho13=>Aa.AP (i:=0) (cs':= #[v1,(.int .i64 a0.2)]) rf rf Ez rf rf (Bc (Ac ho13 (Ac rf (As)))) rf ?_
 refine Aa.own (O:=_::_::_::_::_) ?_ rf
 refine Aa.Af<|Wp.ret ?_
 obtain rfl:=si hd
 exact At.DB rf (RV.C' (i:=0) rf Nc rf Ez rf rf) (fun w hs=>⟨_,_,_,rf,(Hp.le.refl _),(hs.AR [3] 4 rf rf rf),_,_,rf,hq1,rf⟩)
theorem PZ{fu:Nat}{a0:(List (Int×Int×AD×Bool))×Int}{v1:Value}{r:List (Bool×(List (Int×Int×Int)))}(hv1:AW (cP Ao (cP Ao (cP IG cB))) H a0.1 v1)(hd:Ih fu a0=some r):
    ED Tryz.prog 43 [(.agg #[v1,(.int .i64 a0.2)])] H O (fun v H' O'=>(∃v2:Value,v2=v∧AW (cP cB (cL (cP AZ (cP AZ Ao)))) H' r v2)∧O=O'):=by
 intro w hs
 refine Bz Tryz.func43 rf rf rf ?_ hs
 clear hs w
 unfold Ih at hd
 refine Wp.sr<|Aa.box (cs:= #[v1,(.int .i64 a0.2)]) rf rf rf fun B2=>Aa.op (Ab.assign rf) rf<|Aa.Af<|Wp.seq ?_
 obtain⟨x1,hx1,hd⟩:=Ae hd
 refine Wp.region<|Aa.op (Ab.AF (i:=0) Nc rf Ez rf rf rf) rf<|Aa.E8 (BC.call W5 rf (JJ hv1 hx1)) rf ?_
 rintro _ H1 _ hl1 ⟨⟨v3,rfl,hv2⟩,rfl⟩
 refine Aa.op (Ab.assign rf) rf<|Aa.Af<|Wp.seq ?_
 obtain⟨x2,hx2,hd⟩:=Ae hd
 refine Wp.region<|Aa.op (Ab.AF (i:=0) Nc rf Ez rf rf rf) rf<|Aa.A1 (c:=Ao) (y:=0) (cs:=[(.int .i64 0)]) BF Cp rf rf rf rf (rf) rf fun v4 xs1 hq1=>?_
 refine Aa.A7 (i:=0) rf fun hb1=>?_
 refine Aa.freeze (i:=0) rf fun H2 hl2 hs1=>?_
 have hv3:=AW.of (c:=Ao) hs1 rfl (hq1.mono hl2) hb1
 refine Aa.E8 (BC.call UU rf (HQ (hv1.mono (hl1.trans hl2)) hv3 hx2)) rf ?_
 rintro _ H3 _ hl3 ⟨⟨v5,rfl,hv4⟩,rfl⟩
 refine Aa.A1 (c:=(cL Ao)) (y:=x2) (cs:=[v5]) Ey Dx rf rf rf (DZ hv4.one) (⟨_,rf,hv4⟩) rf fun v6 xs2 hq2=>Aa.op (Ab.assign rf) rf<|Aa.Af<|Wp.sr<|Aa.op (Ab.assign rf) rf<|Aa.Af<|Wp.seq<|Wp.sr ?_
 refine Aa.op (Ab.assign rf) rf<|Aa.Af<|Wp.block<|Wp.BG 43 2<|Wp.A_ (fun m LL HH OO=> ∃(l1:List (List Int)),∃(l2:List (Bool×(List (Int×Int×Int)))),∃(k1:Nat),∃(v7:Value),∃(xs3:List Value),∃(v8:Value),∃(xs4:List Value),[(1,(ptr B2 0)),(3,v3),(4,v7),(5,v8),(6,(.int .i64 (k1:Int)))]=LL∧ .row v8 43 2 l2.length xs4:: .row v7 55 1 l1.length xs3:: .AM B2 (.cells #[v1,(.int .i64 a0.2)] 73 (0,0))::O=OO∧Ax m (fun p nx=>EX fu a0 x1 p.1 p.2.1 p.2.2 nx) (l1,l2,k1)=some r∧Au (cL Ao) HH l1 xs3∧Au (cP cB (cL (cP AZ (cP AZ Ao)))) HH l2 xs4) fu ⟨([x2]:List (List Int)),([]:List (Bool×(List (Int×Int×Int)))),0,v6,xs2,(.slice none 0 0),[],rf,rf,hd,hq2,(Au.nil (c:=(cP cB (cL (cP AZ (cP AZ Ao))))) (H:=H3))⟩ (Sub.of rf) ?_
 intro m1 L1 H4 O1 hl4 hI1
 obtain⟨l1,l2,k1,v7,xs3,v8,xs4,rfl,rfl,hd,hq3,hq4⟩:=hI1
 obtain⟨m2,nx1,rfl,hn1,hd⟩:=A9 hd
 replace hd:EX fu a0 x1 l1 l2 k1 nx1=some r:=hd
 unfold EX at hd
 refine Wp.seq<|Wp.sr<|Aa.op (Ab.move rf) rf<|Aa.op (Ab.move rf) rf ?_
 refine Aa.A7 (i:=1) rf fun hb2=>?_
 refine Aa.op (Ab.BR (i:=1) Ey rf rf) rf<|Aa.op (Ab.lss rf rf) rf<|Aa.Af ?_
 refine Wp.cond rf (fun hb3=>?_) (fun hb3=>?_)
 ·
  obtain⟨hb3,hd⟩:=bT hb3 hd
  refine Wp.skip<|At.Ad<|Wp.seq<|Wp.block<|Wp.seq ?_
  obtain⟨x3,hx3,hd⟩:=Ae hd
  have hx3_:=Ah hx3
  obtain⟨x4,hx4,hd⟩:=Ae hd
  refine Wp.region<|Aa.op (Ab.move rf) rf<|Aa.op (Ab.move rf) rf ?_
  obtain⟨_,⟨v9,rfl,hv5⟩,hc1,hc1_⟩:=Au.get hq3 (AG hx3).2
  refine Aa.op (Ab.Bu (j:=1) Ey Dx rf rf rf (Ah hx3)) rf<|Aa.op (Ab.Ch (i:=1) (k:=k1*1+0) BF rf rf rf (hc1 0 _ rf)) rf<|Aa.op (Ab.call QA rf (Ii hv5 hx4)) rf<|Aa.op (Ab.Bi (vs:=[(0,(.bool x4))]) (cs:= #[(.bool x4),(.slice none 0 0)]) Hq Bl rf rf (AJ rf (Bd)) rf) rf<|Aa.alloc (cs:= #[(.bool false),(.slice none 0 0)]) Bl rf rf fun B3=>Aa.AP (i:=0) (cs':= #[(.bool x4),(.slice none 0 0)]) rf rf Bl rf rf (Bc (Ac rf (Ac rf (As)))) rf ?_
  refine Aa.own (O:=_::_::_::_::_) ?_ rf
  refine Aa.Af<|Wp.seq<|Wp.sr<|Aa.op (Ab.move rf) rf ?_
  have hb4:=hv2.le
  refine Aa.op (Ab.len BF rf (hv2.mono ((hl2.trans hl3).trans hl4)).sl) rf<|Aa.op (Ab.move rf) rf<|Aa.Af<|Wp.block<|Wp.BG 46 3<|Wp.A_ (fun m LL HH OO=> ∃(l3:List (List Int)),∃(l4:List (Int×Int×Int)),∃(k2:Nat),∃(v10:Value),∃(xs5:List Value),∃(v11:Value),∃(xs6:List Value),[(1,(ptr B2 0)),(3,v3),(4,v10),(5,v8),(6,(.int .i64 (k1:Int))),(7,(ptr B3 0)),(33,v3),(34,(.int .i64 (x1.length:Int))),(35,(.int .i64 (k2:Int)))]=LL∧ .row v11 46 3 l4.length xs6:: .AM B3 (.cells #[(.bool x4),v11] 43 (0,0)):: .row v8 43 2 l2.length xs4:: .row v10 55 1 l3.length xs5:: .AM B2 (.cells #[v1,(.int .i64 a0.2)] 73 (0,0))::O=OO∧Ax m (fun p nx=>DI fu a0 x1 l2 k1 nx1 x4 p.1 p.2.1 p.2.2 nx) (l3,l4,k2)=some r∧Au (cL Ao) HH l3 xs5∧Au (cP AZ (cP AZ Ao)) HH l4 xs6) fu ⟨l1,([]:List (Int×Int×Int)),0,v7,xs3,(.slice none 0 0),[],rf,rf,hd,hq3,(Au.nil (c:=(cP AZ (cP AZ Ao))) (H:=H4))⟩ (Sub.of rf) ?_
  intro m3 L2 H5 O2 hl5 hI2
  obtain⟨l3,l4,k2,v10,xs5,v11,xs6,rfl,rfl,hd,hq5,hq6⟩:=hI2
  obtain⟨m4,nx2,rfl,hn2,hd⟩:=A9 hd
  replace hd:DI fu a0 x1 l2 k1 nx1 x4 l3 l4 k2 nx2=some r:=hd
  unfold DI at hd
  refine Wp.sr<|Aa.op (Ab.lss rf rf) rf<|Aa.Af<|Wp.seq ?_
  refine Wp.cond rf (fun hb5=>?_) (fun hb5=>?_)
  ·
   obtain⟨hb5,hd⟩:=bT hb5 hd
   refine Wp.skip<|At.Ad<|Wp.seq<|Wp.block<|Wp.seq ?_
   obtain⟨x5,hx5,hd⟩:=Ae hd
   have hx5_:=Ah hx5
   refine Wp.region<|Aa.op (Ab.move rf) rf ?_
   obtain⟨_,rfl,hc2⟩:=AW.get (hv2.mono (((hl2.trans hl3).trans hl4).trans hl5)) hx5
   refine Aa.op (Ab.Bo BF Cp rf (hv2.mono (((hl2.trans hl3).trans hl4).trans hl5)).sl rf (Ah hx5)) rf<|Aa.op (Ab.FJ u3 rf rf (hc2 0 _ rf)) rf<|Aa.op (Ab.assign rf) rf<|Aa.op (Ab.assign rf) rf<|Aa.Af<|Wp.sr<|Aa.op (Ab.assign rf) rf<|Aa.Af ?_
   refine Wp.seq<|Wp.sr<|Aa.op (Ab.AV (o':=0) Gb rf rf) rf<|Aa.op (Ab.Am (i:=4) (v:=v1) Lr rf rf rf rf) rf ?_
   have hb6:=hv1.le
   refine Aa.op (Ab.len Lr rf (hv1.mono ((((hl1.trans hl2).trans hl3).trans hl4).trans hl5)).sl) rf<|Aa.op (Ab.move rf) rf<|Aa.Af<|Wp.block<|Wp.BG 3 1<|Wp.A_ (fun m LL HH OO=> ∃(l5:List Int),∃(k3:Nat),∃(v12:Value),∃(xs7:List Value),[(1,(ptr B2 0)),(3,v3),(4,v10),(5,v8),(6,(.int .i64 (k1:Int))),(7,(ptr B3 0)),(8,(.int .i64 (k2:Int))),(9,(.int .i64 x5)),(10,v12),(33,v3),(34,(.int .i64 (x1.length:Int))),(35,(.int .i64 (k2:Int))),(41,v1),(42,(.int .i64 (a0.1.length:Int))),(43,(.int .i64 (k3:Int)))]=LL∧ .row v12 3 1 l5.length xs7:: .row v11 46 3 l4.length xs6:: .AM B3 (.cells #[(.bool x4),v11] 43 (0,0)):: .row v8 43 2 l2.length xs4:: .row v10 55 1 l3.length xs5:: .AM B2 (.cells #[v1,(.int .i64 a0.2)] 73 (0,0))::O=OO∧Ax m (fun p nx=>DH fu a0 x1 k1 l3 l4 k2 nx2 x5 p.1 p.2 nx) (l5,k3)=some r∧Au Ao HH l5 xs7) fu ⟨([]:List Int),0,(.slice none 0 0),[],rf,rf,hd,(Au.nil (c:=Ao) (H:=H5))⟩ (Sub.of rf) ?_
   intro m5 L3 H6 O3 hl6 hI3
   obtain⟨l5,k3,v12,xs7,rfl,rfl,hd,hq7⟩:=hI3
   obtain⟨m6,nx3,rfl,hn3,hd⟩:=A9 hd
   replace hd:DH fu a0 x1 k1 l3 l4 k2 nx2 x5 l5 k3 nx3=some r:=hd
   unfold DH at hd
   refine Wp.sr<|Aa.op (Ab.lss rf rf) rf<|Aa.Af<|Wp.seq ?_
   refine Wp.cond rf (fun hb7=>?_) (fun hb7=>?_)
   ·
    obtain⟨hb7,hd⟩:=bT hb7 hd
    refine Wp.skip<|At.Ad<|Wp.seq<|Wp.block<|Wp.seq ?_
    obtain⟨x6,hx6,hd⟩:=Ae hd
    have hx6_:=Ah hx6
    refine Wp.region ?_
    obtain⟨_,⟨_,_,rfl,rfl,⟨_,_,rfl,rfl,⟨_,_,rfl,rfl,rfl⟩⟩⟩,hc3⟩:=AW.get (hv1.mono (((((hl1.trans hl2).trans hl3).trans hl4).trans hl5).trans hl6)) hx6
    refine Aa.op (Ab.Bo Lr Dy rf (hv1.mono (((((hl1.trans hl2).trans hl3).trans hl4).trans hl5).trans hl6)).sl rf (Ah hx6)) rf<|Aa.op (Ab.C9 (vs:=[(.int .i64 x6.1),(.int .i64 x6.2.1),(Ak (word x6.2.2.1 0)),(Ak (word x6.2.2.1 1)),(Ak (word x6.2.2.1 2)),(Ak (word x6.2.2.1 3)),(.bool x6.2.2.2)]) VG rf Dy rf rf (fun j u hj=>(hc3 j u hj))) rf<|Aa.alloc (cs:= #[(.int .i64 0),(.int .i64 0),(Ak (word (fun _=>false) 0)),(Ak (word (fun _=>false) 1)),(Ak (word (fun _=>false) 2)),(Ak (word (fun _=>false) 3)),(.bool false)]) Dy (by simp only[zw];rfl) rf fun B4=>Aa.AP (i:=0) (cs':= #[(.int .i64 x6.1),(.int .i64 x6.2.1),(Ak (word x6.2.2.1 0)),(Ak (word x6.2.2.1 1)),(Ak (word x6.2.2.1 2)),(Ak (word x6.2.2.1 3)),(.bool x6.2.2.2)]) rf rf Dy rf rf (Bc (Ac rf (Ac rf (Ac rf (Ac rf (Ac rf (Ac rf (Ac rf (As))))))))) rf ?_
    refine Aa.own (O:=_::_::_::_::_::_::_::_) ?_ rf
    refine Aa.Af<|Wp.seq ?_
    rcases Bool.eq_false_or_eq_true (!x6.2.2.2)with hg1|hg1
    ·
     replace hd:=Fs hg1 hd
     obtain⟨x7,hx7,hd⟩:=Ae hd
     have hx7_:=Ah hx7
     obtain⟨x8,hx8,hd⟩:=Ae hd
     rcases Bool.eq_false_or_eq_true (x8)with hg2|hg2
     ·
      replace hd:=Fs hg2 hd
      obtain⟨ha1,hd⟩:=Al hd
      have:=ha1
      obtain⟨_,⟨v13,rfl,hv6⟩,hc4,hc4_⟩:=Au.get (hq5.mono hl6) (AG hx7).2
      refine Wp.CV 19 follows rf (by kernel_rfl)<|Ag.A6 (Ab.AV (o':=6) G_ rf rf) rf<|Ag.A6 (Ab.Am (i:=0) (v:=(.bool x6.2.2.2)) u4 rf rf rf rf) rf<|Ag.A6 (Ab.Bg (b:= !x6.2.2.2) (c:=true) (Ab.not rf) hg1) rf<|Ag.A6 (Ab.move rf) rf<|Ag.AY rf rf (Ab.move rf) rf<|Ag.AY rf rf (Ab.move rf) rf<|Ag.AY rf rf (Ab.Bu (j:=5) Ey Dx rf rf rf (Ah hx7)) rf ?_
      refine Ag.AY rf rf (Ab.Ch (i:=5) (k:=k1*1+0) BF rf rf rf (hc4 0 _ rf)) rf<|Ag.AY rf rf (Ab.AV (o':=0) Jy rf rf) rf<|Ag.AY rf rf (Ab.Am (i:=0) (v:=(.int .i64 x6.1)) u3 rf rf rf rf) rf<|Ag.AY rf rf (Ab.Bg (b:=x8) (c:=true) (Ab.call QA rf (Ii hv6 hx8)) hg2) rf<|Ag.A6 (Ab.AK rf rf) rf<|Ag.A6 (Ab.move rf) rf<|Ag.AY rf rf (Ab.AV (o':=2) L9 rf rf) rf<|Ag.AY rf rf (Ab.GS (i:=0) (vs:=[(Ak (word x6.2.2.1 0)),(Ak (word x6.2.2.1 1)),(Ak (word x6.2.2.1 2)),(Ak (word x6.2.2.1 3))]) LS rf BJ rf rf rf) rf ?_
      refine Ag.AY rf rf (Ab.move rf) rf<|Ag.AY rf rf (Ab.conv u3 u5 rf (Cm ha1)) rf<|Ag.AY rf rf (Ab.call Sm rf (@OE _ _ x6.2.2.1 x5 (by omega) (by omega))) rf<|Ag.A6 (Ab.AK rf rf) rf<|Ag.CW<|Ap.is (t:=1) rf<|Ap.is (t:=3) rf<|Ap.is (t:=4) rf ?_
      refine Ap.is (t:=5) rf<|Ap.is (t:=6) rf<|Ap.is (t:=7) rf<|Ap.is (t:=8) rf<|Ap.is (t:=9) rf<|Ap.is (t:=10) rf<|Ap.is (t:=12) rf<|Ap.is (t:=33) rf ?_
      refine Ap.is (t:=34) rf<|Ap.is (t:=35) rf<|Ap.is (t:=41) rf<|Ap.is (t:=42) rf<|Ap.is (t:=43) rf<|Ap.is (t:=65) rf<|Ap.JB<|Aa.Af ?_
      refine Wp.cond rf (fun hb8=>?_) (fun hb8=>?_)
      ·
       replace hd:=Fs hb8 hd
       obtain⟨ha2,hd⟩:=Al hd
       refine Wp.region<|Aa.op (Ab.move rf) rf<|Aa.op (Ab.AV (o':=1) L_ rf rf) rf<|Aa.op (Ab.Am (i:=0) (v:=(.int .i64 x6.2.1)) u3 rf rf rf rf) rf<|Aa.A1 (c:=Ao) (y:=x6.2.1) (cs:=[(.int .i64 x6.2.1)]) BF Cp rf rf rf rf (rf) rf fun v14 xs8 hq8=>Aa.Df (i:=2) (j:=0) hq7 hq8 BF Cp rf (by decide) rf rf rf rf (by decide) ha2 rf fun v15 xs9 hq9=>Aa.drop (i:=0)<|Aa.op (Ab.assign rf) rf ?_
       refine Aa.nil<|At.AE<|At.Ad<|Wp.region<|Aa.op (Ab.add rf rf (Aq (by omega))) rf<|Aa.op (Ab.move rf) rf<|Aa.nil<|At.AR [1,2,3,4,5,6] 7 rf rf rf ?_
       refine At.AO (Hp.le.refl _) ⟨(l5++([x6.2.1]:List Int)),(k3+1),v15,xs9,rf,rf,(by rw[←hn3];exact hd),hq9⟩ (Sub.of rf)
      replace hd:=Ft hb8 hd
      refine Wp.skip<|At.AE<|At.Ad<|Wp.region<|Aa.op (Ab.add rf rf (Aq (by omega))) rf<|Aa.op (Ab.move rf) rf<|Aa.nil<|At.AR [1,2,3,4,5,6] 7 rf rf rf ?_
      refine At.AO (Hp.le.refl _) ⟨l5,(k3+1),v12,xs7,rf,rf,(by rw[←hn3];exact hd),hq7⟩ (Sub.of rf)
     replace hd:=Ft hg2 hd
     obtain⟨_,⟨v13,rfl,hv6⟩,hc4,hc4_⟩:=Au.get (hq5.mono hl6) (AG hx7).2
     refine Wp.CV 19 follows rf (by kernel_rfl)<|Ag.A6 (Ab.AV (o':=6) G_ rf rf) rf<|Ag.A6 (Ab.Am (i:=0) (v:=(.bool x6.2.2.2)) u4 rf rf rf rf) rf<|Ag.A6 (Ab.Bg (b:= !x6.2.2.2) (c:=true) (Ab.not rf) hg1) rf<|Ag.A6 (Ab.move rf) rf<|Ag.AY rf rf (Ab.move rf) rf<|Ag.AY rf rf (Ab.move rf) rf<|Ag.AY rf rf (Ab.Bu (j:=5) Ey Dx rf rf rf (Ah hx7)) rf ?_
     refine Ag.AY rf rf (Ab.Ch (i:=5) (k:=k1*1+0) BF rf rf rf (hc4 0 _ rf)) rf<|Ag.AY rf rf (Ab.AV (o':=0) Jy rf rf) rf<|Ag.AY rf rf (Ab.Am (i:=0) (v:=(.int .i64 x6.1)) u3 rf rf rf rf) rf<|Ag.AY rf rf (Ab.Bg (b:=x8) (c:=false) (Ab.call QA rf (Ii hv6 hx8)) hg2) rf<|Ag.A6 (Ab.AK rf rf) rf<|Ag.A6 (Ab.move rf) rf<|Ag.Aw rf rf rf rf<|Ag.Aw rf rf rf rf ?_
     refine Ag.Aw rf rf rf rf<|Ag.Aw rf rf rf rf<|Ag.Aw rf rf rf rf<|Ag.A6 (Ab.AA rf rf) rf<|Ag.CW<|Ap.is (t:=1) rf<|Ap.is (t:=3) rf<|Ap.is (t:=4) rf ?_
     refine Ap.is (t:=5) rf<|Ap.is (t:=6) rf<|Ap.is (t:=7) rf<|Ap.is (t:=8) rf<|Ap.is (t:=9) rf<|Ap.is (t:=10) rf<|Ap.is (t:=12) rf<|Ap.is (t:=33) rf ?_
     refine Ap.is (t:=34) rf<|Ap.is (t:=35) rf<|Ap.is (t:=41) rf<|Ap.is (t:=42) rf<|Ap.is (t:=43) rf<|Ap.is (t:=65) rf<|Ap.JB<|Aa.Af ?_
     refine Wp.C2 rf<|Wp.skip<|At.AE<|At.Ad<|Wp.region<|Aa.op (Ab.add rf rf (Aq (by omega))) rf<|Aa.op (Ab.move rf) rf<|Aa.nil ?_
     refine At.AR [1,2,3,4,5,6] 7 rf rf rf ?_
     refine At.AO (Hp.le.refl _) ⟨l5,(k3+1),v12,xs7,rf,rf,(by rw[←hn3];exact hd),hq7⟩ (Sub.of rf)
    replace hd:=Ft hg1 hd
    refine Wp.CV 19 follows rf (by kernel_rfl)<|Ag.A6 (Ab.AV (o':=6) G_ rf rf) rf<|Ag.A6 (Ab.Am (i:=0) (v:=(.bool x6.2.2.2)) u4 rf rf rf rf) rf<|Ag.A6 (Ab.Bg (b:= !x6.2.2.2) (c:=false) (Ab.not rf) hg1) rf<|Ag.A6 (Ab.move rf) rf<|Ag.Aw rf rf rf rf<|Ag.Aw rf rf rf rf<|Ag.Aw rf rf rf rf ?_
    refine Ag.Aw rf rf rf rf<|Ag.Aw rf rf rf rf<|Ag.Aw rf rf rf rf<|Ag.Aw rf rf rf rf<|Ag.A6 (Ab.AA rf rf) rf<|Ag.A6 (Ab.move rf) rf<|Ag.Aw rf rf rf rf<|Ag.Aw rf rf rf rf ?_
    refine Ag.Aw rf rf rf rf<|Ag.Aw rf rf rf rf<|Ag.Aw rf rf rf rf<|Ag.A6 (Ab.AA rf rf) rf<|Ag.CW<|Ap.is (t:=1) rf<|Ap.is (t:=3) rf<|Ap.is (t:=4) rf ?_
    refine Ap.is (t:=5) rf<|Ap.is (t:=6) rf<|Ap.is (t:=7) rf<|Ap.is (t:=8) rf<|Ap.is (t:=9) rf<|Ap.is (t:=10) rf<|Ap.is (t:=12) rf<|Ap.is (t:=33) rf ?_
    refine Ap.is (t:=34) rf<|Ap.is (t:=35) rf<|Ap.is (t:=41) rf<|Ap.is (t:=42) rf<|Ap.is (t:=43) rf<|Ap.is (t:=65) rf<|Ap.JB<|Aa.Af ?_
    refine Wp.C2 rf<|Wp.skip<|At.AE<|At.Ad<|Wp.region<|Aa.op (Ab.add rf rf (Aq (by omega))) rf<|Aa.op (Ab.move rf) rf<|Aa.nil ?_
    refine At.AR [1,2,3,4,5,6] 7 rf rf rf ?_
    refine At.AO (Hp.le.refl _) ⟨l5,(k3+1),v12,xs7,rf,rf,(by rw[←hn3];exact hd),hq7⟩ (Sub.of rf)
   obtain⟨hb7,hd⟩:=bF hb7 hd
   refine Wp.exit<|At.An<|At.An<|At.Az<|At.Ad<|Wp.seq<|Wp.sr<|Aa.op (Ab.move rf) rf ?_
   refine Aa.A7 (i:=0) rf fun hb9=>?_
   refine Aa.op (Ab.BR (i:=0) BF rf rf) rf<|Aa.op (Ab.eql rf rf) rf<|Aa.Af ?_
   refine Wp.cond rf (fun hb10=>?_) (fun hb10=>?_)
   ·
    obtain⟨hb10,hd⟩:=bT hb10 hd
    refine Wp.exit<|At.An<|At.Az<|At.Ad<|Wp.region<|Aa.op (Ab.add rf rf (Aq (by omega))) rf<|Aa.op (Ab.move rf) rf<|Aa.nil ?_
    refine At.AR [1,2,3,4,5] 6 rf rf rf ?_
    refine At.AO hl6 ⟨l3,l4,(k2+1),v10,xs5,v11,xs6,rf,rf,(by rw[←hn2];exact hd),(hq5.mono hl6),(hq6.mono hl6)⟩ (Sub.of rf)
   obtain⟨hb10,hd⟩:=bF hb10 hd
   refine Wp.skip<|At.Ad<|Wp.seq ?_
   obtain⟨x9,hx9,hd⟩:=Ae hd
   refine Wp.region<|Aa.op (Ab.AF (i:=5) Nc rf Ez rf rf rf) rf<|Aa.op (Ab.move rf) rf ?_
   refine Aa.A7 (i:=0) rf fun hb11=>?_
   refine Aa.freeze (i:=0) rf fun H7 hl7 hs2=>?_
   have hv7:=AW.of (c:=Ao) hs2 rfl (hq7.mono hl7) hb11
   refine Aa.E8 (BC.call UU rf (HQ (hv1.mono ((((((hl1.trans hl2).trans hl3).trans hl4).trans hl5).trans hl6).trans hl7)) hv7 hx9)) rf ?_
   rintro _ H8 _ hl8 ⟨⟨v16,rfl,hv8⟩,rfl⟩
   refine Aa.op (Ab.assign rf) rf<|Aa.Af<|Wp.seq ?_
   obtain⟨x10,hx10,hd⟩:=Ae hd
   refine Wp.region<|Aa.op (Ab.move rf) rf<|Aa.op (Ab.move rf) rf<|Aa.op (Ab.call UY rf (Ca.Lh (c:=(cL Ao)) 3 rf (hq5.mono ((hl6.trans hl7).trans hl8)) (fun _ e1 d1=>JX d1 (hv8.mono e1) hx10))) rf<|Aa.op (Ab.assign rf) rf<|Aa.Af<|Wp.seq<|Wp.sr ?_
   refine Aa.op (Ab.move rf) rf<|Aa.op (Ab.lss rf rf) rf<|Aa.Af ?_
   refine Wp.Fp (fun LL HH OO=> ∃(l6:List (List Int)),∃(i1:Int),∃(v17:Value),∃(xs10:List Value),[(1,(ptr B2 0)),(3,v3),(4,v17),(5,v8),(6,(.int .i64 (k1:Int))),(7,(ptr B3 0)),(8,(.int .i64 (k2:Int))),(9,(.int .i64 x5)),(13,(.int .i64 i1)),(33,v3),(34,(.int .i64 (x1.length:Int))),(35,(.int .i64 (k2:Int)))]=LL∧ .row v11 46 3 l4.length xs6:: .AM B3 (.cells #[(.bool x4),v11] 43 (0,0)):: .row v8 43 2 l2.length xs4:: .row v17 55 1 l6.length xs10:: .AM B2 (.cells #[v1,(.int .i64 a0.2)] 73 (0,0))::O=OO∧Er fu x1 l4 k2 nx2 x5 l6 i1=some r∧Au (cL Ao) HH l6 xs10) ?_ ?_
   ·
    refine Wp.cond rf (fun hb12=>?_) (fun hb12=>?_)
    ·
     obtain⟨hb12,hd⟩:=bT hb12 hd
     refine Wp.sr<|Aa.op (Ab.move rf) rf ?_
     refine Aa.A7 (i:=3) rf fun hb13=>?_
     refine Aa.op (Ab.BR (i:=3) Ey rf rf) rf<|Aa.op (Ab.assign rf) rf<|Aa.Af ?_
     obtain⟨ha3,hd⟩:=Al hd
     refine Wp.region<|Aa.op (Ab.move rf) rf<|Aa.op (Ab.move rf) rf<|Aa.A1 (c:=(cL Ao)) (y:=x9) (cs:=[v16]) Ey Dx rf rf rf (DZ hv8.one) (⟨_,rf,hv8⟩) rf fun v18 xs11 hq10=>Aa.Df (i:=4) (j:=0) (hq5.mono ((hl6.trans hl7).trans hl8)) hq10 Ey Dx rf (by decide) rf rf rf rf (by decide) ha3 rf fun v19 xs12 hq11=>Aa.drop (i:=0)<|Aa.op (Ab.assign rf) rf<|Aa.nil ?_
     refine At.Cn (Hp.le.refl _) ⟨(l3++([x9]:List (List Int))),(l3.length:Int),v19,xs12,rf,rf,hd,hq11⟩ (Sub.of rf)
    obtain⟨hb12,hd⟩:=bF hb12 hd
    refine Wp.skip ?_
    refine At.Cn (Hp.le.refl _) ⟨l3,x10,v10,xs5,rf,rf,hd,(hq5.mono ((hl6.trans hl7).trans hl8))⟩ (Sub.of rf)
   intro L4 H9 O4 hl9 hI4
   obtain⟨l6,i1,v17,xs10,rfl,rfl,hd,hq12⟩:=hI4
   unfold Er at hd
   refine Wp.sr<|Aa.op (Ab.assign rf) rf<|Aa.Af<|Wp.seq<|Wp.sr<|Aa.op (Ab.move rf) rf<|Aa.op (Ab.add rf rf (Aq (by omega))) rf<|Aa.op (Ab.move rf) rf ?_
   have hb14:=hv2.le
   refine Aa.op (Ab.len BF rf (hv2.mono (((((((hl2.trans hl3).trans hl4).trans hl5).trans hl6).trans hl7).trans hl8).trans hl9)).sl) rf<|Aa.op (Ab.lss rf rf) rf<|Aa.Af ?_
   refine Wp.Fp (fun LL HH OO=> ∃(i2:Int),[(1,(ptr B2 0)),(3,v3),(4,v17),(5,v8),(6,(.int .i64 (k1:Int))),(7,(ptr B3 0)),(9,(.int .i64 x5)),(13,(.int .i64 i1)),(14,(.int .i64 i2)),(33,v3),(34,(.int .i64 (x1.length:Int))),(35,(.int .i64 (k2:Int)))]=LL∧ .row v11 46 3 l4.length xs6:: .AM B3 (.cells #[(.bool x4),v11] 43 (0,0)):: .row v8 43 2 l2.length xs4:: .row v17 55 1 l6.length xs10:: .AM B2 (.cells #[v1,(.int .i64 a0.2)] 73 (0,0))::O=OO∧Ep fu l4 k2 nx2 x5 l6 i1 i2=some r) ?_ ?_
   ·
    refine Wp.cond rf (fun hb15=>?_) (fun hb15=>?_)
    ·
     obtain⟨hb15,hd⟩:=bT hb15 hd
     obtain⟨x11,hx11,hd⟩:=Ae hd
     have hx11_:=Ah hx11
     obtain⟨ha4,hd⟩:=Al hd
     refine Wp.region<|Aa.op (Ab.move rf) rf<|Aa.op (Ab.move rf) rf<|Aa.op (Ab.add rf rf (Aq (by omega))) rf ?_
     obtain⟨_,rfl,hc5⟩:=AW.get (hv2.mono (((((((hl2.trans hl3).trans hl4).trans hl5).trans hl6).trans hl7).trans hl8).trans hl9)) hx11
     refine Aa.op (Ab.Bo BF Cp rf (hv2.mono (((((((hl2.trans hl3).trans hl4).trans hl5).trans hl6).trans hl7).trans hl8).trans hl9)).sl rf (Ah hx11)) rf<|Aa.op (Ab.FJ u3 rf rf (hc5 0 _ rf)) rf<|Aa.op (Ab.sub rf rf (Aq ha4)) rf<|Aa.op (Ab.assign rf) rf<|Aa.nil ?_
     refine At.Cn (Hp.le.refl _) ⟨(x11-1),rf,rf,hd⟩ (Sub.of rf)
    obtain⟨hb15,hd⟩:=bF hb15 hd
    refine Wp.skip ?_
    refine At.Cn (Hp.le.refl _) ⟨255,rf,rf,hd⟩ (Sub.of rf)
   intro L5 H10 O5 hl10 hI5
   obtain⟨i2,rfl,rfl,hd⟩:=hI5
   unfold Ep at hd
   obtain⟨ha5,hd⟩:=Al hd
   have:=ha5
   obtain⟨ha6,hd⟩:=Al hd
   have:=ha6
   obtain⟨ha7,hd⟩:=Al hd
   refine Wp.region<|Aa.op (Ab.AV (o':=1) Bv rf rf) rf<|Aa.op (Ab.Am (i:=1) (v:=v11) CC rf rf rf rf) rf<|Aa.op (Ab.move rf) rf<|Aa.op (Ab.conv u3 u5 rf (Cm ha5)) rf<|Aa.op (Ab.move rf) rf<|Aa.op (Ab.conv u3 u5 rf (Cm ha6)) rf<|Aa.op (Ab.move rf) rf ?_
   refine Aa.op (Ab.Bi (vs:=[(0,(.int .u8 x5)),(1,(.int .u8 i2)),(2,(.int .i64 i1))]) (cs:= #[(.int .u8 x5),(.int .u8 i2),(.int .i64 i1)]) Ho BA rf rf (AJ rf (AJ rf (AJ rf (Bd)))) rf) rf<|Aa.A1 (c:=(cP AZ (cP AZ Ao))) (y:=(x5,i2,i1)) (cs:=[(.int .u8 x5),(.int .u8 i2),(.int .i64 i1)]) CC BA rf rf rf rf (⟨[(.int .u8 x5)],[(.int .u8 i2),(.int .i64 i1)],rf,⟨rf,(show(0:Int)≤x5 by omega),(show x5≤(255:Int) by omega)⟩,⟨[(.int .u8 i2)],[(.int .i64 i1)],rf,⟨rf,(show(0:Int)≤i2 by omega),(show i2≤(255:Int) by omega)⟩,rf⟩⟩) rf fun v20 xs13 hq13=>Aa.Df (i:=1) (j:=0) (hq6.mono ((((hl6.trans hl7).trans hl8).trans hl9).trans hl10)) hq13 CC BA rf (by decide) rf rf rf rf (by decide) ha7 rf fun v21 xs14 hq14=>Aa.drop (i:=0)<|Aa.op (Ab.AV (o':=1) Bv rf rf) rf<|Aa.Bm (i:=0) rf fun ho1=>Aa.Cc (i:=1) rf rf ho1 Mg rf (Nat.le_of_ble_eq_true rf) ?_
   refine Aa.own (O:=_::_::_::_::_::_) ?_ rf
   refine Aa.nil<|At.AE<|At.Ad<|Wp.region<|Aa.op (Ab.add rf rf (Aq (by omega))) rf<|Aa.op (Ab.move rf) rf<|Aa.nil ?_
   refine At.AO ((((hl6.trans hl7).trans hl8).trans hl9).trans hl10) ⟨l6,(l4++([(x5,i2,i1)]:List (Int×Int×Int))),(k2+1),v17,xs10,v21,xs14,rf,rf,(by rw[←hn2];exact hd),(hq12.mono hl10),hq14⟩ (Sub.of rf)
  obtain⟨hb5,hd⟩:=bF hb5 hd
  refine Wp.exit<|At.An<|At.An<|At.Az<|At.Ad ?_
  obtain⟨ha8,hd⟩:=Al hd
  refine Wp.region<|Aa.op (Ab.move rf) rf<|Aa.op (Ab.AF (i:=1) NA rf Bl rf rf rf) rf ?_
  refine Aa.A7 (i:=0) rf fun hb16=>?_
  refine Aa.freeze (i:=0) rf fun H11 hl11 hs3=>?_
  have hv9:=AW.of (c:=(cP AZ (cP AZ Ao))) hs3 rfl (hq6.mono hl11) hb16
  refine Aa.A1 (c:=(cP cB (cL (cP AZ (cP AZ Ao))))) (y:=(x4,l4)) (cs:=[(.bool x4),v11]) CG Bl rf rf rf rf (⟨[(.bool x4)],[v11],rf,rf,⟨_,rf,hv9⟩⟩) rf fun v22 xs15 hq15=>Aa.Df (i:=2) (j:=0) (hq4.mono (hl5.trans hl11)) hq15 CG Bl rf (by decide) rf rf rf rf (by decide) ha8 rf fun v23 xs16 hq16=>Aa.drop (i:=0)<|Aa.op (Ab.assign rf) rf<|Aa.nil<|At.AE<|At.Ad<|Wp.region ?_
  refine Aa.op (Ab.move rf) rf<|Aa.op (Ab.add rf rf (Aq (by omega))) rf<|Aa.op (Ab.assign rf) rf<|Aa.nil<|At.AR [1,2,3] 4 rf rf rf ?_
  refine At.AO (hl5.trans hl11) ⟨l3,(l2++([(x4,l4)]:List (Bool×(List (Int×Int×Int))))),(k1+1),v10,xs5,v23,xs16,rf,rf,(by rw[←hn1];exact hd),(hq5.mono hl11),hq16⟩ (Sub.of rf)
 obtain⟨hb3,hd⟩:=bF hb3 hd
 refine Wp.exit<|At.An<|At.An<|At.Az<|At.Ad<|Wp.sr<|Aa.op (Ab.move rf) rf<|Aa.op (Ab.assign rf) rf ?_
 refine Aa.Af<|Wp.ret ?_
 refine At.A7 (i:=0) rf fun hb17=>?_
 refine At.freeze (i:=0) rf fun H12 hl12 hs4=>?_
 have hv10:=AW.of (c:=(cP cB (cL (cP AZ (cP AZ Ao))))) hs4 rfl (hq4.mono hl12) hb17
 obtain rfl:=si hd
 exact At.DB rf (RV.tmp (v:=v8) rf) (fun w hs=>⟨_,_,_,rf,((((hl1.trans hl2).trans hl3).trans hl4).trans hl12),(hs.Cg 2),⟨⟨v8,rf,hv10⟩,rf⟩⟩)
theorem Rf{fu:Nat}{a0:(List (Int×Int×AD×Bool))×Int}{v1:Value}{r:Bool}(hv1:AW (cP Ao (cP Ao (cP IG cB))) H a0.1 v1)(hd:Ja fu a0=some r):
    Ca Tryz.prog 42 [(.agg #[v1,(.int .i64 a0.2)])] H O (.bool r):=by
 intro w hs
 refine Bz Tryz.func42 rf rf rf ?_ hs
 clear hs w
 unfold Ja at hd
 refine Wp.sr<|Aa.box (cs:= #[v1,(.int .i64 a0.2)]) rf rf rf fun B2=>Aa.op (Ab.assign rf) rf<|Aa.Af<|Wp.seq ?_
 obtain⟨x1,hx1,hd⟩:=Ae hd
 refine Wp.region<|Aa.op (Ab.AF (i:=0) Nc rf Ez rf rf rf) rf<|Aa.E8 (BC.call W5 rf (JJ hv1 hx1)) rf ?_
 rintro _ H1 _ hl1 ⟨⟨v2,rfl,hv2⟩,rfl⟩
 refine Aa.op (Ab.assign rf) rf<|Aa.Af<|Wp.sr<|Aa.A1 (c:=(cL Ao)) (y:=([]:List Int)) (cs:=[(.slice none 0 0)]) Ey Dx rf rf rf (DZ rf) (⟨_,rf,AW.nil⟩) rf fun v3 xs1 hq1=>Aa.op (Ab.assign rf) rf<|Aa.Af<|Wp.seq<|Wp.sr ?_
 refine Aa.op (Ab.assign rf) rf<|Aa.Af<|Wp.block<|Wp.A_ (fun m LL HH OO=> ∃(l1:List (List Int)),∃(k1:Nat),∃(v4:Value),∃(xs2:List Value),[(1,(ptr B2 0)),(3,v2),(4,v4),(5,(.int .i64 (k1:Int)))]=LL∧ .row v4 55 1 l1.length xs2:: .AM B2 (.cells #[v1,(.int .i64 a0.2)] 73 (0,0))::O=OO∧Ax m (fun p nx=>Gz fu a0 x1 p.1 p.2 nx) (l1,k1)=some r∧Au (cL Ao) HH l1 xs2) fu ⟨([([]:List Int)]:List (List Int)),0,v3,xs1,rf,rf,hd,hq1⟩ (Sub.of rf) ?_
 intro m1 L1 H2 O1 hl2 hI1
 obtain⟨l1,k1,v4,xs2,rfl,rfl,hd,hq2⟩:=hI1
 obtain⟨m2,nx1,rfl,hn1,hd⟩:=A9 hd
 replace hd:Gz fu a0 x1 l1 k1 nx1=some r:=hd
 unfold Gz at hd
 refine Wp.seq<|Wp.sr<|Aa.op (Ab.move rf) rf<|Aa.op (Ab.move rf) rf ?_
 refine Aa.A7 (i:=0) rf fun hb1=>?_
 refine Aa.op (Ab.BR (i:=0) Ey rf rf) rf<|Aa.op (Ab.lss rf rf) rf<|Aa.Af ?_
 refine Wp.cond rf (fun hb2=>?_) (fun hb2=>?_)
 ·
  obtain⟨hb2,hd⟩:=bT hb2 hd
  refine Wp.skip<|At.Ad<|Wp.seq<|Wp.block<|Wp.sr<|Aa.op (Ab.assign rf) rf<|Aa.Af<|Wp.seq ?_
  refine Wp.sr<|Aa.op (Ab.move rf) rf<|Aa.op (Ab.eql rf rf) rf<|Aa.Af ?_
  refine Wp.Fp (fun LL HH OO=> ∃(l2:List Int),∃(v5:Value),∃(xs3:List Value),[(1,(ptr B2 0)),(3,v2),(4,v4),(5,(.int .i64 (k1:Int))),(6,v5)]=LL∧ .row v5 3 1 l2.length xs3:: .row v4 55 1 l1.length xs2:: .AM B2 (.cells #[v1,(.int .i64 a0.2)] 73 (0,0))::O=OO∧EG fu a0 x1 l1 k1 nx1 l2=some r∧Au Ao HH l2 xs3) ?_ ?_
  ·
   refine Wp.cond rf (fun hb3=>?_) (fun hb3=>?_)
   ·
    obtain⟨hb3,hd⟩:=bT hb3 hd
    obtain⟨ha1,hd⟩:=Al hd
    refine Wp.region<|Aa.op (Ab.move rf) rf<|Aa.A1 (c:=Ao) (y:=0) (cs:=[(.int .i64 0)]) BF Cp rf rf rf rf (rf) rf fun v6 xs4 hq3=>Aa.BG 3 1<|Aa.Df (i:=0) (j:=1) (Au.nil (c:=Ao) (H:=H2)) hq3 BF Cp rf (by decide) rf rf rf rf (by decide) ha1 rf fun v7 xs5 hq4=>Aa.drop (i:=1)<|Aa.op (Ab.assign rf) rf<|Aa.nil ?_
    refine At.Cn (Hp.le.refl _) ⟨(([]:List Int)++([0]:List Int)),v7,xs5,rf,rf,hd,hq4⟩ (Sub.of rf)
   obtain⟨hb3,hd⟩:=bF hb3 hd
   refine Wp.skip<|At.BG 3 1 ?_
   refine At.Cn (Hp.le.refl _) ⟨([]:List Int),(.slice none 0 0),[],rf,rf,hd,(Au.nil (c:=Ao) (H:=H2))⟩ (Sub.of rf)
  intro L2 H3 O2 hl3 hI2
  obtain⟨l2,v5,xs3,rfl,rfl,hd,hq5⟩:=hI2
  unfold EG at hd
  refine Wp.seq<|Wp.seq ?_
  obtain⟨x2,hx2,hd⟩:=Ae hd
  have hx2_:=Ah hx2
  refine Wp.region<|Aa.op (Ab.move rf) rf<|Aa.op (Ab.move rf) rf ?_
  obtain⟨_,⟨v8,rfl,hv3⟩,hc1,hc1_⟩:=Au.get (hq2.mono hl3) (AG hx2).2
  refine Aa.op (Ab.Bu (j:=1) Ey Dx rf rf rf (Ah hx2)) rf<|Aa.op (Ab.Ch (i:=1) (k:=k1*1+0) BF rf rf rf (hc1 0 _ rf)) rf ?_
  have hb4:=hv3.le
  refine Aa.op (Ab.len BF rf hv3.sl) rf<|Aa.op (Ab.move rf) rf<|Aa.Af<|Wp.block<|Wp.A_ (fun m LL HH OO=> ∃(l3:List Int),∃(k2:Nat),∃(v9:Value),∃(xs6:List Value),[(1,(ptr B2 0)),(3,v2),(4,v4),(5,(.int .i64 (k1:Int))),(6,v9),(31,v8),(32,(.int .i64 (x2.length:Int))),(33,(.int .i64 (k2:Int)))]=LL∧ .row v9 3 1 l3.length xs6:: .row v4 55 1 l1.length xs2:: .AM B2 (.cells #[v1,(.int .i64 a0.2)] 73 (0,0))::O=OO∧Ax m (fun p nx=>EH fu a0 x1 l1 k1 nx1 x2 p.1 p.2 nx) (l3,k2)=some r∧Au Ao HH l3 xs6) fu ⟨l2,0,v5,xs3,rf,rf,hd,hq5⟩ (Sub.of rf) ?_
  intro m3 L3 H4 O3 hl4 hI3
  obtain⟨l3,k2,v9,xs6,rfl,rfl,hd,hq6⟩:=hI3
  obtain⟨m4,nx2,rfl,hn2,hd⟩:=A9 hd
  replace hd:EH fu a0 x1 l1 k1 nx1 x2 l3 k2 nx2=some r:=hd
  unfold EH at hd
  refine Wp.sr<|Aa.op (Ab.lss rf rf) rf<|Aa.Af<|Wp.seq ?_
  refine Wp.cond rf (fun hb5=>?_) (fun hb5=>?_)
  ·
   obtain⟨hb5,hd⟩:=bT hb5 hd
   refine Wp.skip<|At.Ad<|Wp.seq<|Wp.block<|Wp.seq ?_
   obtain⟨x3,hx3,hd⟩:=Ae hd
   have hx3_:=Ah hx3
   refine Wp.region ?_
   obtain⟨_,rfl,hc2⟩:=AW.get (hv3.mono hl4) hx3
   refine Aa.op (Ab.Bo BF Cp rf (hv3.mono hl4).sl rf (Ah hx3)) rf<|Aa.op (Ab.FJ u3 rf rf (hc2 0 _ rf)) rf<|Aa.op (Ab.assign rf) rf<|Aa.Af ?_
   obtain⟨x4,hx4,hd⟩:=Ae hd
   have hx4_:=Ah hx4
   obtain⟨ha2,hd⟩:=Al hd
   refine Wp.region<|Aa.op (Ab.move rf) rf<|Aa.op (Ab.AV (o':=0) Gb rf rf) rf<|Aa.op (Ab.Am (i:=2) (v:=v1) Lr rf rf rf rf) rf<|Aa.op (Ab.move rf) rf ?_
   obtain⟨_,⟨_,_,rfl,rfl,⟨_,_,rfl,rfl,⟨_,_,rfl,rfl,rfl⟩⟩⟩,hc3⟩:=AW.get (hv1.mono (((hl1.trans hl2).trans hl3).trans hl4)) hx4
   refine Aa.op (Ab.Bo Lr Dy rf (hv1.mono (((hl1.trans hl2).trans hl3).trans hl4)).sl rf (Ah hx4)) rf<|Aa.op (Ab.Nr L_ rf (hv1.mono (((hl1.trans hl2).trans hl3).trans hl4)).sl (by omega)) rf<|Aa.op (Ab.FJ u3 rf rf (hc3 1 _ rf)) rf<|Aa.A1 (c:=Ao) (y:=x4.2.1) (cs:=[(.int .i64 x4.2.1)]) BF Cp rf rf rf rf (rf) rf fun v10 xs7 hq7=>Aa.Df (i:=1) (j:=0) hq6 hq7 BF Cp rf (by decide) rf rf rf rf (by decide) ha2 rf fun v11 xs8 hq8=>Aa.drop (i:=0)<|Aa.op (Ab.assign rf) rf<|Aa.nil ?_
   refine At.AE<|At.Ad<|Wp.region<|Aa.op (Ab.add rf rf (Aq (by omega))) rf<|Aa.op (Ab.move rf) rf<|Aa.nil ?_
   refine At.AO (Hp.le.refl _) ⟨(l3++([x4.2.1]:List Int)),(k2+1),v11,xs8,rf,rf,(by rw[←hn2];exact hd),hq8⟩ (Sub.of rf)
  obtain⟨hb5,hd⟩:=bF hb5 hd
  refine Wp.exit<|At.An<|At.An<|At.Az<|At.Ad<|Wp.seq ?_
  obtain⟨x5,hx5,hd⟩:=Ae hd
  refine Wp.region<|Aa.op (Ab.AF (i:=2) Nc rf Ez rf rf rf) rf<|Aa.op (Ab.move rf) rf ?_
  refine Aa.A7 (i:=0) rf fun hb6=>?_
  refine Aa.freeze (i:=0) rf fun H5 hl5 hs1=>?_
  have hv4:=AW.of (c:=Ao) hs1 rfl (hq6.mono hl5) hb6
  refine Aa.E8 (BC.call UU rf (HQ (hv1.mono ((((hl1.trans hl2).trans hl3).trans hl4).trans hl5)) hv4 hx5)) rf ?_
  rintro _ H6 _ hl6 ⟨⟨v12,rfl,hv5⟩,rfl⟩
  refine Aa.op (Ab.assign rf) rf<|Aa.Af<|Wp.sr<|Aa.op (Ab.move rf) rf ?_
  have hb7:=hv2.le
  refine Aa.op (Ab.len BF rf (hv2.mono ((((hl2.trans hl3).trans hl4).trans hl5).trans hl6)).sl) rf<|Aa.op (Ab.move rf) rf<|Aa.Af<|Wp.block<|Wp.A_ (fun m LL HH OO=> ∃(l4:List (List Int)),∃(k3:Nat),∃(v13:Value),∃(xs9:List Value),[(1,(ptr B2 0)),(3,v2),(4,v13),(5,(.int .i64 (k1:Int))),(6,v12),(50,v2),(51,(.int .i64 (x1.length:Int))),(52,(.int .i64 (k3:Int)))]=LL∧ .row v13 55 1 l4.length xs9:: .AM B2 (.cells #[v1,(.int .i64 a0.2)] 73 (0,0))::O=OO∧Ax m (fun p nx=>Ec fu a0 x1 k1 nx1 x5 p.1 p.2 nx) (l4,k3)=some r∧Au (cL Ao) HH l4 xs9) fu ⟨l1,0,v4,xs2,rf,rf,hd,(hq2.mono (((hl3.trans hl4).trans hl5).trans hl6))⟩ (Sub.of rf) ?_
  intro m5 L4 H7 O4 hl7 hI4
  obtain⟨l4,k3,v13,xs9,rfl,rfl,hd,hq9⟩:=hI4
  obtain⟨m6,nx3,rfl,hn3,hd⟩:=A9 hd
  replace hd:Ec fu a0 x1 k1 nx1 x5 l4 k3 nx3=some r:=hd
  unfold Ec at hd
  refine Wp.sr<|Aa.op (Ab.lss rf rf) rf<|Aa.Af<|Wp.seq ?_
  refine Wp.cond rf (fun hb8=>?_) (fun hb8=>?_)
  ·
   obtain⟨hb8,hd⟩:=bT hb8 hd
   refine Wp.skip<|At.Ad<|Wp.seq<|Wp.block<|Wp.seq ?_
   obtain⟨x6,hx6,hd⟩:=Ae hd
   have hx6_:=Ah hx6
   refine Wp.region ?_
   obtain⟨_,rfl,hc4⟩:=AW.get (hv2.mono (((((hl2.trans hl3).trans hl4).trans hl5).trans hl6).trans hl7)) hx6
   refine Aa.op (Ab.Bo BF Cp rf (hv2.mono (((((hl2.trans hl3).trans hl4).trans hl5).trans hl6).trans hl7)).sl rf (Ah hx6)) rf<|Aa.op (Ab.FJ u3 rf rf (hc4 0 _ rf)) rf<|Aa.op (Ab.assign rf) rf<|Aa.Af<|Wp.sr<|Aa.op (Ab.assign rf) rf<|Aa.Af<|Wp.seq ?_
   refine Wp.sr<|Aa.op (Ab.AV (o':=0) Gb rf rf) rf<|Aa.op (Ab.Am (i:=1) (v:=v1) Lr rf rf rf rf) rf ?_
   have hb9:=hv1.le
   refine Aa.op (Ab.len Lr rf (hv1.mono ((((((hl1.trans hl2).trans hl3).trans hl4).trans hl5).trans hl6).trans hl7)).sl) rf<|Aa.op (Ab.move rf) rf<|Aa.Af<|Wp.block<|Wp.BG 3 1<|Wp.A_ (fun m LL HH OO=> ∃(l5:List Int),∃(k4:Nat),∃(v14:Value),∃(xs10:List Value),[(1,(ptr B2 0)),(3,v2),(4,v13),(5,(.int .i64 (k1:Int))),(6,v12),(10,(.int .i64 x6)),(11,v14),(50,v2),(51,(.int .i64 (x1.length:Int))),(52,(.int .i64 (k3:Int))),(57,v1),(58,(.int .i64 (a0.1.length:Int))),(59,(.int .i64 (k4:Int)))]=LL∧ .row v14 3 1 l5.length xs10:: .row v13 55 1 l4.length xs9:: .AM B2 (.cells #[v1,(.int .i64 a0.2)] 73 (0,0))::O=OO∧Ax m (fun p nx=>Eb fu a0 x5 l4 k3 nx3 x6 p.1 p.2 nx) (l5,k4)=some r∧Au Ao HH l5 xs10) fu ⟨([]:List Int),0,(.slice none 0 0),[],rf,rf,hd,(Au.nil (c:=Ao) (H:=H7))⟩ (Sub.of rf) ?_
   intro m7 L5 H8 O5 hl8 hI5
   obtain⟨l5,k4,v14,xs10,rfl,rfl,hd,hq10⟩:=hI5
   obtain⟨m8,nx4,rfl,hn4,hd⟩:=A9 hd
   replace hd:Eb fu a0 x5 l4 k3 nx3 x6 l5 k4 nx4=some r:=hd
   unfold Eb at hd
   refine Wp.sr<|Aa.op (Ab.lss rf rf) rf<|Aa.Af<|Wp.seq ?_
   refine Wp.cond rf (fun hb10=>?_) (fun hb10=>?_)
   ·
    obtain⟨hb10,hd⟩:=bT hb10 hd
    refine Wp.skip<|At.Ad<|Wp.seq<|Wp.block<|Wp.seq ?_
    obtain⟨x7,hx7,hd⟩:=Ae hd
    have hx7_:=Ah hx7
    refine Wp.region<|Aa.op (Ab.move rf) rf ?_
    obtain⟨_,⟨_,_,rfl,rfl,⟨_,_,rfl,rfl,⟨_,_,rfl,rfl,rfl⟩⟩⟩,hc5⟩:=AW.get (hv1.mono (((((((hl1.trans hl2).trans hl3).trans hl4).trans hl5).trans hl6).trans hl7).trans hl8)) hx7
    refine Aa.op (Ab.Bo Lr Dy rf (hv1.mono (((((((hl1.trans hl2).trans hl3).trans hl4).trans hl5).trans hl6).trans hl7).trans hl8)).sl rf (Ah hx7)) rf<|Aa.op (Ab.C9 (vs:=[(.int .i64 x7.1),(.int .i64 x7.2.1),(Ak (word x7.2.2.1 0)),(Ak (word x7.2.2.1 1)),(Ak (word x7.2.2.1 2)),(Ak (word x7.2.2.1 3)),(.bool x7.2.2.2)]) VG rf Dy rf rf (fun j u hj=>(hc5 j u hj))) rf<|Aa.alloc (cs:= #[(.int .i64 0),(.int .i64 0),(Ak (word (fun _=>false) 0)),(Ak (word (fun _=>false) 1)),(Ak (word (fun _=>false) 2)),(Ak (word (fun _=>false) 3)),(.bool false)]) Dy (by simp only[zw];rfl) rf fun B3=>Aa.op (Ab.assign rf) rf<|Aa.AP (i:=0) (cs':= #[(.int .i64 x7.1),(.int .i64 x7.2.1),(Ak (word x7.2.2.1 0)),(Ak (word x7.2.2.1 1)),(Ak (word x7.2.2.1 2)),(Ak (word x7.2.2.1 3)),(.bool x7.2.2.2)]) rf rf Dy rf rf (Bc (Ac rf (Ac rf (Ac rf (Ac rf (Ac rf (Ac rf (Ac rf (As))))))))) rf ?_
    refine Aa.own (O:=_::_::_::_::_) ?_ rf
    refine Aa.Af<|Wp.seq ?_
    rcases Bool.eq_false_or_eq_true (!x7.2.2.2)with hg1|hg1
    ·
     replace hd:=Fs hg1 hd
     obtain⟨x8,hx8,hd⟩:=Ae hd
     rcases Bool.eq_false_or_eq_true (x8)with hg2|hg2
     ·
      replace hd:=Fs hg2 hd
      obtain⟨ha3,hd⟩:=Al hd
      have:=ha3
      refine Wp.region<|Aa.op (Ab.AV (o':=6) G_ rf rf) rf<|Aa.op (Ab.Am (i:=0) (v:=(.bool x7.2.2.2)) u4 rf rf rf rf) rf<|Aa.op (Ab.Bg (b:= !x7.2.2.2) (c:=true) (Ab.not rf) hg1) rf<|Aa.op (Ab.move rf) rf<|Aa.Ay rf rf (Ab.move rf) rf<|Aa.Ay rf rf (Ab.AV (o':=0) Jy rf rf) rf<|Aa.Ay rf rf (Ab.Am (i:=0) (v:=(.int .i64 x7.1)) u3 rf rf rf rf) rf ?_
      refine Aa.Ay rf rf (Ab.Bg (b:=x8) (c:=true) (Ab.call QA rf (Ii (hv5.mono (hl7.trans hl8)) hx8)) hg2) rf<|Aa.op (Ab.AK rf rf) rf<|Aa.op (Ab.move rf) rf<|Aa.Ay rf rf (Ab.AV (o':=2) L9 rf rf) rf<|Aa.Ay rf rf (Ab.GS (i:=0) (vs:=[(Ak (word x7.2.2.1 0)),(Ak (word x7.2.2.1 1)),(Ak (word x7.2.2.1 2)),(Ak (word x7.2.2.1 3))]) LS rf BJ rf rf rf) rf<|Aa.Ay rf rf (Ab.move rf) rf<|Aa.Ay rf rf (Ab.conv u3 u5 rf (Cm ha3)) rf<|Aa.Ay rf rf (Ab.call Sm rf (@OE _ _ x7.2.2.1 x6 (by omega) (by omega))) rf ?_
      refine Aa.op (Ab.AK rf rf) rf<|Aa.Af ?_
      refine Wp.cond rf (fun hb11=>?_) (fun hb11=>?_)
      ·
       replace hd:=Fs hb11 hd
       obtain⟨ha4,hd⟩:=Al hd
       refine Wp.region<|Aa.op (Ab.move rf) rf<|Aa.op (Ab.move rf) rf<|Aa.A1 (c:=Ao) (y:=(k4:Int)) (cs:=[(.int .i64 (k4:Int))]) BF Cp rf rf rf rf (rf) rf fun v15 xs11 hq11=>Aa.Df (i:=2) (j:=0) hq10 hq11 BF Cp rf (by decide) rf rf rf rf (by decide) ha4 rf fun v16 xs12 hq12=>Aa.drop (i:=0)<|Aa.op (Ab.assign rf) rf<|Aa.nil ?_
       refine At.AE<|At.Ad<|Wp.region<|Aa.op (Ab.add rf rf (Aq (by omega))) rf<|Aa.op (Ab.move rf) rf<|Aa.nil<|At.AR [1,2,3] 4 rf rf rf ?_
       refine At.AO (Hp.le.refl _) ⟨(l5++([(k4:Int)]:List Int)),(k4+1),v16,xs12,rf,rf,(by rw[←hn4];exact hd),hq12⟩ (Sub.of rf)
      replace hd:=Ft hb11 hd
      refine Wp.skip<|At.AE<|At.Ad<|Wp.region<|Aa.op (Ab.add rf rf (Aq (by omega))) rf<|Aa.op (Ab.move rf) rf<|Aa.nil<|At.AR [1,2,3] 4 rf rf rf ?_
      refine At.AO (Hp.le.refl _) ⟨l5,(k4+1),v14,xs10,rf,rf,(by rw[←hn4];exact hd),hq10⟩ (Sub.of rf)
     replace hd:=Ft hg2 hd
     refine Wp.region<|Aa.op (Ab.AV (o':=6) G_ rf rf) rf<|Aa.op (Ab.Am (i:=0) (v:=(.bool x7.2.2.2)) u4 rf rf rf rf) rf<|Aa.op (Ab.Bg (b:= !x7.2.2.2) (c:=true) (Ab.not rf) hg1) rf<|Aa.op (Ab.move rf) rf<|Aa.Ay rf rf (Ab.move rf) rf<|Aa.Ay rf rf (Ab.AV (o':=0) Jy rf rf) rf<|Aa.Ay rf rf (Ab.Am (i:=0) (v:=(.int .i64 x7.1)) u3 rf rf rf rf) rf ?_
     refine Aa.Ay rf rf (Ab.Bg (b:=x8) (c:=false) (Ab.call QA rf (Ii (hv5.mono (hl7.trans hl8)) hx8)) hg2) rf<|Aa.op (Ab.AK rf rf) rf<|Aa.op (Ab.move rf) rf<|Aa.Ai rf rf rf rf<|Aa.Ai rf rf rf rf<|Aa.Ai rf rf rf rf<|Aa.Ai rf rf rf rf<|Aa.Ai rf rf rf rf ?_
     refine Aa.op (Ab.AA rf rf) rf<|Aa.Af<|Wp.C2 rf<|Wp.skip<|At.AE<|At.Ad<|Wp.region<|Aa.op (Ab.add rf rf (Aq (by omega))) rf ?_
     refine Aa.op (Ab.move rf) rf<|Aa.nil<|At.AR [1,2,3] 4 rf rf rf ?_
     refine At.AO (Hp.le.refl _) ⟨l5,(k4+1),v14,xs10,rf,rf,(by rw[←hn4];exact hd),hq10⟩ (Sub.of rf)
    replace hd:=Ft hg1 hd
    refine Wp.region<|Aa.op (Ab.AV (o':=6) G_ rf rf) rf<|Aa.op (Ab.Am (i:=0) (v:=(.bool x7.2.2.2)) u4 rf rf rf rf) rf<|Aa.op (Ab.Bg (b:= !x7.2.2.2) (c:=false) (Ab.not rf) hg1) rf<|Aa.op (Ab.move rf) rf<|Aa.Ai rf rf rf rf<|Aa.Ai rf rf rf rf<|Aa.Ai rf rf rf rf ?_
    refine Aa.Ai rf rf rf rf<|Aa.op (Ab.AA rf rf) rf<|Aa.op (Ab.move rf) rf<|Aa.Ai rf rf rf rf<|Aa.Ai rf rf rf rf<|Aa.Ai rf rf rf rf<|Aa.Ai rf rf rf rf<|Aa.Ai rf rf rf rf ?_
    refine Aa.op (Ab.AA rf rf) rf<|Aa.Af<|Wp.C2 rf<|Wp.skip<|At.AE<|At.Ad<|Wp.region<|Aa.op (Ab.add rf rf (Aq (by omega))) rf ?_
    refine Aa.op (Ab.move rf) rf<|Aa.nil<|At.AR [1,2,3] 4 rf rf rf ?_
    refine At.AO (Hp.le.refl _) ⟨l5,(k4+1),v14,xs10,rf,rf,(by rw[←hn4];exact hd),hq10⟩ (Sub.of rf)
   obtain⟨hb10,hd⟩:=bF hb10 hd
   refine Wp.exit<|At.An<|At.An<|At.Az<|At.Ad<|Wp.seq<|Wp.seq ?_
   rcases Bool.eq_false_or_eq_true (decide (0<(l5.length:Int)))with hg3|hg3
   ·
    obtain⟨hg3_,hd⟩:=bT hg3 hd
    obtain⟨x9,hx9,hd⟩:=Ae hd
    refine Wp.region<|Aa.op (Ab.move rf) rf ?_
    refine Aa.A7 (i:=0) rf fun hb12=>?_
    refine Aa.op (Ab.BR (i:=0) BF rf rf) rf<|Aa.op (Ab.Bg (b:=decide (0<(l5.length:Int))) (c:=true) (Ab.gtr rf rf) hg3) rf<|Aa.op (Ab.move rf) rf<|Aa.Ay rf rf (Ab.move rf) rf<|Aa.Ay rf rf (Ab.move rf) rf<|Aa.Ay rf rf (Ab.call UY rf (Ca.Lh (c:=(cL Ao)) 1 rf (hq9.mono hl8) (fun _ e1 d1=>Ca.Lh (c:=Ao) 0 rf (hq10.mono e1) (fun _ e2 d2=>JX (d1.mono e2) d2 hx9)))) rf<|Aa.Ay rf rf (Ab.lss rf rf) rf<|Aa.op (Ab.AK rf rf) rf ?_
    refine Aa.Af ?_
    refine Wp.Fp (fun LL HH OO=> ∃(l6:List (List Int)),∃(v17:Value),∃(xs13:List Value),[(1,(ptr B2 0)),(3,v2),(4,v17),(5,(.int .i64 (k1:Int))),(6,v12),(50,v2),(51,(.int .i64 (x1.length:Int))),(52,(.int .i64 (k3:Int)))]=LL∧ .row v17 55 1 l6.length xs13:: .AM B2 (.cells #[v1,(.int .i64 a0.2)] 73 (0,0))::O=OO∧EF fu k3 nx3 l6=some r∧Au (cL Ao) HH l6 xs13) ?_ ?_
    ·
     refine Wp.cond rf (fun hb13=>?_) (fun hb13=>?_)
     ·
      obtain⟨hb13,hd⟩:=bT hb13 hd
      obtain⟨ha5,hd⟩:=Al hd
      refine Wp.region<|Aa.op (Ab.move rf) rf<|Aa.op (Ab.move rf) rf ?_
      refine Aa.A7 (i:=0) rf fun hb14=>?_
      refine Aa.freeze (i:=0) rf fun H9 hl9 hs2=>?_
      have hv6:=AW.of (c:=Ao) hs2 rfl (hq10.mono hl9) hb14
      refine Aa.A1 (c:=(cL Ao)) (y:=l5) (cs:=[v14]) Ey Dx rf rf rf (DZ hv6.one) (⟨_,rf,hv6⟩) rf fun v18 xs14 hq13=>Aa.Df (i:=1) (j:=0) (hq9.mono (hl8.trans hl9)) hq13 Ey Dx rf (by decide) rf rf rf rf (by decide) ha5 rf fun v19 xs15 hq14=>Aa.drop (i:=0)<|Aa.op (Ab.assign rf) rf<|Aa.nil ?_
      refine At.Cn hl9 ⟨(l4++([l5]:List (List Int))),v19,xs15,rf,rf,hd,hq14⟩ (Sub.of rf)
     obtain⟨hb13,hd⟩:=bF hb13 hd
     refine Wp.skip<|At.AR [1,2] 3 rf rf rf ?_
     refine At.Cn (Hp.le.refl _) ⟨l4,v13,xs9,rf,rf,hd,(hq9.mono hl8)⟩ (Sub.of rf)
    intro L6 H10 O6 hl10 hI6
    obtain⟨l6,v17,xs13,rfl,rfl,hd,hq15⟩:=hI6
    unfold EF at hd
    refine Wp.sr<|Aa.op (Ab.move rf) rf ?_
    refine Aa.A7 (i:=0) rf fun hb15=>?_
    refine Aa.op (Ab.BR (i:=0) Ey rf rf) rf<|Aa.op (Ab.gtr rf rf) rf<|Aa.Af ?_
    refine Wp.cond rf (fun hb16=>?_) (fun hb16=>?_)
    ·
     obtain⟨hb16,hd⟩:=bT hb16 hd
     refine Wp.sr<|Aa.op (Ab.assign rf) rf<|Aa.Af<|Wp.ret<|At.Be<|At.Av<|At.Av<|At.Be ?_
     refine At.Be<|At.Av<|At.Av<|At.Be<|At.Av ?_
     obtain rfl:=si hd
     exact At.q1 2 ((((((((hl1.trans hl2).trans hl3).trans hl4).trans hl5).trans hl6).trans hl7).trans hl8).trans hl10) rf (RV.tmp rf) rf
    obtain⟨hb16,hd⟩:=bF hb16 hd
    refine Wp.skip<|At.AE<|At.Ad<|Wp.region<|Aa.op (Ab.add rf rf (Aq (by omega))) rf<|Aa.op (Ab.move rf) rf<|Aa.nil ?_
    refine At.AO (hl8.trans hl10) ⟨l6,(k3+1),v17,xs13,rf,rf,(by rw[←hn3];exact hd),hq15⟩ (Sub.of rf)
   obtain⟨hg3_,hd⟩:=bF hg3 hd
   refine Wp.region<|Aa.op (Ab.move rf) rf ?_
   refine Aa.A7 (i:=0) rf fun hb12=>?_
   refine Aa.op (Ab.BR (i:=0) BF rf rf) rf<|Aa.op (Ab.Bg (b:=decide (0<(l5.length:Int))) (c:=false) (Ab.gtr rf rf) hg3) rf<|Aa.op (Ab.move rf) rf<|Aa.Ai rf rf rf rf<|Aa.Ai rf rf rf rf<|Aa.Ai rf rf rf rf<|Aa.Ai rf rf rf rf<|Aa.op (Ab.AA rf rf) rf ?_
   refine Aa.Af<|Wp.C2 rf<|Wp.skip<|At.Ad<|Wp.sr<|Aa.op (Ab.move rf) rf ?_
   refine Aa.A7 (i:=1) rf fun hb17=>?_
   refine Aa.op (Ab.BR (i:=1) Ey rf rf) rf<|Aa.op (Ab.gtr rf rf) rf<|Aa.Af ?_
   refine Wp.cond rf (fun hb18=>?_) (fun hb18=>?_)
   ·
    obtain⟨hb18,hd⟩:=bT hb18 hd
    refine Wp.sr<|Aa.op (Ab.assign rf) rf<|Aa.Af<|Wp.ret<|At.Be<|At.Av<|At.Av<|At.Be ?_
    refine At.Be<|At.Av<|At.Av<|At.Be<|At.Av ?_
    obtain rfl:=si hd
    exact At.q1 3 (((((((hl1.trans hl2).trans hl3).trans hl4).trans hl5).trans hl6).trans hl7).trans hl8) rf (RV.tmp rf) rf
   obtain⟨hb18,hd⟩:=bF hb18 hd
   refine Wp.skip<|At.AE<|At.Ad<|Wp.region<|Aa.op (Ab.add rf rf (Aq (by omega))) rf<|Aa.op (Ab.move rf) rf<|Aa.nil<|At.AR [1,2] 3 rf rf rf ?_
   refine At.AO hl8 ⟨l4,(k3+1),v13,xs9,rf,rf,(by rw[←hn3];exact hd),(hq9.mono hl8)⟩ (Sub.of rf)
  obtain⟨hb8,hd⟩:=bF hb8 hd
  refine Wp.exit<|At.An<|At.An<|At.Az<|At.AE<|At.Ad<|Wp.region<|Aa.op (Ab.move rf) rf ?_
  refine Aa.op (Ab.add rf rf (Aq (by omega))) rf<|Aa.op (Ab.assign rf) rf<|Aa.nil ?_
  refine At.AO ((((hl3.trans hl4).trans hl5).trans hl6).trans hl7) ⟨l4,(k1+1),v13,xs9,rf,rf,(by rw[←hn1];exact hd),hq9⟩ (Sub.of rf)
 obtain⟨hb2,hd⟩:=bF hb2 hd
 refine Wp.exit<|At.An<|At.An<|At.Az<|At.Ad<|Wp.sr<|Aa.op (Ab.assign rf) rf<|Aa.Af ?_
 refine Wp.ret ?_
 obtain rfl:=si hd
 exact At.q1 2 (hl1.trans hl2) rf (RV.tmp rf) rf
theorem T4{fu:Nat}{a0:Rx}{v1:Value}{r:(List (Bool×(List (Int×Int×Int))))×Int}(hv1:AW Kc H a0.AL v1)(hd:JY fu a0=some r):
   ED Tryz.prog 15 [(.agg #[(.int .i64 a0.kind),(Ak (word a0.set 0)),(Ak (word a0.set 1)),(Ak (word a0.set 2)),(Ak (word a0.set 3)),v1])] H O (fun v H' O'=>(∃v2:Value,(.tuple #[(.agg #[v2]),(.int .i64 r.2)])=v∧AW (cP cB (cL (cP AZ (cP AZ Ao)))) H' r.1 v2)∧O=O'):=by
 intro w hs
 refine Bz Tryz.func15 rf rf rf ?_ hs
 clear hs w
 unfold JY at hd
 refine Wp.sr<|Aa.box (cs:= #[(.int .i64 a0.kind),(Ak (word a0.set 0)),(Ak (word a0.set 1)),(Ak (word a0.set 2)),(Ak (word a0.set 3)),v1]) rf rf rf fun B2=>Aa.alloc (cs:= #[(.slice none 0 0)]) A5 rf rf fun B3=>Aa.op (Ab.assign rf) rf<|Aa.Af<|Wp.seq<|Wp.seq ?_
 obtain⟨x1,hx1,hd⟩:=Ae hd
 refine Wp.region<|Aa.op (Ab.AF (i:=1) JH rf Cj rf rf rf) rf<|Aa.op (Ab.call Zf rf (P3 hv1 hx1)) rf<|Aa.op (Ab.assign rf) rf<|Aa.Af<|Wp.sr<|Aa.op (Ab.move rf) rf<|Aa.op (Ab.neq rf rf) rf ?_
 refine Aa.Af ?_
 refine Wp.cond rf (fun hb1=>?_) (fun hb1=>?_)
 ·
  obtain⟨hb1,hd⟩:=bT hb1 hd
  refine Wp.sr<|Aa.op (Ab.Bi (vs:=[]) (cs:= #[(.slice none 0 0)]) FQ A5 rf rf (Bd) rf) rf<|Aa.op (Ab.move rf) rf<|Aa.AP (i:=0) (cs':= #[(.slice none 0 0)]) rf rf A5 rf rf (Bc (Ac rf (As))) rf ?_
  refine Aa.own (O:=_::_::_) ?_ rf
  refine Aa.op (Ab.assign rf) rf<|Aa.Af<|Wp.ret<|At.Av ?_
  obtain rfl:=si hd
  exact At.I5 rf (RV.C' (i:=0) rf Eo rf A5 rf rf) (RV.tmp (v:=(.int .i64 x1)) rf) (fun w hs=>⟨_,_,_,rf,(Hp.le.refl _),(hs.Cg 2),⟨⟨(.slice none 0 0),rf,AW.nil⟩,rf⟩⟩)
 obtain⟨hb1,hd⟩:=bF hb1 hd
 refine Wp.skip<|At.Ad<|Wp.seq ?_
 obtain⟨x2,hx2,hd⟩:=Ae hd
 refine Wp.region<|Aa.op (Ab.Bi (vs:=[(1,(.int .i64 2))]) (cs:= #[(.slice none 0 0),(.int .i64 2)]) YC Ez rf rf (AJ rf (Bd)) rf) rf<|Aa.op (Ab.AF (i:=1) JH rf Cj rf rf rf) rf<|Aa.BG 117 7<|Aa.E8 (BC.call Sq rf (Re (a0:=(([]:List (Int×Int×AD×Bool)),2)) (Au.nil (c:=(cP Ao (cP Ao (cP IG cB)))) (H:=H)) hv1 hx2)) rf ?_
 rintro _ H1 _ hl1 ⟨v3,xs1,rfl,hq1,rfl⟩
 refine Aa.alloc (cs:= #[(.slice none 0 0),(.int .i64 0)]) Ez rf rf fun B4=>Aa.Bm (i:=1) rf fun ho1=>Aa.AP (i:=0) (cs':= #[v3,(.int .i64 x2.2)]) rf rf Ez rf rf (Bc (Ac ho1 (Ac rf (As)))) rf ?_
 refine Aa.own (O:=_::_::_::_::_) ?_ rf
 refine Aa.Af<|Wp.seq<|Wp.seq ?_
 obtain⟨x3,hx3,hd⟩:=Ae hd
 refine Wp.region<|Aa.op (Ab.AF (i:=0) Nc rf Ez rf rf rf) rf ?_
 refine Aa.A7 (i:=1) rf fun hb2=>?_
 refine Aa.freeze (i:=1) rf fun H2 hl2 hs1=>?_
 have hv2:=AW.of (c:=(cP Ao (cP Ao (cP IG cB)))) hs1 rfl (hq1.mono hl2) hb2
 refine Aa.op (Ab.call Ze rf (Rf hv2 hx3)) rf<|Aa.Af ?_
 refine Wp.cond rf (fun hb3=>?_) (fun hb3=>?_)
 ·
  replace hd:=Fs hb3 hd
  refine Wp.sr<|Aa.op (Ab.Bi (vs:=[]) (cs:= #[(.slice none 0 0)]) FQ A5 rf rf (Bd) rf) rf<|Aa.AP (i:=1) (cs':= #[(.slice none 0 0)]) rf rf A5 rf rf (Bc (Ac rf (As))) rf ?_
  refine Aa.own (O:=_::_::_::_) ?_ rf
  refine Aa.op (Ab.assign rf) rf<|Aa.Af<|Wp.ret<|At.Av ?_
  obtain rfl:=si hd
  exact At.I5 rf (RV.C' (i:=1) rf Eo rf A5 rf rf) (RV.tmp (v:=(.int .i64 10)) rf) (fun w hs=>⟨_,_,_,rf,(hl1.trans hl2),(hs.Cg 3),⟨⟨(.slice none 0 0),rf,AW.nil⟩,rf⟩⟩)
 replace hd:=Ft hb3 hd
 refine Wp.skip<|At.Ad<|Wp.seq ?_
 obtain⟨x4,hx4,hd⟩:=Ae hd
 obtain⟨x5,hx5,hd⟩:=Ae hd
 refine Wp.region<|Aa.op (Ab.AF (i:=0) Nc rf Ez rf rf rf) rf<|Aa.E8 (BC.call Zd rf (PZ hv2 hx4)) rf ?_
 rintro _ H3 _ hl3 ⟨⟨v4,rfl,hv3⟩,rfl⟩
 refine Aa.E8 (BC.call ZX rf (Nl hv3 hx5)) rf ?_
 rintro _ H4 _ hl4 ⟨⟨v5,rfl,hv4⟩,rfl⟩
 refine Aa.op (Ab.move rf) rf<|Aa.op (Ab.extract rf rf) rf<|Aa.op (Ab.extract rf rf) rf<|Aa.alloc (cs:= #[(.slice none 0 0)]) A5 rf rf fun B5=>Aa.AP (i:=0) (cs':= #[v5]) rf rf A5 rf rf (Bc (Ac hv4.one (As))) rf ?_
 refine Aa.own (O:=_::_::_::_::_) ?_ rf
 refine Aa.op (Ab.assign rf) rf<|Aa.Af<|Wp.seq<|Wp.sr<|Aa.op (Ab.AV (o':=0) Ck rf rf) rf<|Aa.op (Ab.Am (i:=0) (v:=v5) CG rf rf rf rf) rf ?_
 have hb4:=hv4.le
 refine Aa.op (Ab.len CG rf hv4.sl) rf<|Aa.op (Ab.gtr rf rf) rf<|Aa.Af ?_
 refine Wp.cond rf (fun hb5=>?_) (fun hb5=>?_)
 ·
  obtain⟨hb5,hd⟩:=bT hb5 hd
  refine Wp.sr<|Aa.op (Ab.Bi (vs:=[]) (cs:= #[(.slice none 0 0)]) FQ A5 rf rf (Bd) rf) rf<|Aa.AP (i:=2) (cs':= #[(.slice none 0 0)]) rf rf A5 rf rf (Bc (Ac rf (As))) rf ?_
  refine Aa.own (O:=_::_::_::_::_) ?_ rf
  refine Aa.op (Ab.assign rf) rf<|Aa.Af<|Wp.ret<|At.Av ?_
  obtain rfl:=si hd
  exact At.I5 rf (RV.C' (i:=2) rf Eo rf A5 rf rf) (RV.tmp (v:=(.int .i64 10)) rf) (fun w hs=>⟨_,_,_,rf,(((hl1.trans hl2).trans hl3).trans hl4),(hs.Cg 4),⟨⟨(.slice none 0 0),rf,AW.nil⟩,rf⟩⟩)
 obtain⟨hb5,hd⟩:=bF hb5 hd
 refine Wp.skip<|At.Ad<|Wp.sr<|Aa.op (Ab.AF (i:=0) Eo rf A5 rf rf rf) rf<|Aa.AP (i:=2) (cs':= #[v5]) rf rf A5 rf rf (Bc (Ac hv4.one (As))) rf ?_
 refine Aa.own (O:=_::_::_::_::_) ?_ rf
 refine Aa.op (Ab.assign rf) rf<|Aa.Af<|Wp.ret ?_
 obtain rfl:=si hd
 exact At.I5 rf (RV.C' (i:=2) rf Eo rf A5 rf rf) (RV.tmp (v:=(.int .i64 0)) rf) (fun w hs=>⟨_,_,_,rf,(((hl1.trans hl2).trans hl3).trans hl4),(hs.Cg 4),⟨⟨v5,rf,hv4⟩,rf⟩⟩)
end Go.Proofs.YtjmbmodmepdmjaaGreatDoor
namespace Go.GK
def E3(fu:Nat)(a0:Rx):Option Bool:=
 AX (Ik fu a0) (fun x4=>bif !x4 then(AX (FV fu) (fun x7=>some x7))else(AX (KS fu a0) (fun x9=>AX (JY fu a0) (fun x17=>AX (GC fu x9.1 x17.1) (fun x25=>bif x25 then(bif decide (x9.2=x17.2)then(AX (FV fu) (fun x29=>some x29))else(some false))else(some false))))))
end Go.GK
namespace Go.Proofs.YtjmbmodmepdmjaaGreatDoor
open Go.GK
variable {H : Hp} {O : List Bj}
theorem Kh{fu:Nat}{a0:Rx}{v1:Value}{r:Bool}(hv1:AW Kc H a0.AL v1)(hG:E1 Tryz.prog H)(hd:E3 fu a0=some r):
    Ca Tryz.prog 4 [(.agg #[(.int .i64 a0.kind),(Ak (word a0.set 0)),(Ak (word a0.set 1)),(Ak (word a0.set 2)),(Ak (word a0.set 3)),v1])] H O (.bool r):=by
 intro w hs
 refine Bz Tryz.func4 rf rf rf ?_ hs
 clear hs w
 unfold E3 at hd
 refine Wp.sr<|Aa.box (cs:= #[(.int .i64 a0.kind),(Ak (word a0.set 0)),(Ak (word a0.set 1)),(Ak (word a0.set 2)),(Ak (word a0.set 3)),v1]) rf rf rf fun B2=>Aa.op (Ab.assign rf) rf<|Aa.Af<|Wp.seq<|Wp.seq ?_
 obtain⟨x1,hx1,hd⟩:=Ae hd
 refine Wp.region<|Aa.op (Ab.AF (i:=0) JH rf Cj rf rf rf) rf<|Aa.op (Ab.call Zu rf (P1 hv1 hx1)) rf<|Aa.op (Ab.not rf) rf<|Aa.Af ?_
 refine Wp.cond rf (fun hb1=>?_) (fun hb1=>?_)
 ·
  replace hd:=Fs hb1 hd
  refine Wp.seq ?_
  obtain⟨x2,hx2,hd⟩:=Ae hd
  refine Wp.region<|Aa.op (Ab.call Y3 rf (Lq hG hx2)) rf<|Aa.op (Ab.assign rf) rf<|Aa.Af<|Wp.ret<|At.Av ?_
  obtain rfl:=si hd
  exact At.q1 1 (Hp.le.refl _) rf (RV.tmp rf) rf
 replace hd:=Ft hb1 hd
 refine Wp.skip<|At.Ad<|Wp.seq ?_
 obtain⟨x3,hx3,hd⟩:=Ae hd
 refine Wp.region<|Aa.op (Ab.AF (i:=0) JH rf Cj rf rf rf) rf<|Aa.E8 (BC.call UZ rf (Pp hv1 hG hx3)) rf ?_
 rintro _ H1 _ hl1 ⟨⟨v2,rfl,hv2⟩,rfl⟩
 refine Aa.op (Ab.move rf) rf<|Aa.op (Ab.extract rf rf) rf<|Aa.op (Ab.extract rf rf) rf<|Aa.alloc (cs:= #[(.slice none 0 0)]) A5 rf rf fun B3=>Aa.AP (i:=0) (cs':= #[v2]) rf rf A5 rf rf (Bc (Ac hv2.one (As))) rf ?_
 refine Aa.own (O:=_::_::_) ?_ rf
 refine Aa.op (Ab.assign rf) rf<|Aa.Af<|Wp.seq ?_
 obtain⟨x4,hx4,hd⟩:=Ae hd
 refine Wp.region<|Aa.op (Ab.AF (i:=1) JH rf Cj rf rf rf) rf<|Aa.E8 (BC.call Zt rf (T4 (hv1.mono hl1) hx4)) rf ?_
 rintro _ H2 _ hl2 ⟨⟨v3,rfl,hv3⟩,rfl⟩
 refine Aa.op (Ab.move rf) rf<|Aa.op (Ab.extract rf rf) rf<|Aa.op (Ab.extract rf rf) rf<|Aa.alloc (cs:= #[(.slice none 0 0)]) A5 rf rf fun B4=>Aa.AP (i:=0) (cs':= #[v3]) rf rf A5 rf rf (Bc (Ac hv3.one (As))) rf ?_
 refine Aa.own (O:=_::_::_::_) ?_ rf
 refine Aa.op (Ab.assign rf) rf<|Aa.Af<|Wp.seq ?_
 obtain⟨x5,hx5,hd⟩:=Ae hd
 rcases Bool.eq_false_or_eq_true (x5)with hg1|hg1
 ·
  replace hd:=Fs hg1 hd
  rcases Bool.eq_false_or_eq_true (decide (x3.2=x4.2))with hg2|hg2
  ·
   obtain⟨hg2_,hd⟩:=bT hg2 hd
   obtain⟨x6,hx6,hd⟩:=Ae hd
   refine Wp.region<|Aa.op (Ab.AF (i:=1) Eo rf A5 rf rf rf) rf<|Aa.op (Ab.AF (i:=0) Eo rf A5 rf rf rf) rf<|Aa.op (Ab.Bg (b:=x5) (c:=true) (Ab.call Fq rf (BK (hv2.mono hl2) hv3 hx5)) hg1) rf<|Aa.op (Ab.move rf) rf<|Aa.Ay rf rf (Ab.move rf) rf<|Aa.Ay rf rf (Ab.move rf) rf<|Aa.Ay rf rf (Ab.Bg (b:=decide (x3.2=x4.2)) (c:=true) (Ab.eql rf rf) hg2) rf ?_
   refine Aa.op (Ab.AK rf rf) rf<|Aa.op (Ab.move rf) rf<|Aa.Ay rf rf (Ab.call Y3 rf (Lq (hG.mono (hl1.trans hl2)) hx6)) rf<|Aa.op (Ab.AK rf rf) rf<|Aa.op (Ab.assign rf) rf<|Aa.Af<|Wp.ret ?_
   obtain rfl:=si hd
   exact At.q1 3 (hl1.trans hl2) rf (RV.tmp rf) rf
  obtain⟨hg2_,hd⟩:=bF hg2 hd
  refine Wp.region<|Aa.op (Ab.AF (i:=1) Eo rf A5 rf rf rf) rf<|Aa.op (Ab.AF (i:=0) Eo rf A5 rf rf rf) rf<|Aa.op (Ab.Bg (b:=x5) (c:=true) (Ab.call Fq rf (BK (hv2.mono hl2) hv3 hx5)) hg1) rf<|Aa.op (Ab.move rf) rf<|Aa.Ay rf rf (Ab.move rf) rf<|Aa.Ay rf rf (Ab.move rf) rf<|Aa.Ay rf rf (Ab.Bg (b:=decide (x3.2=x4.2)) (c:=false) (Ab.eql rf rf) hg2) rf ?_
  refine Aa.op (Ab.AK rf rf) rf<|Aa.op (Ab.move rf) rf<|Aa.Ai rf rf rf rf<|Aa.op (Ab.AA rf rf) rf<|Aa.op (Ab.assign rf) rf<|Aa.Af<|Wp.ret ?_
  obtain rfl:=si hd
  exact At.q1 3 (hl1.trans hl2) rf (RV.tmp rf) rf
 replace hd:=Ft hg1 hd
 refine Wp.region<|Aa.op (Ab.AF (i:=1) Eo rf A5 rf rf rf) rf<|Aa.op (Ab.AF (i:=0) Eo rf A5 rf rf rf) rf<|Aa.op (Ab.Bg (b:=x5) (c:=false) (Ab.call Fq rf (BK (hv2.mono hl2) hv3 hx5)) hg1) rf<|Aa.op (Ab.move rf) rf<|Aa.Ai rf rf rf rf<|Aa.Ai rf rf rf rf<|Aa.Ai rf rf rf rf ?_
 refine Aa.op (Ab.AA rf rf) rf<|Aa.op (Ab.move rf) rf<|Aa.Ai rf rf rf rf<|Aa.op (Ab.AA rf rf) rf<|Aa.op (Ab.assign rf) rf<|Aa.Af<|Wp.ret ?_
 obtain rfl:=si hd
 exact At.q1 3 (hl1.trans hl2) rf (RV.tmp rf) rf
end Go.Proofs.YtjmbmodmepdmjaaGreatDoor
namespace Go.GL
open Go.GK
def Ok{α:Type}(x:Option α)(P:α→Prop):Prop:= ∃r,x=some r∧P r
section
variable {α β X R : Type} {P Q : R → Prop}
theorem Ok.some{r:R}(h:P r):Ok (some r) P:=⟨r,rfl,h⟩
theorem Ok.mono{x:Option R}(h:Ok x P)(k:∀r,P r→Q r):Ok x Q:=by obtain⟨r,e,h⟩:=h;exact⟨r,e,k r h⟩
theorem Ok.eq{x:Option R}{r:R}(h:Ok x (fun a=>a=r)):x= .some r:=by obtain⟨_,e,rfl⟩:=h;exact e
theorem Ok.of_eq{x:Option R}{r:R}(h:x= .some r)(hp:P r):Ok x P:=⟨r,h,hp⟩
theorem Ok.A0{p:Prop} [Decidable p]{x:Option R}(hp:p)(h:Ok x P):Ok (A0 p x) P:=by unfold GK.A0;rw[if_pos hp];exact h
theorem Ok.AX{x:Option α}{Q:α→Prop}{k:α→Option R}(h:Ok x Q)(hk:∀a,Q a→Ok (k a) P):Ok (AX x k) P:=by
 obtain⟨r,rfl,h⟩:=h;exact hk r h
theorem Ok.BZ{x:Option α}{a:α}{k:α→Option R}(h:x= .some a)(hk:Ok (k a) P):Ok (GK.AX x k) P:=by
 subst h;exact hk
theorem Ok.bif{b:Bool}{x y:Option R}(ht:b=true→Ok x P)(hf:b=false→Ok y P):Ok (bif b then x else y) P:=by
 cases b
 ·exact hf rf
 ·exact ht rf
theorem Ok.ite{p:Prop} [Decidable p]{x y:Option R}(ht:p→Ok x P)(hf:¬p→Ok y P):Ok (bif decide p then x else y) P:=
 Ok.bif (fun h=>ht (of_decide_eq_true h)) (fun h=>hf (of_decide_eq_false h))
theorem Ok.T{b:Bool}{x y:Option R}(h:b=true)(hx:Ok x P):Ok (bif b then x else y) P:=by subst h;exact hx
theorem Ok.F{b:Bool}{x y:Option R}(h:b=false)(hy:Ok y P):Ok (bif b then x else y) P:=by subst h;exact hy
theorem Ok.iT{p:Prop} [Decidable p]{x y:Option R}(h:p)(hx:Ok x P):Ok (bif decide p then x else y) P:=Ok.T (decide_eq_true h) hx
theorem Ok.iF{p:Prop} [Decidable p]{x y:Option R}(h:¬p)(hy:Ok y P):Ok (bif decide p then x else y) P:=Ok.F (decide_eq_false h) hy
theorem IP{l:List α}{n:Nat}(h:n<l.length):idx l (n:Int)= .some l[n]:=by
 unfold idx;rw[if_pos (by omega)];simp[h]
theorem Pa{l:List α}{i:Int}(h0:0≤i)(h1:i<(l.length:Nat)):idx l i= .some (l[i.toNat]'(by omega)):=by
 unfold idx;rw[if_pos h0];exact List.getElem?_eq_getElem _
theorem Ok.BX{l:List α}{n:Nat}{k:α→Option R}(h:n<l.length)(hk:Ok (k l[n]) P):Ok (GK.AX (idx l (n:Int)) k) P:=Ok.BZ (IP h) hk
theorem Ok.Rn{l:List α}{i:Int}{k:α→Option R}(h0:0≤i)(h1:i<(l.length:Nat))(hk:Ok (k (l[i.toNat]'(by omega))) P):Ok (GK.AX (idx l i) k) P:=Ok.BZ (Pa h0 h1) hk
theorem Ok.I8{l:List α}{i:Int}{a:α}{k:α→Option R}(h0:0≤i)(h1:l[i.toNat]?= .some a)(hk:Ok (k a) P):Ok (GK.AX (idx l i) k) P:=
 Ok.BZ (by unfold idx;rw[if_pos h0];exact h1) hk
theorem Ok.loop{b:X→(X→Option R)→Option R}(I:X→Prop)(m:X→Nat):∀ {fu:Nat} {x:X},I x→m x<fu→
  (∀x nx,I x→m x<fu→(∀x',I x'→m x'<m x→Ok (nx x') P)→Ok (b x nx) P)→Ok (Ax fu b x) P
 |0,_,_,h,_=>by omega
 |fu+1,x,hI,hm,step=>by
  show Ok (b x (Ax fu b)) P
  refine step x _ hI hm fun x' hI' hm'=>Ok.loop I m hI' (by omega) fun y nx hy hmy h=>step y nx hy (by omega) h
theorem Ok.range{S:Type}{b:S×Nat→(S×Nat→Option R)→Option R}(J:Nat→S→Prop)(n:Nat){fu:Nat}{s:S}(h0:J 0 s)(hf:n<fu)
  (step:∀k s nx,k<n→J k s→(∀s',J (k+1) s'→Ok (nx (s',k+1)) P)→Ok (b (s,k) nx) P)
  (stop:∀s nx,J n s→Ok (b (s,n) nx) P):Ok (Ax fu b (s,0)) P:=by
 refine Ok.loop (fun x=>x.2≤n∧J x.2 x.1) (fun x=>n-x.2) ⟨by simp,h0⟩ (by simpa using hf) fun x nx hI _ hn=>?_
 obtain⟨s,k⟩:=x
 obtain⟨h1,h2⟩:=hI
 rcases Nat.lt_or_ge k n with h|h
 ·exact step k s nx h h2 fun s' hs=>hn (s',k+1) ⟨by show k+1≤n;omega,hs⟩ (by show n-(k+1)<n-k;omega)
 ·have h1:k≤n:=h1
  obtain rfl:k=n:=by omega
  exact stop s nx h2
theorem Ok.OH{S:Type}(mk:S→Nat→X){b:X→(X→Option R)→Option R}(J:Nat→S→Prop)(n:Nat)
  (step:∀k s nx,k<n→J k s→(∀s',J (k+1) s'→Ok (nx (mk s' (k+1))) P)→Ok (b (mk s k) nx) P)
  (stop:∀s nx,J n s→Ok (b (mk s n) nx) P):∀(fu k:Nat) (s:S),J k s→k≤n→n-k<fu→Ok (Ax fu b (mk s k)) P
 |0,_,_,_,_,h=>by omega
 |fu+1,k,s,hJ,hk,hf=>by
  show Ok (b (mk s k) (Ax fu b)) P
  rcases Nat.lt_or_ge k n with h|h
  ·exact step k s _ h hJ fun s' hs=>Ok.OH mk J n step stop fu (k+1) s' hs h (by omega)
  ·obtain rfl:k=n:=by omega
   exact stop s _ hJ
theorem Ok.FX{S T:Type}{b:S×T×Nat→(S×T×Nat→Option R)→Option R}(J:Nat→S→T→Prop)(n:Nat){fu:Nat}{s:S}{t:T}(h0:J 0 s t)(hf:n<fu)
  (step:∀k s t nx,k<n→J k s t→(∀s' t',J (k+1) s' t'→Ok (nx (s',t',k+1)) P)→Ok (b (s,t,k) nx) P)
  (stop:∀s t nx,J n s t→Ok (b (s,t,n) nx) P):Ok (Ax fu b (s,t,0)) P:=
 Ok.OH (fun(s:S×T) k=>(s.1,s.2,k)) (fun k s=>J k s.1 s.2) n (fun k s nx hk hJ hn=>step k s.1 s.2 nx hk hJ fun s' t' h=>hn (s',t') h) (fun s nx hJ=>stop s.1 s.2 nx hJ) fu 0 (s,t) h0 (by omega) (by omega)
theorem Ok.Rc{S T U:Type}{b:S×T×U×Nat→(S×T×U×Nat→Option R)→Option R}(J:Nat→S→T→U→Prop)(n:Nat){fu:Nat}{s:S}{t:T}{u:U}(h0:J 0 s t u)(hf:n<fu)
  (step:∀k s t u nx,k<n→J k s t u→(∀s' t' u',J (k+1) s' t' u'→Ok (nx (s',t',u',k+1)) P)→Ok (b (s,t,u,k) nx) P)
  (stop:∀s t u nx,J n s t u→Ok (b (s,t,u,n) nx) P):Ok (Ax fu b (s,t,u,0)) P:=
 Ok.OH (fun(s:S×T×U) k=>(s.1,s.2.1,s.2.2,k)) (fun k s=>J k s.1 s.2.1 s.2.2) n (fun k s nx hk hJ hn=>step k s.1 s.2.1 s.2.2 nx hk hJ fun s' t' u' h=>hn (s',t',u') h) (fun s nx hJ=>stop s.1 s.2.1 s.2.2 nx hJ) fu 0 (s,t,u) h0 (by omega) (by omega)
theorem Ok.count{b:Nat→(Nat→Option R)→Option R}(J:Nat→Prop)(n:Nat){fu:Nat}(h0:J 0)(hf:n<fu)
  (step:∀k nx,k<n→J k→(J (k+1)→Ok (nx (k+1)) P)→Ok (b k nx) P)
  (stop:∀nx,J n→Ok (b n nx) P):Ok (Ax fu b 0) P:=by
 refine Ok.loop (fun x=>x≤n∧J x) (fun x=>n-x) ⟨by simp,h0⟩ (by simpa using hf) fun k nx hI _ hn=>?_
 obtain⟨h1,h2⟩:=hI
 rcases Nat.lt_or_ge k n with h|h
 ·exact step k nx h h2 fun hs=>hn (k+1) ⟨by omega,hs⟩ (by omega)
 ·obtain rfl:k=n:=by omega
  exact stop nx h2
end
end Go.GL
namespace Go.GL
abbrev Lg:=List UInt8→Bool
abbrev Fw:=Int×Int×Int
abbrev Vy:=Bool×List Fw
abbrev Tb:=List Vy
def LQ(L:Lg)(b:Nat):Lg:=fun w=>L (UInt8.ofNat b::w)
open Classical in
noncomputable def live(L:Lg):Bool:=decide (∃w,L w=true)
open Classical in
noncomputable def KB(kn:List Lg)(L:Lg):Nat:=kn.findIdx fun K=>decide (K=L)
theorem Jc{L:Lg} :live L=true↔∃w,L w=true:=by simp[live]
theorem F_{L:Lg} :live L=false↔∀w,L w=false:=by simp[live]
def push(es:List Fw)(lo hi n:Int):List Fw:=match es.getLast? with
 |some e=>if e.2.2=n∧e.2.1+1=lo then es.dropLast++[(e.1,hi,n)]else es++[(lo,hi,n)]
 |none=>es++[(lo,hi,n)]
noncomputable def Li(kn:List Lg)(D:Lg):List Lg:=if KB kn D=kn.length then kn++[D]else kn
noncomputable def LO(st:List Lg×List Fw)(D:Lg)(lo hi:Nat):List Lg×List Fw:=
 if live D then(Li st.1 D,push st.2 (lo:Int) (hi:Int) (KB st.1 D:Nat))else st
noncomputable def Nh(K:Lg)(st:List Lg×List Fw)(b:Nat):List Lg×List Fw:=LO st (LQ K b) b b
noncomputable def BP(K:Lg)(kn:List Lg)(m:Nat):List Lg×List Fw:=(List.range m).foldl (Nh K) (kn,[])
noncomputable def HN:Nat→List Lg→Tb→Tb
 |0,_,out=>out
 |fu+1,kn,out=>match kn[out.length]? with
  |some K=>HN fu (BP K kn 256).1 (out++[(K [],(BP K kn 256).2)])
  |none=>out
noncomputable def HD(fu:Nat)(L:Lg):Tb:=if live L then HN fu [L] []else []
theorem O9(kn:List Lg)(D:Lg):KB kn D≤kn.length:=List.findIdx_le_length
open Classical in
theorem O8{kn:List Lg}{D:Lg}(h:KB kn D<kn.length):kn[KB kn D]=D:=by
 have:=List.findIdx_getElem (xs:=kn) (w:=h)
 exact(decide_eq_true_iff (p:=kn[KB kn D]=D)).1 this
theorem IM{kn:List Lg}{D:Lg}(h:D∈kn):KB kn D<kn.length:=by
 refine List.findIdx_lt_length_of_exists ⟨D,h,by simp⟩
theorem Kz{kn:List Lg}{D:Lg}(h:D∉kn):KB kn D=kn.length:=by
 have:=O9 kn D
 rcases Nat.lt_or_eq_of_le this with h1|h1
 ·exact absurd (O8 h1▸List.getElem_mem h1) h
 ·exact h1
theorem KA(kn:List Lg)(D:Lg):KB (Li kn D) D=KB kn D:=by
 unfold Li
 split
 ·rename_i h
  have hn:D∉kn:=fun hm=>by have:=IM hm;omega
  unfold KB at h⊢
  rw[List.findIdx_append,if_neg (by omega),h];simp
 ·rfl
theorem LX(kn:List Lg)(D:Lg):D∈Li kn D:=by
 unfold Li;split
 ·simp
 ·rename_i h
  have h1:KB kn D<kn.length:=by have:=O9 kn D;omega
  exact O8 h1▸List.getElem_mem h1
theorem J6{kn:List Lg}{D:Lg}(h:D∈kn):Li kn D=kn:=by
 unfold Li;rw[if_neg];have:=IM h;omega
theorem Fk(l:List Fw)(x:Fw)(lo hi n:Int):push (l++[x]) lo hi n=if x.2.2=n∧x.2.1+1=lo then l++[(x.1,hi,n)]else l++[x]++[(lo,hi,n)]:=by
 unfold push;simp
theorem Kp(lo hi n:Int):push [] lo hi n=[(lo,hi,n)]:=rfl
theorem Fo{α:Type}(l:List α):l=[]∨∃l' x,l=l'++[x]:=by
 rcases List.eq_nil_or_concat l with h|⟨l',x,h⟩
 ·exact .inl h
 ·exact .inr ⟨l',x,by simpa using h⟩
theorem S3(es:List Fw)(lo mi hi n:Int):push (push es lo mi n) (mi+1) hi n=push es lo hi n:=by
 rcases Fo es with rfl|⟨l,x,rfl⟩
 ·rw[Kp,Kp,show [(lo,mi,n)]=[]++[(lo,mi,n)]from rfl,Fk];simp
 ·rw[Fk,Fk]
  split
  ·rw[Fk];simp
  ·rw[Fk];simp
theorem Ms(K:Lg)(D:Lg)(st:List Lg×List Fw)(lo:Nat):∀(n:Nat),(∀b,lo≤b→b<lo+n+1→LQ K b=D)→
  (List.range' lo (n+1)).foldl (Nh K) st=LO st D lo (lo+n)
 |0,h=>by simp[Nh,h lo (by omega) (by omega)]
 |n+1,h=>by
  rw[List.range'_concat,List.foldl_append,Ms K D st lo n (fun b h1 h2=>h b h1 (by omega))]
  simp only[List.foldl_cons,List.foldl_nil,Nh,Nat.one_mul,h (lo+(n+1)) (by omega) (by omega)]
  unfold LO
  split
  ·simp only[KA,J6 (LX _ _),Prod.mk.injEq,true_and]
   have:=S3 st.2 lo ((lo+n:Nat):Int) ((lo+(n+1):Nat):Int) (KB st.1 D:Nat)
   rw[←this];congr 1
  ·rfl
theorem NI(K:Lg)(kn:List Lg)(D:Lg)(lo hi:Nat)(hlo:lo≤hi)(h:∀b,lo≤b→b≤hi→LQ K b=D):
  BP K kn (hi+1)=LO (BP K kn lo) D lo hi:=by
 unfold BP
 rw[show hi+1=lo+((hi-lo)+1) by omega,List.range_eq_range',List.range_eq_range',←List.range'_append_1,List.foldl_append,Nat.zero_add]
 rw[Ms K D _ lo (hi-lo) (fun b h1 h2=>h b h1 (by omega))]
 congr 1;omega
def EL(b:Nat)(e:Fw):Bool:=decide (e.1≤b)&&decide ((b:Int)≤e.2.1)
def BW(es:List Fw)(b:Nat):Int:=match es.find? (EL b)with
 |some e=>e.2.2
 |none=> -1
def Cs(l:Tb)(i:Int):Vy:=l.getD i.toNat (false,[])
def D8(l:Tb)(i:Int)(b:Nat):Int:=if i<0 then-1 else BW (Cs l i).2 b
def runT(l:Tb)(i:Int)(w:List UInt8):Int:=w.foldl (fun q c=>D8 l q c.toNat) i
def fin(l:Tb)(i:Int):Bool:=decide (0≤i)&&(Cs l i).1
def Bt(l:Tb)(i:Int):Lg:=fun w=>fin l (runT l i w)
structure D9(es:List Fw)(m n:Nat):Prop where
 rg:∀e∈es,0≤e.1∧e.1≤e.2.1∧e.2.1<m∧0≤e.2.2∧e.2.2<n
 so:es.Pairwise fun a b=>a.2.1<b.1
def E0(l:Tb):Prop:= ∀s∈l,D9 s.2 256 l.length
theorem HL(l:Tb)(i:Int)(b:Nat)(hb:b<256):LQ (Bt l i) b=Bt l (D8 l i b):=by
 funext w
 simp[LQ,Bt,runT,Nat.mod_eq_of_lt hb]
theorem RL{l:Tb}{i:Int}(b:Nat)(h:i<0):D8 l i b= -1:=by simp[D8,h]
theorem PV{l:Tb} :∀(w:List UInt8) {i:Int},i<0→runT l i w<0
 | [],i,h=>h
 |c::w,i,h=>by
  show runT l (D8 l i c.toNat) w<0
  exact PV w (by rw[RL _ h];decide)
theorem FI{l:Tb}{i:Int}(h:i<0)(w:List UInt8):Bt l i w=false:=by
 have:=PV (l:=l) w h
 simp only[Bt,fin]
 rw[decide_eq_false (by omega)];rfl
theorem Ht{l:Tb}{i:Int}(h:i<0):live (Bt l i)=false:=F_.2 fun w=>FI h w
theorem D9.step{es:List Fw}{m n:Nat}(h:D9 es m n)(b:Nat):BW es b= -1∨0≤BW es b∧BW es b<n:=by
 unfold BW
 split
 ·rename_i e he
  have:=h.rg e (List.mem_of_find?_eq_some he)
  exact .inr ⟨this.2.2.2.1,this.2.2.2.2⟩
 ·exact .inl rf
theorem D9.nil{m n:Nat} :D9 [] m n:=⟨by simp, .nil⟩
theorem E0.st{l:Tb}(h:E0 l)(i:Int)(b:Nat):D8 l i b= -1∨0≤D8 l i b∧D8 l i b<l.length:=by
 unfold D8
 split
 ·exact .inl rf
 ·unfold Cs
  rw[List.getD_eq_getElem?_getD]
  cases he:l[i.toNat]? with
  |none=>exact .inl rfl
  |some s=>exact(h s (List.mem_of_getElem? he)).step b
theorem NH{es:List Fw}{m n:Nat}(h:D9 es m n){b:Nat}(hb:m≤b):BW es b= -1:=by
 unfold BW
 rw[List.find?_eq_none.2]
 intro e he
 have:=h.rg e he
 simp[EL];omega
theorem GY(es fs:List Fw)(b:Nat):BW (es++fs) b=if(es.find? (EL b)).isSome then BW es b else BW fs b:=by
 unfold BW
 rw[List.find?_append]
 cases es.find? (EL b)<;>simp
theorem D9.mono{es:List Fw}{m n m' n':Nat}(h:D9 es m n)(hm:m≤m')(hn:n≤n'):D9 es m' n':=
 ⟨fun e he=>by have:=h.rg e he;omega,h.so⟩
theorem D9.push {es : List Fw} {m n : Nat} (h : D9 es m n) {hi q : Nat} (hm : m ≤ hi) (hq : q < n) : D9 (push es (m : Int) (hi : Int) (q : Int)) (hi + 1) n ∧ ∀ b, BW (push es (m : Int) (hi : Int) (q : Int)) b = if m ≤ b ∧ b ≤ hi then (q : Int) else BW es b := by
  rcases Fo es with rfl | ⟨l, x, rfl⟩
  · rw [Kp]
    refine ⟨⟨by simp; omega, by simp⟩, fun b => ?_⟩
    simp only [BW, List.find?_cons, EL, List.find?_nil]
    by_cases hb : m ≤ b ∧ b ≤ hi
    · rw [if_pos hb]
      have h1 : ((m : Int) ≤ b) := by omega
      have h2 : ((b : Int) ≤ hi) := by omega
      simp [h1, h2]
    · rw [if_neg hb]
      have : ¬ ((m : Int) ≤ b ∧ (b : Int) ≤ hi) := by omega
      by_cases h1 : (m : Int) ≤ b
      · have h2 : ¬ ((b : Int) ≤ hi) := by omega
        simp [h2]
      · simp [h1]
  · rw [Fk]
    have hx := h.rg x (by simp)
    have hso := List.pairwise_append.1 h.so
    split
    · rename_i hc
      refine ⟨⟨fun e he => ?_, ?_⟩, fun b => ?_⟩
      · rcases List.mem_append.1 he with he | he
        · have := h.rg e (by simp [he]); omega
        · simp at he; subst he; simp; omega
      · refine List.pairwise_append.2 ⟨hso.1, by simp, fun a ha e he => ?_⟩
        simp at he; subst he; exact hso.2.2 a ha x (by simp)
      · rw [GY, GY]
        cases hf : l.find? (EL b) with
        | some e =>
          have hem := List.mem_of_find?_eq_some hf
          have h1 := hso.2.2 e hem x (by simp)
          have h2 := List.find?_some hf
          simp [EL] at h2
          simp only [Option.isSome_some, if_true]
          rw [if_neg (by omega)]
        | none =>
          simp only [Option.isSome_none, Bool.false_eq_true, if_false]
          simp only [BW, List.find?_cons, EL, List.find?_nil]
          by_cases hb : m ≤ b ∧ b ≤ hi
          · rw [if_pos hb]
            have h1 : (x.1 ≤ b) := by omega
            have h2 : ((b : Int) ≤ hi) := by omega
            simp [h1, h2]
          · rw [if_neg hb]
            by_cases h1 : x.1 ≤ b
            · by_cases h2 : (b : Int) ≤ x.2.1
              · have : (b : Int) ≤ hi := by omega
                simp [h1, h2, this, hc.1]
              · have : ¬ (b : Int) ≤ hi := by omega
                simp [h2, this]
            · simp [h1]
    · refine ⟨⟨fun e he => ?_, ?_⟩, fun b => ?_⟩
      · rcases List.mem_append.1 he with he | he
        · have := h.rg e he; omega
        · simp at he; subst he; simp; omega
      · refine List.pairwise_append.2 ⟨h.so, by simp, fun a ha e he => ?_⟩
        simp at he; subst he; have := h.rg a ha; simp; omega
      · rw [GY]
        cases hf : (l ++ [x]).find? (EL b) with
        | some e =>
          have hem := List.mem_of_find?_eq_some hf
          have h1 := h.rg e hem
          have h2 := List.find?_some hf
          simp [EL] at h2
          simp only [Option.isSome_some, if_true]
          rw [if_neg (by omega)]
        | none =>
          have : BW (l ++ [x]) b = -1 := by unfold BW; rw [hf]
          rw [this]
          simp only [Option.isSome_none, Bool.false_eq_true, if_false]
          simp only [BW, List.find?_cons, EL, List.find?_nil]
          by_cases hb : m ≤ b ∧ b ≤ hi
          · rw [if_pos hb]
            have h1 : ((m : Int) ≤ b) := by omega
            have h2 : ((b : Int) ≤ hi) := by omega
            simp [h1, h2]
          · rw [if_neg hb]
            by_cases h1 : (m : Int) ≤ b
            · have h2 : ¬ ((b : Int) ≤ hi) := by omega
              simp [h2]
            · simp [h1]
theorem MR{kn more:List Lg}{D:Lg}(h:D∈kn):KB (kn++more) D=KB kn D:=by
 have h1:=IM h
 unfold KB at h1⊢
 rw[List.findIdx_append,if_pos h1]
def Ext(kn kn':List Lg):Prop:= ∃more,kn'=kn++more
theorem Ext.refl(kn:List Lg):Ext kn kn:=⟨[],by simp⟩
theorem Ext.trans{a b c:List Lg}(h:Ext a b)(k:Ext b c):Ext a c:=by
 obtain⟨x,rfl⟩:=h;obtain⟨y,rfl⟩:=k;exact⟨x++y,by simp⟩
theorem Ext.len{a b:List Lg}(h:Ext a b):a.length≤b.length:=by obtain⟨x,rfl⟩:=h;simp
theorem Ext.mem{a b:List Lg}(h:Ext a b){D:Lg}(hd:D∈a):D∈b:=by obtain⟨x,rfl⟩:=h;simp[hd]
theorem Ext.ix{a b:List Lg}(h:Ext a b){D:Lg}(hd:D∈a):KB b D=KB a D:=by obtain⟨x,rfl⟩:=h;exact MR hd
theorem Ext.get{a b:List Lg}(h:Ext a b){i:Nat}{D:Lg}(hd:a[i]?=some D):b[i]?=some D:=by
 obtain⟨x,rfl⟩:=h
 rw[List.getElem?_append_left (List.getElem?_eq_some_iff.1 hd).1];exact hd
theorem Ext.Li(kn:List Lg)(D:Lg):Ext kn (Li kn D):=by
 unfold GL.Li;split
 ·exact⟨[D],rf⟩
 ·exact .refl _
def Yh(S:List Lg):Prop:= ∀K∈S,∀b<256,live (LQ K b)=true→LQ K b∈S
structure KnOk(S kn:List Lg):Prop where
 nd:kn.Nodup
 sub:∀D∈kn,D∈S
 lv:∀D∈kn,live D=true
theorem KnOk.Li{S kn:List Lg}(h:KnOk S kn){D:Lg}(hD:D∈S)(hl:live D=true):KnOk S (Li kn D):=by
 unfold GL.Li;split
 ·rename_i hi
  have hn:D∉kn:=fun hm=>by have:=IM hm;omega
  refine⟨List.nodup_append.2 ⟨h.nd,by simp,fun a ha b hb=>?_⟩,fun E hE=>?_,fun E hE=>?_⟩
  ·simp at hb;subst hb;rintro rfl;exact hn ha
  ·rcases List.mem_append.1 hE with hE|hE
   ·exact h.sub E hE
   ·simp at hE;subst hE;exact hD
  ·rcases List.mem_append.1 hE with hE|hE
   ·exact h.lv E hE
   ·simp at hE;subst hE;exact hl
 ·exact h
def Nb(K:Lg)(kn:List Lg)(es:List Fw)(m:Nat):Prop:=
 D9 es m kn.length∧∀b,b<m→if live (LQ K b)then LQ K b∈kn∧BW es b=(KB kn (LQ K b):Nat)else BW es b= -1
theorem Nb.ext{K:Lg}{kn kn':List Lg}{es:List Fw}{m:Nat}(h:Nb K kn es m)(he:Ext kn kn'):Nb K kn' es m:=by
 refine⟨h.1.mono (Nat.le_refl _) he.len,fun b hb=>?_⟩
 have:=h.2 b hb
 split
 ·rename_i hl
  rw[if_pos hl]at this
  exact⟨he.mem this.1,by rw[he.ix this.1];exact this.2⟩
 ·rename_i hl
  rw[if_neg hl]at this;exact this
theorem Rb(K:Lg)(kn:List Lg)(m:Nat):BP K kn (m+1)=LO (BP K kn m) (LQ K m) m m:=by
 unfold BP
 rw[List.range_succ,List.foldl_append];rfl
theorem Hl{S kn:List Lg}{K:Lg}(hS:Yh S)(hK:K∈S)(hkn:KnOk S kn):∀m,m≤256→Ext kn (BP K kn m).1∧KnOk S (BP K kn m).1∧Nb K (BP K kn m).1 (BP K kn m).2 m
 |0,_=>⟨.refl _,hkn, .nil,fun b hb=>by omega⟩
 |m+1,hm=>by
  obtain⟨h1,h2,h3⟩:=Hl hS hK hkn m (by omega)
  rw[Rb]
  unfold LO
  split
  ·rename_i hl
   have hD:=hS K hK m (by omega) hl
   refine⟨h1.trans (Ext.Li _ _),h2.Li hD hl,?_⟩
   have h4:=h3.ext (Ext.Li (BP K kn m).1 (LQ K m))
   have hlt:KB (BP K kn m).1 (LQ K m)<(Li (BP K kn m).1 (LQ K m)).length:=by
    rw[←KA];exact IM (LX _ _)
   obtain⟨h5,h6⟩:=h4.1.push (Nat.le_refl m) hlt
   refine⟨h5,fun b hb=>?_⟩
   rw[h6 b]
   by_cases hbm:b=m
   ·subst hbm
    rw[if_pos hl,if_pos ⟨Nat.le_refl _,Nat.le_refl _⟩,KA]
    exact⟨LX _ _,rf⟩
   ·rw[if_neg (by omega:¬(m≤b∧b≤m))]
    exact h4.2 b (by omega)
  ·rename_i hl
   refine⟨h1,h2,h3.1.mono (by omega) (Nat.le_refl _),fun b hb=>?_⟩
   by_cases hbm:b=m
   ·subst hbm;rw[if_neg hl];exact NH h3.1 (Nat.le_refl _)
   ·exact h3.2 b (by omega)
structure K0(kn:List Lg)(out:Tb):Prop where
 le:out.length≤kn.length
 row:∀(k:Nat) (K:Lg) (s:Vy),kn[k]?=some K→out[k]?=some s→s.1=K []∧Nb K kn s.2 256
theorem Qc{α:Type} [BEq α] [LawfulBEq α]:∀ {a b:List α},a.Nodup→(∀x∈a,x∈b)→a.length≤b.length
 | [],_,_,_=>by simp
 |x::a,b,hn,hs=>by
  have hn':=List.nodup_cons.1 hn
  have:=Qc (a:=a) (b:=b.erase x) hn'.2 (fun y hy=>(List.mem_erase_of_ne (fun e=>by subst e;exact hn'.1 hy)).2 (hs y (by simp[hy])))
  rw[List.length_erase_of_mem (hs x (by simp))]at this
  have hp:0<b.length:=List.length_pos_of_mem (hs x (by simp))
  simp;omega
open Classical in
theorem KnOk.le{S kn:List Lg}(h:KnOk S kn):kn.length≤S.length:=Qc h.nd h.sub
theorem QK{S:List Lg}(hS:Yh S):∀(fu:Nat) (kn:List Lg) (out:Tb),KnOk S kn→K0 kn out→S.length<fu+out.length→
  ∃kn',Ext kn kn'∧KnOk S kn'∧K0 kn' (HN fu kn out)∧(HN fu kn out).length=kn'.length
 |0,kn,out,h1,h2,h3=>by have:=h1.le;have:=h2.le;omega
 |fu+1,kn,out,h1,h2,h3=>by
  unfold HN
  split
  ·rename_i K hK
   have hKm:=List.mem_of_getElem? hK
   obtain⟨g1,g2,g3⟩:=Hl hS (h1.sub K hKm) h1 256 (Nat.le_refl _)
   have hgo:K0 (BP K kn 256).1 (out++[(K [],(BP K kn 256).2)]):=by
    refine⟨?_,?_⟩
    ·have:=(List.getElem?_eq_some_iff.1 hK).1
     have:=g1.len
     simp;omega
    ·intro k K' s hk hs
     by_cases hlt:k<out.length
     ·rw[List.getElem?_append_left hlt]at hs
      have hk0:k<kn.length:=by have:=h2.le;omega
      have hk':kn[k]?=some K':=by
       obtain⟨more,hm⟩:=g1
       rw[hm,List.getElem?_append_left hk0]at hk;exact hk
      have:=h2.row k K' s hk' hs
      exact⟨this.1,this.2.ext g1⟩
     ·rw[List.getElem?_append_right (by omega)]at hs
      have hk0:k=out.length:=by
       have:=(List.getElem?_eq_some_iff.1 hs).1
       simp at this;omega
      subst hk0
      rw[Nat.sub_self]at hs
      simp at hs;subst hs
      have:=g1.get hK
      rw[this]at hk
      obtain rfl:K=K':=by simpa using hk
      exact⟨rf,g3⟩
   obtain⟨kn',e1,e2,e3,e4⟩:=QK hS fu (BP K kn 256).1 (out++[(K [],(BP K kn 256).2)]) g2 hgo (by simp;omega)
   exact⟨kn',g1.trans e1,e2,e3,e4⟩
  ·rename_i hK
   have:=List.getElem?_eq_none_iff.1 hK
   exact⟨kn, .refl _,h1,h2,by have:=h2.le;omega⟩
theorem K0.lg{kn:List Lg}{out:Tb}(h:K0 kn out)(he:out.length=kn.length):∀(w:List UInt8) (i:Nat) (K:Lg),kn[i]?=some K→Bt out (i:Int) w=K w
 | [],i,K,hk=>by
  have hi:=(List.getElem?_eq_some_iff.1 hk).1
  have hs:out[i]?=some out[i]:=List.getElem?_eq_getElem (by omega)
  have:=(h.row i K _ hk hs).1
  simp[Bt,runT,fin,Cs,hs,this]
 |c::w,i,K,hk=>by
  have hi:=(List.getElem?_eq_some_iff.1 hk).1
  have hs:out[i]?=some out[i]:=List.getElem?_eq_getElem (by omega)
  have:=(h.row i K _ hk hs).2.2 c.toNat c.toNat_lt
  have e:Bt out (i:Int) (c::w)=Bt out (D8 out (i:Int) c.toNat) w:=rfl
  have e2:D8 out (i:Int) c.toNat=BW out[i].2 c.toNat:=by simp[D8,Cs,hs];omega
  have e3:K (c::w)=LQ K c.toNat w:=by simp[LQ]
  rw[e,e2,e3]
  split at this
  ·rename_i hl
   rw[this.2]
   have h4:=IM this.1
   exact K0.lg h he w _ _ (by rw[List.getElem?_eq_getElem h4,O8 h4])
  ·rename_i hl
   rw[this,FI (by decide)]
   have hl:live (LQ K c.toNat)=false:=by simpa using hl
   exact(F_.1 hl w).symm
theorem K0.wf{kn:List Lg}{out:Tb}(h:K0 kn out)(he:out.length=kn.length):E0 out:=by
 intro s hs
 obtain⟨i,hi,rfl⟩:=List.getElem_of_mem hs
 have hk:kn[i]?=some kn[i]:=List.getElem?_eq_getElem (by omega)
 have:=(h.row i _ _ hk (List.getElem?_eq_getElem hi)).2.1
 rw[he];exact this
theorem WB{S:List Lg}(hS:Yh S){L:Lg}(hL:live L=true→L∈S){fu:Nat}(hf:S.length<fu):
  E0 (HD fu L)∧Bt (HD fu L) 0=L∧(HD fu L).length≤S.length∧(live L=true→0<(HD fu L).length):=by
 unfold HD
 split
 ·rename_i hl
  obtain⟨kn,h1,h2,h3,h4⟩:=QK hS fu [L] [] ⟨by simp,by simpa using hL hl,by simpa using hl⟩ ⟨by simp,by simp⟩ (by simpa using hf)
  refine⟨h3.wf h4,funext fun w=>h3.lg h4 w 0 L (h1.get rf),by rw[h4];exact h2.le,fun _=>?_⟩
  rw[h4];have:=h1.len;simp at this;omega
 ·rename_i hl
  have hl:live L=false:=by simpa using hl
  refine⟨by simp[E0],funext fun w=>?_,by simp,fun h=>absurd h (by simp[hl])⟩
  rw[F_.1 hl w];simp[Bt,fin,Cs,runT]
theorem M9{S:List Lg}(hS:Yh S):∀(fu fu':Nat) (kn:List Lg) (out:Tb),KnOk S kn→K0 kn out→S.length<fu+out.length→S.length<fu'+out.length→HN fu kn out=HN fu' kn out
 |0,_,kn,out,h1,h2,h3,_=>by have:=h1.le;have:=h2.le;omega
 |_,0,kn,out,h1,h2,_,h3=>by have:=h1.le;have:=h2.le;omega
 |fu+1,fu'+1,kn,out,h1,h2,h3,h4=>by
  unfold HN
  split
  ·rename_i K hK
   have hKm:=List.mem_of_getElem? hK
   obtain⟨g1,g2,g3⟩:=Hl hS (h1.sub K hKm) h1 256 (Nat.le_refl _)
   refine M9 hS fu fu' _ _ g2 ⟨?_,?_⟩ (by simp;omega) (by simp;omega)
   ·have:=(List.getElem?_eq_some_iff.1 hK).1
    have:=g1.len
    simp;omega
   ·intro k K' s hk hs
    by_cases hlt:k<out.length
    ·rw[List.getElem?_append_left hlt]at hs
     have hk0:k<kn.length:=by have:=h2.le;omega
     have hk':kn[k]?=some K':=by
      obtain⟨more,hm⟩:=g1
      rw[hm,List.getElem?_append_left hk0]at hk;exact hk
     have:=h2.row k K' s hk' hs
     exact⟨this.1,this.2.ext g1⟩
    ·rw[List.getElem?_append_right (by omega)]at hs
     have hk0:k=out.length:=by
      have:=(List.getElem?_eq_some_iff.1 hs).1
      simp at this;omega
     subst hk0
     rw[Nat.sub_self]at hs
     simp at hs;subst hs
     have:=g1.get hK
     rw[this]at hk
     obtain rfl:K=K':=by simpa using hk
     exact⟨rf,g3⟩
  ·rfl
theorem Tn{S:List Lg}(hS:Yh S){L:Lg}(hL:live L=true→L∈S){fu fu':Nat}(hf:S.length<fu)(hf':S.length<fu'):HD fu L=HD fu' L:=by
 unfold HD
 split
 ·rename_i hl
  exact M9 hS fu fu' [L] [] ⟨by simp,by simpa using hL hl,by simpa using hl⟩ ⟨by simp,by simp⟩ (by simpa using hf) (by simpa using hf')
 ·rfl
def XK(l:Tb):List Lg:=(List.range l.length).map fun i=>Bt l (i:Nat)
theorem HI(l:Tb):(XK l).length=l.length:=by simp[XK]
theorem Kx{l:Tb}{i:Int}(h:0≤i)(h':i<l.length):Bt l i∈XK l:=by
 refine List.mem_map.2 ⟨i.toNat,by simp;omega,?_⟩
 rw[Int.toNat_of_nonneg h]
theorem Jt{l:Tb}(h:E0 l):Yh (XK l):=by
 intro K hK b hb hl
 obtain⟨i,hi,rfl⟩:=List.mem_map.1 hK
 rw[HL _ _ _ hb]at hl⊢
 rcases h.st (i:Int) b with h1|h1
 ·rw[h1,Ht (by decide)]at hl;cases hl
 ·exact Kx h1.1 h1.2
theorem Qk{l:Tb}(hl:live (Bt l 0)=true):Bt l 0∈XK l:=by
 cases l with
 |nil=>
  obtain⟨w,hw⟩:=Jc.1 hl
  exfalso
  have:Bt [] 0 w=false:=by simp[Bt,fin,Cs]
  rw[this]at hw;cases hw
 |cons s l=>exact Kx (by decide) (by simp)
theorem Sw{l:Tb}(h:E0 l){fu:Nat}(hf:l.length<fu):
  E0 (HD fu (Bt l 0))∧Bt (HD fu (Bt l 0)) 0=Bt l 0∧(HD fu (Bt l 0)).length≤l.length:=by
 have:=WB (Jt h) Qk (fu:=fu) (by rw[HI];exact hf)
 rw[HI]at this
 exact⟨this.1,this.2.1,this.2.2.1⟩
theorem Of{l:Tb}(h:E0 l){fu fu':Nat}(hf:l.length<fu)(hf':l.length<fu'):HD fu (Bt l 0)=HD fu' (Bt l 0):=
 Tn (Jt h) Qk (by rw[HI];exact hf) (by rw[HI];exact hf')
noncomputable def GI(l:Tb):Tb:=HD (l.length+1) (Bt l 0)
theorem Wy{l:Tb}(h:E0 l):E0 (GI l):=(Sw h (by omega)).1
theorem WA{l:Tb}(h:E0 l):(GI l).length≤l.length:=(Sw h (by omega)).2.2
theorem M8{l l':Tb}(h:E0 l)(h':E0 l')(e:Bt l 0=Bt l' 0):GI l=GI l':=by
 have h1:GI l=HD (l.length+l'.length+1) (Bt l 0):=Of h (by omega) (by omega)
 have h2:GI l'=HD (l.length+l'.length+1) (Bt l' 0):=Of h' (by omega) (by omega)
 rw[h1,h2,e]
end Go.GL
namespace Go.GL
abbrev Tr:=Int→List UInt8→Int→Prop
inductive Cl(T:Tr):Tr
 |refl (s:Int):Cl T s [] s
 |step {s t u:Int} {v w:List UInt8} :T s v t→Cl T t w u→Cl T s (v++w) u
theorem Cl.one{T:Tr}{s t:Int}{v:List UInt8}(h:T s v t):Cl T s v t:=by
 have:=Cl.step h (Cl.refl t)
 rwa [List.append_nil]at this
theorem Cl.trans{T:Tr}{s t u:Int}{v w:List UInt8}(h:Cl T s v t)(k:Cl T t w u):Cl T s (v++w) u:=by
 induction h with
 |refl s=>exact k
 |step h1 _ ih=>rw[List.append_assoc];exact .step h1 (ih k)
theorem Cl.mono{T T':Tr}(h:∀s w u,T s w u→Cl T' s w u){s u:Int}{w:List UInt8}(k:Cl T s w u):Cl T' s w u:=by
 induction k with
 |refl s=>exact .refl s
 |step h1 _ ih=>exact(h _ _ _ h1).trans ih
def Un(T R:Tr):Tr:=fun s w u=>T s w u∨R s w u
def HX(a:Int)(A:List UInt8→Prop)(b:Int):Tr:=fun s w u=>s=a∧u=b∧A w
inductive Vt(B:List UInt8→Prop):List UInt8→Prop
 |nil:Vt B []
 |cons {v w} :B v→Vt B w→Vt B (v++w)
def Kg(priv:Int→Prop)(T T':Tr):Prop:= ∀s w u,¬priv s→¬priv u→(Cl T s w u↔Cl T' s w u)
def Out(priv:Int→Prop)(R:Tr):Prop:= ∀s w u,R s w u→¬priv s∧¬priv u
def Gj(priv:Int→Prop)(D:Tr)(a:Int)(A:List UInt8→Prop)(b:Int):Prop:=
 ∀R:Tr,Out priv R→Kg priv (Un R D) (Un R (HX a A b))
theorem elim{R:Tr}{m a b:Int}{A B C:List UInt8→Prop}(hR:Out (fun s=>s=m) R)(ha:a≠m)(hb:b≠m):
  Kg (fun s=>s=m) (Un (Un (Un R (HX a A m)) (HX m B m)) (HX m C b)) (Un R (HX a (fun w=> ∃x y z,w=x++(y++z)∧A x∧Vt B y∧C z) b)):=by
 intro s w u hs hu
 let T:=Un (Un (Un R (HX a A m)) (HX m B m)) (HX m C b)
 let T':=Un R (HX a (fun w=> ∃x y z,w=x++(y++z)∧A x∧Vt B y∧C z) b)
 constructor
 ·intro h
  have key:∀ {s u:Int} {w:List UInt8},Cl T s w u→u≠m→(s≠m→Cl T' s w u)∧(s=m→∃y z r,w=y++(z++r)∧Vt B y∧C z∧Cl T' b r u):=by
   intro s u w h
   induction h with
   |refl s=>exact fun hu=>⟨fun _=> .refl s,fun h=>absurd h hu⟩
   | @step s t u v w h1 h2 ih=>
    intro hu
    obtain⟨i1,i2⟩:=ih hu
    constructor
    ·intro hs
     rcases h1 with((h1|⟨rfl,rfl,h1⟩)|⟨rfl,rfl,h1⟩)|⟨rfl,rfl,h1⟩
     ·exact .step (.inl h1) (i1 (hR _ _ _ h1).2)
     ·obtain⟨y,z,r,rfl,e1,e2,e3⟩:=i2 rfl
      have:Cl T' s (v++(y++z)) b:=Cl.one (.inr ⟨rfl,rfl,v,y,z,rfl,h1,e1,e2⟩)
      have:=this.trans e3
      simpa using this
     ·exact absurd rf hs
     ·exact absurd rf hs
    ·rintro rfl
     rcases h1 with((h1|⟨rfl,_,h1⟩)|⟨_,rfl,h1⟩)|⟨_,rfl,h1⟩
     ·exact absurd rf (hR _ _ _ h1).1
     ·exact absurd rf ha
     ·obtain⟨y,z,r,rfl,e1,e2,e3⟩:=i2 rfl
      exact⟨v++y,z,r,by simp, .cons h1 e1,e2,e3⟩
     ·exact⟨[],v,w,by simp, .nil,h1,i1 hb⟩
  exact(key h hu).1 hs
 ·refine Cl.mono fun s w u h=>?_
  rcases h with h|⟨rfl,rfl,x,y,z,rfl,h1,h2,h3⟩
  ·exact Cl.one (.inl (.inl (.inl h)))
  ·have e1:Cl T s x m:=Cl.one (.inl (.inl (.inr ⟨rfl,rfl,h1⟩)))
   have e2:Cl T m y m:=by
    clear e1 h1 h3
    induction h2 with
    |nil=>exact .refl m
    |cons h4 _ ih=>exact .step (.inl (.inr ⟨rfl,rfl,h4⟩)) ih
   exact e1.trans (e2.trans (Cl.one (.inr ⟨rf,rf,h3⟩)))
theorem Kg.trans{p q:Int→Prop}{T T' T'':Tr}(h:Kg p T T')(k:Kg q T' T''):Kg (fun s=>p s∨q s) T T'':=fun s w u hs hu=>
 (h s w u (fun e=>hs (.inl e)) (fun e=>hu (.inl e))).trans (k s w u (fun e=>hs (.inr e)) (fun e=>hu (.inr e)))
theorem Kg.SG{p q:Int→Prop}{T T':Tr}(h:Kg p T T')(hq:∀s,p s→q s):Kg q T T':=fun s w u hs hu=>h s w u (fun e=>hs (hq s e)) (fun e=>hu (hq u e))
theorem Kg.congr{p:Int→Prop}{T T' U U':Tr}(h:Kg p T T')(e:∀s w u,T s w u↔U s w u)(e':∀s w u,T' s w u↔U' s w u):Kg p U U':=by
 have h1:T=U:=by funext s w u;exact propext (e s w u)
 have h2:T'=U':=by funext s w u;exact propext (e' s w u)
 subst h1;subst h2;exact h
theorem Gj.congr{p:Int→Prop}{D D':Tr}{a b:Int}{A A':List UInt8→Prop}(h:Gj p D a A b)(e:∀s w u,D s w u↔D' s w u)(e':∀w,A w↔A' w):Gj p D' a A' b:=fun R hR=>
 (h R hR).congr (fun s w u=>by simp only[Un,e]) (fun s w u=>by simp only[Un,HX,e'])
theorem Gj.SG{p q:Int→Prop}{D:Tr}{a b:Int}{A:List UInt8→Prop}(h:Gj p D a A b)(hq:∀s,p s→q s):Gj q D a A b:=fun R hR=>
 (h R fun s w u r=>⟨fun e=>(hR s w u r).1 (hq s e),fun e=>(hR s w u r).2 (hq u e)⟩).SG hq
theorem Gj.ar(a b:Int)(A:List UInt8→Prop)(p:Int→Prop):Gj p (HX a A b) a A b:=fun _ _ _ _ _ _ _=>Iff.rfl
theorem RE(R E M:Tr)(s:Int)(w:List UInt8)(u:Int):Un (Un R E) M s w u↔Un (Un R M) E s w u:=by
 constructor
 ·rintro((h|h)|h)
  ·exact .inl (.inl h)
  ·exact .inr h
  ·exact .inl (.inr h)
 ·rintro((h|h)|h)
  ·exact .inl (.inl h)
  ·exact .inr h
  ·exact .inl (.inr h)
theorem Gj.alt{p q:Int→Prop}{D E:Tr}{a b:Int}{A B:List UInt8→Prop}(hD:Gj p D a A b)(hE:Gj q E a B b)(hpE:Out p E)(hqa:¬q a)(hqb:¬q b):
  Gj (fun s=>p s∨q s) (Un D E) a (fun w=>A w∨B w) b:=fun R hR=>by
 have h1:=hD (Un R E) fun s w u h=>by
  rcases h with h|h
  ·exact⟨fun e=>(hR _ _ _ h).1 (.inl e),fun e=>(hR _ _ _ h).2 (.inl e)⟩
  ·exact hpE _ _ _ h
 have h2:=hE (Un R (HX a A b)) fun s w u h=>by
  rcases h with h|⟨rfl,rfl,_⟩
  ·exact⟨fun e=>(hR _ _ _ h).1 (.inr e),fun e=>(hR _ _ _ h).2 (.inr e)⟩
  ·exact⟨hqa,hqb⟩
 refine((h1.congr (U:=Un R (Un D E)) (U':=Un (Un R (HX a A b)) E) (fun s w u=>?_) (fun s w u=>?_)).trans h2).congr (fun _ _ _=>Iff.rfl) (fun s w u=>?_)
 ·constructor
  ·rintro((h|h)|h)
   ·exact .inl h
   ·exact .inr (.inr h)
   ·exact .inr (.inl h)
  ·rintro(h|h|h)
   ·exact .inl (.inl h)
   ·exact .inr h
   ·exact .inl (.inr h)
 ·exact RE _ _ _ s w u
 ·simp only[Un,HX]
  constructor
  ·rintro((h|⟨h1,h2,h3⟩)|⟨h1,h2,h3⟩)
   ·exact .inl h
   ·exact .inr ⟨h1,h2, .inl h3⟩
   ·exact .inr ⟨h1,h2, .inr h3⟩
  ·rintro(h|⟨h1,h2,h3|h3⟩)
   ·exact .inl (.inl h)
   ·exact .inl (.inr ⟨h1,h2,h3⟩)
   ·exact .inr ⟨h1,h2,h3⟩
theorem Vs{w:List UInt8} :Vt (fun _=>False) w↔w=[]:=by
 constructor
 ·intro h
  cases h with
  |nil=>rfl
  |cons h _=>exact h.elim
 ·rintro rfl;exact .nil
theorem Gj.seq{p q:Int→Prop}{D E:Tr}{a m b:Int}{A B:List UInt8→Prop}(hD:Gj p D a A m)(hE:Gj q E m B b)(hpE:Out p E)(hqa:¬q a)(hqm:¬q m)(ham:a≠m)(hbm:b≠m):
  Gj (fun s=>p s∨q s∨s=m) (Un D E) a (fun w=> ∃x y,w=x++y∧A x∧B y) b:=fun R hR=>by
 have hRp:Out p R:=fun s w u h=>⟨fun e=>(hR _ _ _ h).1 (.inl e),fun e=>(hR _ _ _ h).2 (.inl e)⟩
 have hRq:Out q R:=fun s w u h=>⟨fun e=>(hR _ _ _ h).1 (.inr (.inl e)),fun e=>(hR _ _ _ h).2 (.inr (.inl e))⟩
 have hRm:Out (fun s=>s=m) R:=fun s w u h=>⟨fun e=>(hR _ _ _ h).1 (.inr (.inr e)),fun e=>(hR _ _ _ h).2 (.inr (.inr e))⟩
 have h1:=hD (Un R E) fun s w u h=>by
  rcases h with h|h
  ·exact hRp _ _ _ h
  ·exact hpE _ _ _ h
 have h2:=hE (Un R (HX a A m)) fun s w u h=>by
  rcases h with h|⟨rfl,rfl,_⟩
  ·exact hRq _ _ _ h
  ·exact⟨hqa,hqm⟩
 have h3:=elim (R:=R) (m:=m) (a:=a) (b:=b) (A:=A) (B:=fun _=>False) (C:=B) hRm ham hbm
 have e1:Kg p (Un R (Un D E)) (Un (Un R (HX a A m)) E):=h1.congr (fun s w u=>by
  constructor
  ·rintro((h|h)|h)
   ·exact .inl h
   ·exact .inr (.inr h)
   ·exact .inr (.inl h)
  ·rintro(h|h|h)
   ·exact .inl (.inl h)
   ·exact .inr h
   ·exact .inl (.inr h)) (fun s w u=>RE _ _ _ s w u)
 have e3:Kg (fun s=>s=m) (Un (Un R (HX a A m)) (HX m B b)) (Un R (HX a (fun w=> ∃x y,w=x++y∧A x∧B y) b)):=h3.congr (fun s w u=>by
  constructor
  ·rintro(((h|h)|⟨_,_,h⟩)|h)
   ·exact .inl (.inl h)
   ·exact .inl (.inr h)
   ·exact h.elim
   ·exact .inr h
  ·rintro((h|h)|h)
   ·exact .inl (.inl (.inl h))
   ·exact .inl (.inl (.inr h))
   ·exact .inr h) (fun s w u=>by
  simp only[Un,HX,Vs]
  constructor
  ·rintro(h|⟨h1,h2,x,y,z,rfl,h3,rfl,h5⟩)
   ·exact .inl h
   ·exact .inr ⟨h1,h2,x,z,by simp,h3,h5⟩
  ·rintro(h|⟨h1,h2,x,y,rfl,h3,h4⟩)
   ·exact .inl h
   ·exact .inr ⟨h1,h2,x,[],y,by simp,h3,rf,h4⟩)
 exact(e1.trans (h2.trans e3)).SG fun s h=>by
  rcases h with h|h|h
  ·exact .inl h
  ·exact .inr (.inl h)
  ·exact .inr (.inr h)
theorem Gj.star{p:Int→Prop}{D:Tr}{a m b:Int}{B:List UInt8→Prop}(hD:Gj p D m B m)(hpa:¬p a)(hpb:¬p b)(hpm:¬p m)(ham:a≠m)(hbm:b≠m):
  Gj (fun s=>p s∨s=m) (Un (Un (HX a (fun w=>w=[]) m) (HX m (fun w=>w=[]) b)) D) a (Vt B) b:=fun R hR=>by
 have hRp:Out p R:=fun s w u h=>⟨fun e=>(hR _ _ _ h).1 (.inl e),fun e=>(hR _ _ _ h).2 (.inl e)⟩
 have hRm:Out (fun s=>s=m) R:=fun s w u h=>⟨fun e=>(hR _ _ _ h).1 (.inr e),fun e=>(hR _ _ _ h).2 (.inr e)⟩
 have h1:=hD (Un R (Un (HX a (fun w=>w=[]) m) (HX m (fun w=>w=[]) b))) fun s w u h=>by
  rcases h with h|⟨rfl,rfl,_⟩|⟨rfl,rfl,_⟩
  ·exact hRp _ _ _ h
  ·exact⟨hpa,hpm⟩
  ·exact⟨hpm,hpb⟩
 have h3:=elim (R:=R) (m:=m) (a:=a) (b:=b) (A:=fun w=>w=[]) (B:=B) (C:=fun w=>w=[]) hRm ham hbm
 have e1:Kg p (Un R (Un (Un (HX a (fun w=>w=[]) m) (HX m (fun w=>w=[]) b)) D)) (Un (Un (Un R (HX a (fun w=>w=[]) m)) (HX m B m)) (HX m (fun w=>w=[]) b)):=h1.congr (fun s w u=>by
  constructor
  ·rintro((h|h)|h)
   ·exact .inl h
   ·exact .inr (.inl h)
   ·exact .inr (.inr h)
  ·rintro(h|h|h)
   ·exact .inl (.inl h)
   ·exact .inl (.inr h)
   ·exact .inr h) (fun s w u=>by
  constructor
  ·rintro((h|h|h)|h)
   ·exact .inl (.inl (.inl h))
   ·exact .inl (.inl (.inr h))
   ·exact .inr h
   ·exact .inl (.inr h)
  ·rintro(((h|h)|h)|h)
   ·exact .inl (.inl h)
   ·exact .inl (.inr (.inl h))
   ·exact .inr h
   ·exact .inl (.inr (.inr h)))
 have e3:=h3.congr (fun _ _ _=>Iff.rfl) (U':=Un R (HX a (Vt B) b)) (fun s w u=>by
  simp only[Un,HX]
  constructor
  ·rintro(h|⟨h1,h2,x,y,z,rfl,rfl,h4,rfl⟩)
   ·exact .inl h
   ·exact .inr ⟨h1,h2,by simpa using h4⟩
  ·rintro(h|⟨h1,h2,h3⟩)
   ·exact .inl h
   ·exact .inr ⟨h1,h2,[],w,[],by simp,rf,h3,rf⟩)
 exact e1.trans e3
theorem Gj.none(p:Int→Prop)(a b:Int):Gj p (fun _ _ _=>False) a (fun _=>False) b:=fun R _ s w u _ _=>by
 have:Un R (fun _ _ _=>False)=Un R (HX a (fun _=>False) b):=by
  funext s w u;simp[Un,HX]
 rw[this]
end Go.GL
namespace Go.GL
open Go.GK
def R3:AD:=fun _=>false
structure RC(r:Rx):Prop where
 lo:0≤r.kind
 hi:r.kind≤5
 set:r.kind≠2→MZ r.set R3=true
 len:if r.kind=3∨r.kind=4 then 2≤r.AL.length else if r.kind=5 then r.AL.length=1 else r.AL.length=0
def Ng:Nat→Rx→Prop
 |0,_=>False
 |d+1,r=>RC r∧∀x∈r.AL,Ng d x
def sz:Nat→Rx→Nat
 |0,_=>1
 |d+1,r=>2+r.AL.length+(r.AL.map (sz d)).sum
theorem TP{l:List Nat}{x:Nat}(h:x∈l):x≤l.sum:=by
 induction l with
 |nil=>cases h
 |cons a l ih=>
  rw[List.sum_cons]
  rcases List.mem_cons.1 h with rfl|h
  ·omega
  ·have:=ih h;omega
theorem JV{d:Nat}{r x:Rx}(h:x∈r.AL):2+r.AL.length+sz d x≤sz (d+1) r:=by
 have:=TP (List.mem_map_of_mem (f:=sz d) h)
 show _≤2+r.AL.length+(r.AL.map (sz d)).sum
 omega
theorem Mj(d:Nat)(r:Rx):2+r.AL.length≤sz (d+1) r:=by
 show _≤2+r.AL.length+(r.AL.map (sz d)).sum
 omega
theorem W2:Gt=Dz:=rfl
theorem QI:∀(d:Nat) (lev:Int) (r:Rx) (fu:Nat),lev+d=17→0≤lev→d+sz d r<fu→Ok (CT fu r lev) (fun e=>e=0↔Ng d r)
 |_,_,_,0,_,_,h=>absurd h (Nat.not_lt_zero _)
 |0,lev,r,fu+1,h,_,_=>by
  show Ok (CM fu (CT fu) r lev) _
  unfold CM
  exact Ok.iT (by omega) (Ok.some (by simp[Ng]))
 |d+1,lev,r,fu+1,h,h0,hf=>by
  have hlen:=Mj d r
  have loop:RC r→Ok (DA fu r lev (CT fu)) (fun e=>e=0↔Ng (d+1) r):=fun hK=>by
   unfold DA
   refine Ok.count (fun k=> ∀x∈r.AL.take k,Ng d x) r.AL.length (by simp) (by omega) (fun k nx hk hJ hn=>?_) (fun nx hJ=>?_)
   ·unfold E'
    have hm:r.AL[k]∈r.AL:=List.getElem_mem hk
    have hs:=JV (d:=d) hm
    refine Ok.iT (by omega) (Ok.BX hk (Ok.A0 (by unfold C0;omega) (Ok.AX (QI d (lev+1) _ fu (by omega) (by omega) (by omega)) fun e he=>Ok.ite (fun h1=>Ok.some ⟨fun h2=>absurd h2 h1,fun h2=>absurd (he.2 (h2.2 _ hm)) h1⟩) fun h1=>hn ?_)))
    intro x hx
    rw[←List.take_append_getElem hk]at hx
    rcases List.mem_append.1 hx with hx|hx
    ·exact hJ x hx
    ·simp at hx;subst hx;exact he.1 (by omega)
   ·unfold E'
    rw[List.take_of_length_le (Nat.le_refl _)]at hJ
    exact Ok.iF (by omega) (Ok.some ⟨fun _=>⟨hK,hJ⟩,fun _=>rfl⟩)
  have no:∀e:Int,e≠0→¬RC r→Ok (some e) (fun e=>e=0↔Ng (d+1) r):=fun e he hK=>Ok.some ⟨fun h=>absurd h he,fun h=>absurd h.1 hK⟩
  have j4:∀b:Bool,(b=true↔r.kind=3∨r.kind=4)→0≤r.kind→r.kind≤5→(r.kind≠2→MZ r.set R3=true)→Ok (Dz fu r lev (CT fu) b) (fun e=>e=0↔Ng (d+1) r):=fun b hb k0 k1 k2=>by
   unfold Dz
   refine Ok.bif (fun hb'=>?_) fun hb'=>?_
   ·have hk:=hb.1 hb'
    refine Ok.ite (fun h1=>no _ (by decide) fun hK=>?_) fun h1=>loop ⟨k0,k1,k2,by rw[if_pos hk];omega⟩
    have:=hK.len;rw[if_pos hk]at this;omega
   ·have hk:¬(r.kind=3∨r.kind=4):=fun h=>by rw[hb.2 h]at hb';cases hb'
    refine Ok.ite (fun h5=>Ok.ite (fun h1=>no _ (by decide) fun hK=>?_) fun h1=>loop ⟨k0,k1,k2,by rw[if_neg hk,if_pos h5];omega⟩) fun h5=>Ok.ite (fun h1=>no _ (by decide) fun hK=>?_) fun h1=>loop ⟨k0,k1,k2,by rw[if_neg hk,if_neg h5];omega⟩
    ·have:=hK.len;rw[if_neg hk,if_pos h5]at this;omega
    ·have:=hK.len;rw[if_neg hk,if_neg h5]at this;omega
  show Ok (CM fu (CT fu) r lev) _
  unfold CM
  rw[W2]
  refine Ok.iF (by omega) (Ok.ite (fun h1=>no _ (by decide) fun hK=>by have:=hK.lo;omega) fun h1=>Ok.ite (fun h2=>no _ (by decide) fun hK=>by have:=hK.hi;omega) fun h2=>Ok.ite (fun h3=>?_) fun h3=>?_)
  ·refine Ok.bif (fun h4=>no _ (by decide) fun hK=>?_) fun h4=>?_
   ·have:=hK.set h3
    rw[show(fun _=>false:AD)=R3 from rfl,this]at h4;cases h4
   ·have hset:MZ r.set R3=true:=by
     rw[show(fun _=>false:AD)=R3 from rfl]at h4
     cases h5:MZ r.set R3
     ·rw[h5]at h4;cases h4
     ·rfl
    exact Ok.ite (fun h5=>j4 _ (by simp[h5]) (by omega) (by omega) fun _=>hset) fun h5=>j4 _ (by simp[h5]) (by omega) (by omega) fun _=>hset
  ·exact Ok.ite (fun h5=>j4 _ (by simp[h5]) (by omega) (by omega) fun h6=>absurd h6 h3) fun h5=>j4 _ (by simp[h5]) (by omega) (by omega) fun h6=>absurd h6 h3
def Ls:List (List UInt8→Prop)→List UInt8→Prop
 | [],w=>w=[]
 |A::l,w=> ∃x y,w=x++y∧A x∧Ls l y
def mt:Nat→Rx→List UInt8→Prop
 |0,_,_=>False
 |d+1,r,w=>
  if r.kind=1 then w=[]
  else if r.kind=2 then∃c:UInt8,w=[c]∧r.set c.toNat=true
  else if r.kind=4 then∃x∈r.AL,mt d x w
  else if r.kind=3 then Ls (r.AL.map (mt d)) w
  else if r.kind=5 then Vt (fun v=> ∃x,r.AL[0]?=some x∧mt d x v) w
  else False
end Go.GL
namespace Go.GL
open Go.GK
abbrev NT:=(List (List Int))×(List (List (AD×Int×Int)))×Int
def QT(D:List (List Int)):Tr:=fun s w u=>w=[]∧0≤s∧∃l,D[s.toNat]?=some l∧u∈l
def VM(E:List (List (AD×Int×Int))):Tr:=fun s w u=> ∃c:UInt8,w=[c]∧0≤s∧∃l,E[s.toNat]?=some l∧∃e∈l,e.1 c.toNat=true∧e.2.1=u
def Nf(N:NT):Tr:=Un (QT N.1) (VM N.2.1)
structure NB(N:NT)(c:Nat):Prop where
 eq:N.1.length=N.2.1.length
 len:N.1.length≤c
 r1:∀l∈N.1,l.length≤c
 r2:∀l∈N.2.1,l.length≤c
 p0:0≤N.2.2
 p1:N.2.2≤c
 t1:∀l∈N.1,∀u∈l,0≤u∧u<N.1.length
 t2:∀l∈N.2.1,∀e∈l,0≤e.2.1∧e.2.1<N.1.length
 q2:∀l∈N.2.1,∀e∈l,0≤e.2.2∧e.2.2<N.2.2
def Pv(N N':NT)(s:Int):Prop:=(N.1.length:Int)≤s∧s<N'.1.length
structure Add(N N':NT)(a:Int)(A:List UInt8→Prop)(b:Int):Prop where
 len:N.1.length≤N'.1.length
 ex:∃Dl:Tr,(∀s w u,Nf N' s w u↔Un (Nf N) Dl s w u)∧(∀s w u,Dl s w u→(s=a∨Pv N N' s)∧(u=b∨Pv N N' u))∧Gj (Pv N N') Dl a A b
theorem NB.mono{N:NT}{c c':Nat}(h:NB N c)(hc:c≤c'):NB N c':=
 ⟨h.eq,by have:=h.len;omega,fun l hl=>by have:=h.r1 l hl;omega,fun l hl=>by have:=h.r2 l hl;omega,h.p0,by have:=h.p1;omega,h.t1,h.t2,h.q2⟩
theorem Add.congr{N N':NT}{a b:Int}{A A':List UInt8→Prop}(h:Add N N' a A b)(e:∀w,A w↔A' w):Add N N' a A' b:=by
 obtain⟨Dl,h1,h2,h3⟩:=h.ex
 exact⟨h.len,Dl,h1,h2,h3.congr (fun _ _ _=>Iff.rfl) e⟩
theorem Add.none(N:NT)(a b:Int):Add N N a (fun _=>False) b:=
 ⟨Nat.le_refl _,fun _ _ _=>False,fun s w u=>by simp[Un],fun _ _ _ h=>h.elim,Gj.none _ a b⟩
theorem Add.alt{N N1 N2:NT}{a b:Int}{A B:List UInt8→Prop}(h:Add N N1 a A b)(k:Add N1 N2 a B b)(ha:a<N.1.length)(hb:b<N.1.length):Add N N2 a (fun w=>A w∨B w) b:=by
 obtain⟨D,d1,d2,d3⟩:=h.ex
 obtain⟨E,e1,e2,e3⟩:=k.ex
 have l1:=h.len
 have l2:=k.len
 refine⟨by omega,Un D E,fun s w u=>?_,fun s w u hu=>?_,(Gj.alt d3 e3 (fun s w u hu=>?_) ?_ ?_).SG fun s hs=>?_⟩
 ·rw[e1];unfold Un;rw[d1];unfold Un;exact or_assoc
 ·unfold Pv at*
  rcases hu with hu|hu
  ·have:=d2 s w u hu;omega
  ·have:=e2 s w u hu;omega
 ·have:=e2 s w u hu
  unfold Pv at*;omega
 ·unfold Pv;omega
 ·unfold Pv;omega
 ·unfold Pv at*;omega
theorem Add.seq{N N0 N1 N2:NT}{a m b:Int}{A B:List UInt8→Prop}(h0:∀s w u,Nf N0 s w u↔Nf N s w u)(hl:N0.1.length=N.1.length+1)(hm:m=N.1.length)
  (h:Add N0 N1 a A m) (k:Add N1 N2 m B b) (ha:a<N.1.length) (hb:b<N.1.length):Add N N2 a (fun w=> ∃x y,w=x++y∧A x∧B y) b:=by
 obtain⟨D,d1,d2,d3⟩:=h.ex
 obtain⟨E,e1,e2,e3⟩:=k.ex
 have l1:=h.len
 have l2:=k.len
 refine⟨by omega,Un D E,fun s w u=>?_,fun s w u hu=>?_,(Gj.seq d3 e3 (fun s w u hu=>?_) ?_ ?_ ?_ ?_).SG fun s hs=>?_⟩
 ·rw[e1];unfold Un;rw[d1];unfold Un;rw[h0];exact or_assoc
 ·unfold Pv at*
  rcases hu with hu|hu
  ·have:=d2 s w u hu;omega
  ·have:=e2 s w u hu;omega
 ·have:=e2 s w u hu
  unfold Pv at*;omega
 ·unfold Pv;omega
 ·unfold Pv;omega
 ·omega
 ·omega
 ·unfold Pv at*;omega
theorem Add.star{N N0 N1:NT}{a m b:Int}{B:List UInt8→Prop}(h0:∀s w u,Nf N0 s w u↔Un (Nf N) (Un (HX a (fun w=>w=[]) m) (HX m (fun w=>w=[]) b)) s w u)(hl:N0.1.length=N.1.length+1)(hm:m=N.1.length)
  (h:Add N0 N1 m B m) (ha:a<N.1.length) (hb:b<N.1.length):Add N N1 a (Vt B) b:=by
 obtain⟨D,d1,d2,d3⟩:=h.ex
 have l1:=h.len
 refine⟨by omega,Un (Un (HX a (fun w=>w=[]) m) (HX m (fun w=>w=[]) b)) D,fun s w u=>?_,fun s w u hu=>?_,(Gj.star d3 ?_ ?_ ?_ ?_ ?_).SG fun s hs=>?_⟩
 ·rw[d1];unfold Un;rw[h0];unfold Un;exact or_assoc
 ·unfold Pv at*
  rcases hu with(⟨rfl,rfl,_⟩|⟨rfl,rfl,_⟩)|hu
  ·omega
  ·omega
  ·have:=d2 s w u hu;omega
 ·unfold Pv;omega
 ·unfold Pv;omega
 ·unfold Pv;omega
 ·omega
 ·omega
 ·unfold Pv at*;omega
theorem KG{α:Type}{D:List (List α)}{s:Nat}{l:List α} :(D++[[]])[s]?=some l↔D[s]?=some l∨s=D.length∧l=[]:=by
 rcases Nat.lt_trichotomy s D.length with h|h|h
 ·rw[List.getElem?_append_left h]
  exact⟨.inl,fun h'=>h'.elim id fun h'=>by omega⟩
 ·subst h
  rw[List.getElem?_append_right (Nat.le_refl _),Nat.sub_self]
  simp[eq_comm]
 ·rw[List.getElem?_eq_none (by simp;omega),List.getElem?_eq_none (by omega)]
  simp;omega
theorem PF(D:List (List Int))(s:Int)(w:List UInt8)(u:Int):QT (D++[[]]) s w u↔QT D s w u:=by
 unfold QT
 constructor
 ·rintro⟨h1,h2,l,h3,h4⟩
  rcases KG.1 h3 with h3|⟨_,rfl⟩
  ·exact⟨h1,h2,l,h3,h4⟩
  ·cases h4
 ·rintro⟨h1,h2,l,h3,h4⟩
  exact⟨h1,h2,l,KG.2 (.inl h3),h4⟩
theorem PE(E:List (List (AD×Int×Int)))(s:Int)(w:List UInt8)(u:Int):VM (E++[[]]) s w u↔VM E s w u:=by
 unfold VM
 constructor
 ·rintro⟨c,h1,h2,l,h3,e,h4,h5⟩
  rcases KG.1 h3 with h3|⟨_,rfl⟩
  ·exact⟨c,h1,h2,l,h3,e,h4,h5⟩
  ·cases h4
 ·rintro⟨c,h1,h2,l,h3,h4⟩
  exact⟨c,h1,h2,l,KG.2 (.inl h3),h4⟩
theorem G9{α:Type}{D:List (List α)}{a s:Nat}{x l:List α}{y:α}(hx:D[a]?=some x):(D.set a (x++[y]))[s]?=some l↔(s=a∧l=x++[y])∨(s≠a∧D[s]?=some l):=by
 have hl:=(List.getElem?_eq_some_iff.1 hx).1
 rw[List.getElem?_set]
 by_cases h:a=s
 ·subst h;simp[hl];exact⟨fun h=>h.symm,fun h=>h.symm⟩
 ·rw[if_neg h]
  exact⟨fun h'=> .inr ⟨fun e=>h e.symm,h'⟩,fun h'=>h'.elim (fun e=>absurd e.1.symm h) fun e=>e.2⟩
theorem Ov{D:List (List Int)}{a:Int}{x:List Int}{t:Int}(ha:0≤a)(hx:D[a.toNat]?=some x)(s:Int)(w:List UInt8)(u:Int):QT (D.set a.toNat (x++[t])) s w u↔Un (QT D) (HX a (fun w=>w=[]) t) s w u:=by
 unfold QT Un HX
 constructor
 ·rintro⟨h1,h2,l,h3,h4⟩
  rcases(G9 hx).1 h3 with⟨h5,rfl⟩|⟨_,h5⟩
  ·have:s=a:=by omega
   subst this
   rcases List.mem_append.1 h4 with h4|h4
   ·exact .inl ⟨h1,h2,x,hx,h4⟩
   ·simp at h4;exact .inr ⟨rfl,h4,h1⟩
  ·exact .inl ⟨h1,h2,l,h5,h4⟩
 ·rintro(⟨h1,h2,l,h3,h4⟩|⟨rfl,rfl,h1⟩)
  ·by_cases h:s.toNat=a.toNat
   ·rw[h,hx]at h3;cases h3
    exact⟨h1,h2,x++[t],(G9 hx).2 (.inl ⟨h,rf⟩),List.mem_append.2 (.inl h4)⟩
   ·exact⟨h1,h2,l,(G9 hx).2 (.inr ⟨h,h3⟩),h4⟩
  ·exact⟨h1,ha,x++[u],(G9 hx).2 (.inl ⟨rf,rf⟩),by simp⟩
theorem VL{E:List (List (AD×Int×Int))}{a:Int}{x:List (AD×Int×Int)}{p:AD}{t q:Int}(ha:0≤a)(hx:E[a.toNat]?=some x)(s:Int)(w:List UInt8)(u:Int):
  VM (E.set a.toNat (x++[(p,t,q)])) s w u↔Un (VM E) (HX a (fun w=> ∃c:UInt8,w=[c]∧p c.toNat=true) t) s w u:=by
 unfold VM Un HX
 constructor
 ·rintro⟨c,h1,h2,l,h3,e,h4,h6⟩
  rcases(G9 hx).1 h3 with⟨h5,rfl⟩|⟨_,h5⟩
  ·have:s=a:=by omega
   subst this
   rcases List.mem_append.1 h4 with h4|h4
   ·exact .inl ⟨c,h1,h2,x,hx,e,h4,h6⟩
   ·simp at h4;subst h4;exact .inr ⟨rfl,h6.2.symm,c,h1,h6.1⟩
  ·exact .inl ⟨c,h1,h2,l,h5,e,h4,h6⟩
 ·rintro(⟨c,h1,h2,l,h3,e,h4,h6⟩|⟨rfl,rfl,c,h1,h6⟩)
  ·by_cases h:s.toNat=a.toNat
   ·rw[h,hx]at h3;cases h3
    exact⟨c,h1,h2,_,(G9 hx).2 (.inl ⟨h,rf⟩),e,List.mem_append.2 (.inl h4),h6⟩
   ·exact⟨c,h1,h2,l,(G9 hx).2 (.inr ⟨h,h3⟩),e,h4,h6⟩
  ·exact⟨c,h1,ha,_,(G9 hx).2 (.inl ⟨rf,rf⟩),(p,u,q),by simp,h6,rf⟩
theorem Kw{α:Type}{D:List (List α)}{a:Nat}{x l:List α}{y:α}(hx:D[a]?=some x)(h:l∈D.set a (x++[y])):l∈D∨l=x++[y]:=by
 obtain⟨s,hs⟩:=List.mem_iff_getElem?.1 h
 rcases(G9 hx).1 hs with⟨_,rfl⟩|⟨_,h⟩
 ·exact .inr rf
 ·exact .inl (List.mem_of_getElem? h)
theorem NB.snoc{N:NT}{c:Nat}(h:NB N c):NB (N.1++[[]],N.2.1++[[]],N.2.2) (c+1):=by
 refine⟨by simp[h.eq],by have:=h.len;simp;omega,fun l hl=>?_,fun l hl=>?_,h.p0,by have:=h.p1;simp only;omega,fun l hl u hu=>?_,fun l hl e he=>?_,fun l hl e he=>?_⟩
 ·rcases List.mem_append.1 hl with hl|hl
  ·have:=h.r1 l hl;omega
  ·simp at hl;subst hl;simp
 ·rcases List.mem_append.1 hl with hl|hl
  ·have:=h.r2 l hl;omega
  ·simp at hl;subst hl;simp
 ·rcases List.mem_append.1 hl with hl|hl
  ·have:=h.t1 l hl u hu;simp;omega
  ·simp at hl;subst hl;cases hu
 ·rcases List.mem_append.1 hl with hl|hl
  ·have:=h.t2 l hl e he;simp;omega
  ·simp at hl;subst hl;cases he
 ·rcases List.mem_append.1 hl with hl|hl
  ·exact h.q2 l hl e he
  ·simp at hl;subst hl;cases he
theorem NB.free{N:NT}{c:Nat}(h:NB N c){a:Nat}{x:List Int}{t:Int}(hx:N.1[a]?=some x)(h0:0≤t)(h1:t<N.1.length):NB (N.1.set a (x++[t]),N.2.1,N.2.2) (c+1):=by
 have hm:=List.mem_of_getElem? hx
 refine⟨by simp[h.eq],by have:=h.len;simp;omega,fun l hl=>?_,fun l hl=>by have:=h.r2 l hl;omega,h.p0,by have:=h.p1;simp only;omega,fun l hl u hu=>?_,fun l hl e he=>by have:=h.t2 l hl e he;simp;omega,h.q2⟩
 ·rcases Kw hx hl with hl|rfl
  ·have:=h.r1 l hl;omega
  ·have:=h.r1 x hm;simp;omega
 ·rw[List.length_set]
  rcases Kw hx hl with hl|rfl
  ·exact h.t1 l hl u hu
  ·rcases List.mem_append.1 hu with hu|hu
   ·exact h.t1 x hm u hu
   ·simp at hu;subst hu;exact⟨h0,h1⟩
theorem NB.on{N:NT}{c:Nat}(h:NB N c){a:Nat}{x:List (AD×Int×Int)}{t:Int}{p:AD}(hx:N.2.1[a]?=some x)(h0:0≤t)(h1:t<N.1.length):NB (N.1,N.2.1.set a (x++[(p,t,N.2.2)]),N.2.2+1) (c+1):=by
 have hm:=List.mem_of_getElem? hx
 have hp:=h.p0
 refine⟨by simp[h.eq],by have:=h.len;simp only;omega,fun l hl=>by have:=h.r1 l hl;omega,fun l hl=>?_,by simp only;omega,by have:=h.p1;simp only;omega,h.t1,fun l hl e he=>?_,fun l hl e he=>?_⟩
 ·rcases Kw hx hl with hl|rfl
  ·have:=h.r2 l hl;omega
  ·have:=h.r2 x hm;simp;omega
 ·rcases Kw hx hl with hl|rfl
  ·exact h.t2 l hl e he
  ·rcases List.mem_append.1 he with he|he
   ·exact h.t2 x hm e he
   ·simp at he;subst he;exact⟨h0,h1⟩
 ·dsimp only
  rcases Kw hx hl with hl|rfl
  ·have:=h.q2 l hl e he;omega
  ·rcases List.mem_append.1 he with he|he
   ·have:=h.q2 x hm e he;omega
   ·simp at he;subst he;dsimp only;omega
theorem Add.one{N N':NT}{a b:Int}{A:List UInt8→Prop}(hl:N'.1.length=N.1.length)(h:∀s w u,Nf N' s w u↔Un (Nf N) (HX a A b) s w u):Add N N' a A b:=
 ⟨by omega,HX a A b,h,fun s w u h=>⟨.inl h.1, .inl h.2.1⟩,Gj.ar a b A _⟩
def Rt(d:Nat)(l:List Rx):Nat:=l.length+2*(l.map (sz d)).sum
theorem KN(d:Nat)(x:Rx)(l:List Rx):Rt d (x::l)=1+2*sz d x+Rt d l:=by unfold Rt;simp;omega
theorem KJ{l rest:List Rx}{x:Rx}{k:Nat}(h:l.drop k=x::rest):∃hk:k<l.length,l[k]=x∧l.drop (k+1)=rest:=by
 have hk:k<l.length:=by
  rcases Nat.lt_or_ge k l.length with h1|h1
  ·exact h1
  ·rw[List.drop_eq_nil_of_le h1]at h;cases h
 refine⟨hk,?_⟩
 rw[List.drop_eq_getElem_cons hk]at h
 exact⟨(List.cons.inj h).1,(List.cons.inj h).2⟩
def Yc(d:Nat)(slf:NT→Rx→Int→Int→Option NT)(xs:List Rx):Prop:=
 ∀x∈xs,∀N c (a b:Int),NB N c→0≤a→a<N.1.length→0≤b→b<N.1.length→c+2*sz d x≤8589934592→Ok (slf N x a b) (fun N'=>NB N' (c+2*sz d x)∧Add N N' a (mt d x) b)
theorem QP{d fu:Nat}{r:Rx}{a b:Int}{slf:NT→Rx→Int→Int→Option NT}(hs:Yc d slf r.AL)(ha:0≤a)(hb:0≤b):∀(rest:List Rx) (f k c:Nat) (N:NT),r.AL.drop k=rest→rest.length<f→NB N c→a<N.1.length→b<N.1.length→c+Rt d rest≤8589934592→
  Ok (Ax f (fun p nx=>BO fu r a b slf p.1 p.2.1 p.2.2.1 p.2.2.2 nx) (N.1,N.2.1,k,N.2.2)) (fun N'=>NB N' (c+Rt d rest)∧Add N N' a (fun w=> ∃x∈rest,mt d x w) b)
 |_,0,_,_,_,_,h,_,_,_,_=>absurd h (Nat.not_lt_zero _)
 | [],f+1,k,c,N,hk,_,hN,h1,h2,hc=>by
  have hk:r.AL.length≤k:=by
   rcases Nat.lt_or_ge k r.AL.length with h|h
   ·rw[List.drop_eq_getElem_cons h]at hk;cases hk
   ·exact h
  show Ok (BO fu r a b slf N.1 N.2.1 k N.2.2 _) _
  unfold BO
  exact Ok.iF (by omega) (Ok.some ⟨hN.mono (by omega),(Add.none N a b).congr fun w=>by simp⟩)
 |x::rest,f+1,k,c,N,hk,hf,hN,h1,h2,hc=>by
  obtain⟨hk,hx,hd⟩:=KJ hk
  rw[KN]at hc⊢
  show Ok (BO fu r a b slf N.1 N.2.1 k N.2.2 _) _
  unfold BO
  refine Ok.iT (by omega) (Ok.BX hk ?_)
  rw[hx]
  have hm:x∈r.AL:=hx▸List.getElem_mem hk
  refine Ok.AX (hs x hm N c a b hN ha h1 hb h2 (by omega)) fun N1 ⟨g1,g2⟩=>?_
  have hl:=g2.len
  refine(QP (fu:=fu) hs ha hb rest f (k+1) (c+2*sz d x) N1 hd (by simp at hf;omega) g1 (by omega) (by omega) (by omega)).mono fun N2 ⟨g3,g4⟩=>⟨g3.mono (by omega),?_⟩
  exact(Add.alt g2 g4 h1 h2).congr fun w=>by simp
theorem QJ{d fu:Nat}{r:Rx}{b:Int}{slf:NT→Rx→Int→Int→Option NT}(hs:Yc d slf r.AL)(hb:0≤b):∀(rest:List Rx) (f k c:Nat) (N:NT) (a:Int),rest≠ []→r.AL.drop k=rest→rest.length<f→NB N c→0≤a→a<N.1.length→b<N.1.length→c+Rt d rest≤8589934592→
  Ok (Ax f (fun p nx=>BN fu r b slf p.1 p.2.1 p.2.2.1 p.2.2.2.1 p.2.2.2.2 nx) (N.1,N.2.1,a,k,N.2.2)) (fun N'=>NB N' (c+Rt d rest)∧Add N N' a (Ls (rest.map (mt d))) b)
 |_,0,_,_,_,_,_,_,h,_,_,_,_,_=>absurd h (Nat.not_lt_zero _)
 | [],_+1,_,_,_,_,h,_,_,_,_,_,_,_=>absurd rfl h
 |x::rest,f+1,k,c,N,a,_,hk,hf,hN,ha,h1,h2,hc=>by
  obtain⟨hk,hx,hd⟩:=KJ hk
  have hlr:rest.length=r.AL.length-(k+1):=by rw[←hd,List.length_drop]
  have hlen:=hN.len
  have heq:=hN.eq
  rw[KN]at hc⊢
  show Ok (BN fu r b slf N.1 N.2.1 a k N.2.2 _) _
  unfold BN
  refine Ok.iT (by omega) (Ok.BX hk ?_)
  rw[hx]
  have hm:x∈r.AL:=hx▸List.getElem_mem hk
  have hf':rest.length<f:=by simp at hf;omega
  refine Ok.ite (fun h3=>?_) fun h3=>?_
  ·refine Ok.A0 (by unfold AH;omega) (Ok.A0 (by unfold AH;omega) ?_)
   unfold C3
   have hN0:=hN.snoc
   have hl0:(N.1++[[]]).length=N.1.length+1:=by simp
   rw[show((N.2.1.length:Nat):Int)=(N.1.length:Nat) by omega]
   refine Ok.AX (hs x hm (N.1++[[]],N.2.1++[[]],N.2.2) (c+1) a N.1.length hN0 ha (by simp only[hl0];omega) (by omega) (by simp only[hl0];omega) (by omega)) fun N1 ⟨g1,g2⟩=>?_
   have hl:=g2.len
   simp only[hl0]at hl
   refine(QJ (fu:=fu) hs hb rest f (k+1) (c+1+2*sz d x) N1 N.1.length (fun h=>by subst h;simp at hlr;omega) hd hf' g1 (by omega) (by omega) (by omega) (by omega)).mono fun N2 ⟨g3,g4⟩=>⟨g3.mono (by omega),?_⟩
   refine Add.seq (m:=N.1.length) (fun s w u=>?_) hl0 rf g2 g4 h1 h2
   unfold Nf Un
   rw[PF,PE]
  ·obtain rfl:rest=[]:=List.length_eq_zero_iff.1 (by omega)
   unfold C3
   refine Ok.AX (hs x hm N c a b hN ha h1 hb h2 (by omega)) fun N1 ⟨g1,g2⟩=>?_
   cases f with
   |zero=>simp at hf'
   |succ f=>
    show Ok (BN fu r b slf N1.1 N1.2.1 b (k+1) N1.2.2 _) _
    unfold BN
    refine Ok.iF (by omega) (Ok.some ⟨g1.mono (by omega),g2.congr fun w=>?_⟩)
    show mt d x w↔∃y z,w=y++z∧mt d x y∧z=[]
    constructor
    ·intro h;exact⟨w,[],by simp,h,rfl⟩
    ·rintro⟨y,z,rfl,h,rfl⟩;simpa using h
theorem Vq:∀(d:Nat) (r:Rx) (fu:Nat),Ng d r→d+sz d r<fu→∀N c (a b:Int),NB N c→0≤a→a<N.1.length→0≤b→b<N.1.length→c+2*sz d r≤8589934592→
  Ok (Cr fu N r a b) (fun N'=>NB N' (c+2*sz d r)∧Add N N' a (mt d r) b)
 |_,_,0,_,h,_,_,_,_,_,_,_,_,_,_=>absurd h (Nat.not_lt_zero _)
 |0,_,_+1,h,_,_,_,_,_,_,_,_,_,_,_=>h.elim
 |d+1,r,fu+1,hr,hf,N,c,a,b,hN,ha,h1,hb,h2,hc=>by
  have hK:=hr.1
  have hs:Yc d (Cr fu) r.AL:=fun x hx N c a b hN ha h1 hb h2 hc=>by
   have:=JV (d:=d) hx
   exact Vq d x fu (hr.2 x hx) (by omega) N c a b hN ha h1 hb h2 hc
  have hlen:=hN.len
  have heq:=hN.eq
  have hsl:=Mj d r
  have hbud:Rt d r.AL≤2*sz (d+1) r:=by
   show _≤2*(2+r.AL.length+(r.AL.map (sz d)).sum)
   unfold Rt;omega
  have g1:N.1[a.toNat]?=some (N.1[a.toNat]'(by omega)):=List.getElem?_eq_getElem (by omega)
  have g2:N.2.1[a.toNat]?=some (N.2.1[a.toNat]'(by omega)):=List.getElem?_eq_getElem (by omega)
  have b1:=hN.r1 _ (List.getElem_mem (by omega:a.toNat<N.1.length))
  have b2:=hN.r2 _ (List.getElem_mem (by omega:a.toNat<N.2.1.length))
  have hp0:=hN.p0
  have hp1:=hN.p1
  show Ok (DK fu (Cr fu) N r a b) _
  unfold DK
  refine Ok.ite (fun k1=>Ok.I8 ha g1 (Ok.A0 (by simp;unfold AH;omega) (Ok.some ⟨(hN.free g1 hb h2).mono (by omega),?_⟩))) fun k1=>Ok.ite (fun k2=>Ok.I8 ha g2 (Ok.A0 (by simp;unfold AH;omega) (Ok.A0 (by unfold C0;omega) (Ok.some ⟨(hN.on g2 hb h2).mono (by omega),?_⟩)))) fun k2=>Ok.ite (fun k4=>?_) fun k4=>Ok.ite (fun k3=>?_) fun k3=>Ok.ite (fun k5=>?_) fun k5=>Ok.some ⟨hN.mono (by omega),(Add.none N a b).congr fun w=>?_⟩
  ·refine Add.one (by simp) fun s w u=>?_
   have:mt (d+1) r=fun w=>w=[]:=by funext w;unfold mt;rw[if_pos k1]
   rw[this]
   unfold Nf Un
   rw[Ov ha g1]
   unfold Un
   exact or_right_comm
  ·refine Add.one rf fun s w u=>?_
   have:mt (d+1) r=fun w=> ∃c:UInt8,w=[c]∧r.set c.toNat=true:=by funext w;unfold mt;rw[if_neg k1,if_pos k2]
   rw[this]
   unfold Nf Un
   rw[VL ha g2]
   unfold Un
   exact or_assoc.symm
  ·refine(QP (fu:=fu) hs ha hb r.AL fu 0 c N rf (by omega) hN h1 h2 (by omega)).mono fun N' ⟨e1,e2⟩=>⟨e1.mono (by omega),e2.congr fun w=>?_⟩
   conv=>rhs;unfold mt
   rw[if_neg k1,if_neg k2,if_pos k4]
  ·have hl:=hK.len
   rw[if_pos (.inl k3)]at hl
   refine(QJ (fu:=fu) hs hb r.AL fu 0 c N a (fun h=>by rw[h]at hl;simp at hl) rf (by omega) hN ha h1 h2 (by omega)).mono fun N' ⟨e1,e2⟩=>⟨e1.mono (by omega),e2.congr fun w=>?_⟩
   conv=>rhs;unfold mt
   rw[if_neg k1,if_neg k2,if_neg k4,if_pos k3]
  ·have hl:=hK.len
   rw[if_neg (by omega),if_pos k5]at hl
   have g3:(N.1++[[]])[a.toNat]?=some (N.1[a.toNat]'(by omega)):=by rw[List.getElem?_append_left (by omega)];exact g1
   have hN0:=hN.snoc
   have hl0:(N.1++[[]]).length=N.1.length+1:=by simp
   have hN1:=hN0.free (t:=N.1.length) g3 (by omega) (by simp only[hl0];omega)
   have hx:r.AL[0]?=some (r.AL[0]'(by omega)):=List.getElem?_eq_getElem (by omega)
   have hxm:r.AL[0]'(by omega)∈r.AL:=List.getElem_mem _
   have hss:=JV (d:=d) hxm
   generalize r.AL[0]'(by omega)=x at hx hxm hss
   rw[show((N.2.1.length:Nat):Int)=(N.1.length:Nat) by omega,show N.2.1.length=N.1.length by omega]
   have g4:((N.1++[[]]).set a.toNat (N.1[a.toNat]'(by omega)++[(N.1.length:Int)]))[N.1.length]?=some []:=by
    rw[List.getElem?_set_ne (by omega)];simp
   have hN2:=hN1.free (t:=b) g4 hb (by simp only[List.length_set,hl0];omega)
   refine Ok.A0 (by unfold AH;omega) (Ok.A0 (by unfold AH;omega) (Ok.I8 ha g3 (Ok.A0 (by simp;unfold AH;omega) (Ok.I8 (by omega) g4 (Ok.A0 (by simp;unfold AH;omega) (Ok.I8 (by omega) hx ?_))))))
   refine Ok.AX (hs x hxm _ (c+1+1+1) N.1.length N.1.length hN2 (by omega) (by simp only[List.length_set,hl0];omega) (by omega) (by simp only[List.length_set,hl0];omega) (by omega)) fun N' ⟨e1,e2⟩=>Ok.some ⟨e1.mono (by omega),?_⟩
   refine(Add.star (N:=N) (fun s w u=>?_) (by simp) rf e2 h1 h2).congr fun w=>?_
   ·unfold Nf Un
    dsimp only
    have e0:=Ov (a:=(N.1.length:Int)) (t:=b) (by omega) g4 s w u
    rw[Int.toNat_natCast]at e0
    rw[e0]
    unfold Un
    rw[Ov ha g3]
    unfold Un
    rw[PF,PE]
    constructor
    ·rintro(((h|h)|h)|h)
     ·exact .inl (.inl h)
     ·exact .inr (.inl h)
     ·exact .inr (.inr h)
     ·exact .inl (.inr h)
    ·rintro((h|h)|(h|h))
     ·exact .inl (.inl (.inl h))
     ·exact .inr h
     ·exact .inl (.inl (.inr h))
     ·exact .inl (.inr h)
   ·conv=>rhs;unfold mt
    rw[if_neg k1,if_neg k2,if_neg k4,if_neg k3,if_pos k5]
    have:mt d x=fun v=> ∃y,r.AL[0]?=some y∧mt d y v:=by
     funext v;rw[hx];simp
    rw[this]
  ·unfold mt
   rw[if_neg k1,if_neg k2,if_neg k4,if_neg k3,if_neg k5]
end Go.GL
namespace Go.GL
open Go.GK
def ZE(l:Tb):Prop:= ∀s∈l,∀e∈s.2,(0≤e.1∧e.1≤255)∧0≤e.2.1∧e.2.1≤255
def Nd(l:Tb)(n:Nat):Prop:=l.length≤n∧∀s∈l,s.2.length≤n
theorem D9.take_succ{es:List Fw}{m n j:Nat}(hj:j<es.length):
  D9 (es.take (j+1)) m n↔D9 (es.take j) m n∧(0≤es[j].1∧es[j].1≤es[j].2.1∧es[j].2.1<m∧0≤es[j].2.2∧es[j].2.2<n)∧(0<j→(es[j-1]'(by omega)).2.1<es[j].1):=by
 rw[←List.take_append_getElem hj]
 constructor
 ·rintro⟨h1,h2⟩
  have h3:=List.pairwise_append.1 h2
  refine⟨⟨fun e he=>h1 e (List.mem_append.2 (.inl he)),h3.1⟩,h1 _ (List.mem_append.2 (.inr (by simp))),fun h0=>h3.2.2 _ ?_ _ (by simp)⟩
  exact List.mem_take_iff_getElem.2 ⟨j-1,by omega,rf⟩
 ·rintro⟨⟨h1,h2⟩,h3,h4⟩
  refine⟨fun e he=>?_,List.pairwise_append.2 ⟨h2,by simp,fun a ha b hb=>?_⟩⟩
  ·rcases List.mem_append.1 he with he|he
   ·exact h1 e he
   ·simp at he;subst he;exact h3
  ·simp at hb;subst hb
   obtain⟨i,hi,rfl⟩:=List.mem_take_iff_getElem.1 ha
   have h0:0<j:=by omega
   have h5:=h4 h0
   rcases Nat.lt_or_ge i (j-1)with h|h
   ·have h6:=List.pairwise_iff_getElem.1 h2 i (j-1) (by simp;omega) (by simp;omega) h
    simp only[List.getElem_take]at h6
    have h7:=h1 (es[j-1]'(by omega)) (List.mem_take_iff_getElem.2 ⟨j-1,by omega,rfl⟩)
    omega
   ·obtain rfl:i=j-1:=by omega
    exact h5
theorem DN{α:Type}(l:List α):l.take l.length=l:=List.take_of_length_le (Nat.le_refl _)
theorem Cw{α:Type}{l:List α}{k:Nat}(hk:k<l.length){x:α} :x∈l.take (k+1)↔x∈l.take k∨x=l[k]:=by
 rw[←List.take_append_getElem hk,List.mem_append];simp only[List.mem_singleton]
theorem JF{l:Tb}{n fu:Nat}(hb:ZE l)(hs:Nd l n)(hf:n<fu)(hn:n<4294967296):Ok (DJ fu l) (fun r=>r=true↔E0 l):=by
 unfold DJ
 refine Ok.count (fun k=> ∀s∈l.take k,D9 s.2 256 l.length) l.length (by simp) (by have:=hs.1;omega) (fun k nx hk hJ hn=>?_) (fun nx hJ=>?_)
 ·unfold C5
  have hm:l[k]∈l:=List.getElem_mem hk
  have hsl:=hs.2 _ hm
  refine Ok.iT (by omega) (Ok.BX hk ?_)
  refine Ok.count (fun j=>D9 (l[k].2.take j) 256 l.length) l[k].2.length (by simp;exact .nil) (by omega) (fun j nx' hj hE hn'=>?_) (fun nx' hE=>?_)
  ·unfold C4
   have hbe:=hb _ hm _ (List.getElem_mem hj)
   have hno:∀h:¬D9 (l[k].2.take (j+1)) 256 l.length,Ok (some false) (fun r=>r=true↔E0 l):=fun h=>
    Ok.some ⟨fun h=>(by cases h),fun hw=>absurd ⟨fun e he=>(hw _ hm).rg e (List.mem_of_mem_take he),(hw _ hm).so.sublist (List.take_sublist _ _)⟩ h⟩
   rw[D9.take_succ hj]at hno
   refine Ok.iT (by omega) (Ok.BX hj ?_)
   refine Ok.ite (fun h=>hno (by omega)) fun h1=>Ok.ite (fun h=>hno (by omega)) fun h2=>Ok.ite (fun h=>hno (by omega)) fun h3=>Ok.ite (fun h4=>?_) (fun h4=>?_)
   ·have h5:((j:Int)-1).toNat=j-1:=by omega
    refine Ok.A0 (by unfold C0;omega) (Ok.Rn (by omega) (by omega) ?_)
    refine Ok.ite (fun h=>hno ?_) fun h6=>hn' ((D9.take_succ hj).2 ⟨hE,by omega,fun _=>?_⟩)
    ·rintro⟨_,_,h7⟩
     have:=h7 (by omega)
     simp only[h5]at h
     omega
    ·simp only[h5]at h6;omega
   ·exact hn' ((D9.take_succ hj).2 ⟨hE,by omega,fun h=>by omega⟩)
  ·unfold C4
   refine Ok.iF (by omega) (hn fun s hs'=>?_)
   rcases(Cw hk).1 hs' with h|rfl
   ·exact hJ s h
   ·rw[DN]at hE;exact hE
 ·unfold C5
  refine Ok.iF (by omega) (Ok.some ⟨fun _ s hs'=>hJ s (by rw[DN];exact hs'),fun _=>rfl⟩)
theorem PM{es:List Fw}{b j:Nat}(hj:j<es.length)(h:EL b es[j]=true)(hb:∀i (hi:i<j),EL b es[i]=false):BW es b=es[j].2.2:=by
 have:es.find? (EL b)=some es[j]:=List.find?_eq_some_iff_getElem.2 ⟨h,j,hj,rfl,fun i hi=>by simp[hb i hi]⟩
 unfold BW;rw[this]
theorem Q5{es:List Fw}{b:Nat}(hb:∀i (hi:i<es.length),EL b es[i]=false):BW es b= -1:=by
 have:es.find? (EL b)=none:=List.find?_eq_none.2 fun e he=>by
  obtain⟨i,hi,rfl⟩:=List.getElem_of_mem he
  simp[hb i hi]
 unfold BW;rw[this]
theorem Gv{l:Tb}{i:Int}(h0:0≤i)(h1:i<l.length):Cs l i=l[i.toNat]'(by omega):=by
 unfold Cs;rw[List.getD_eq_getElem?_getD,List.getElem?_eq_getElem (by omega)];rfl
theorem Sb(i:Int)(s:List UInt8):Bt [] i s=false:=by simp[Bt,fin,Cs]
theorem Jf{α:Type}{a b:List α}(h:a.length=b.length)(k:∀j (h:j<a.length) (h':j<b.length),a[j]=b[j]):a=b:=List.ext_getElem h fun j h1 h2=>k j h1 h2
theorem Ok.Z8{R:Type}{P:R→Prop}{x y:Fw}{p q:Option R}(hp:x≠y→Ok p P)(hq:x=y→Ok q P):
  Ok (bif !(decide (([x.1,x.2.1,x.2.2]:List Int)=[y.1,y.2.1,y.2.2]))then p else q) P:=by
 have key:([x.1,x.2.1,x.2.2]:List Int)=[y.1,y.2.1,y.2.2]↔x=y:=
  ⟨fun h=>by simp at h;exact Prod.ext h.1 (Prod.ext h.2.1 h.2.2),fun h=>by rw[h]⟩
 by_cases h:x=y
 ·rw[decide_eq_true (key.2 h)];exact hq h
 ·rw[decide_eq_false (fun e=>h (key.1 e))];exact hp h
theorem Q8{a b:List Fw}{fu:Nat}(hf:a.length<fu):Ok (Fy fu a b) (fun r=>r=true↔a=b):=by
 unfold Fy
 refine Ok.ite (fun h=>Ok.some ⟨fun h=>(by cases h),fun h'=>by subst h';exact absurd rfl h⟩) fun h=>?_
 have hl:a.length=b.length:=by omega
 refine Ok.count (fun k=> ∀j (_:j<k) (h:j<a.length) (h':j<b.length),a[j]=b[j]) a.length (by intro j h;omega) hf (fun k nx hk hJ hn=>?_) (fun nx hJ=>?_)
 ·unfold Di
  refine Ok.iT (by omega) (Ok.BX hk (Ok.BX (by omega) ?_))
  have hkb:k<b.length:=by omega
  refine Ok.Z8 (fun h=>Ok.some ⟨fun h=>(by cases h),fun h'=>?_⟩) fun h=>hn fun j hj h1 h2=>?_
  ·subst h';exact absurd rfl h
  ·rcases Nat.lt_or_ge j k with h3|h3
   ·exact hJ j h3 h1 h2
   ·obtain rfl:j=k:=by omega
    exact h
 ·unfold Di
  exact Ok.iF (by omega) (Ok.some ⟨fun _=>Jf hl fun j h h'=>hJ j h h h',fun _=>rfl⟩)
theorem TU{a b:Vy}{fu:Nat}(hf:a.2.length<fu):Ok (IC fu a b) (fun r=>r=true↔a=b):=by
 unfold IC
 refine Ok.bif (fun h=>Ok.AX (Q8 hf) fun r hr=>Ok.some ?_) fun h=>Ok.some ⟨fun h=>(by cases h),fun h'=>by subst h';simp at h⟩
 rw[hr]
 exact⟨fun h'=>Prod.ext (by simpa using h) h',fun h'=>by rw[h']⟩
theorem Yf{a b:Tb}{n fu:Nat}(hs:Nd a n)(hf:n<fu):Ok (KR fu a b) (fun r=>r=true↔a=b):=by
 unfold KR
 refine Ok.AX (Q:=fun r=>r=true↔a=b) ?_ fun r hr=>Ok.some hr
 unfold Cy
 refine Ok.ite (fun h=>Ok.some ⟨fun h=>(by cases h),fun h'=>by subst h';exact absurd rfl h⟩) fun h=>?_
 have hl:a.length=b.length:=by omega
 refine Ok.count (fun k=> ∀j (_:j<k) (h:j<a.length) (h':j<b.length),a[j]=b[j]) a.length (by intro j h;omega) (by have:=hs.1;omega) (fun k nx hk hJ hn=>?_) (fun nx hJ=>?_)
 ·unfold BD
  have hkb:k<b.length:=by omega
  refine Ok.iT (by omega) (Ok.BX hk (Ok.BX (by omega) (Ok.AX (TU (by have:=hs.2 _ (List.getElem_mem hk);omega)) fun r hr=>?_)))
  refine Ok.bif (fun h=>Ok.some ⟨fun h=>(by cases h),fun h'=>?_⟩) fun h=>hn fun j hj h1 h2=>?_
  ·subst h';simp at hr;subst hr;cases h
  ·rcases Nat.lt_or_ge j k with h3|h3
   ·exact hJ j h3 h1 h2
   ·obtain rfl:j=k:=by omega
    exact hr.1 (by cases r;cases h;rfl)
 ·unfold BD
  exact Ok.iF (by omega) (Ok.some ⟨fun _=>Jf hl fun j h h'=>hJ j h h h',fun _=>rfl⟩)
theorem TT{a b:Tb}{n fu:Nat}(hs:Nd a n)(hf:n<fu):Ok (GC fu a b) (fun r=>r=true↔a=b):=by
 unfold GC
 refine Ok.ite (fun h=>Ok.some ⟨fun h=>(by cases h),fun h'=>by subst h';exact absurd rfl h⟩) fun h=>?_
 have hl:a.length=b.length:=by omega
 refine Ok.count (fun k=> ∀j (_:j<k) (h:j<a.length) (h':j<b.length),a[j]=b[j]) a.length (by intro j h;omega) (by have:=hs.1;omega) (fun k nx hk hJ hn=>?_) (fun nx hJ=>?_)
 ·unfold Fh
  have hkb:k<b.length:=by omega
  refine Ok.iT (by omega) (Ok.BX hk (Ok.BX (by omega) ?_))
  refine Ok.bif (fun h=>Ok.some ⟨fun h=>(by cases h),fun h'=>by subst h';simp at h⟩) fun h1=>Ok.ite (fun h=>Ok.some ⟨fun h=>(by cases h),fun h'=>by subst h';simp at h⟩) fun h2=>?_
  have hl2:a[k].2.length=b[k].2.length:=by omega
  refine Ok.count (fun i=> ∀j (_:j<i) (h:j<a[k].2.length) (h':j<b[k].2.length),a[k].2[j]=b[k].2[j]) a[k].2.length (by intro j h;omega) (by have:=hs.2 _ (List.getElem_mem hk);omega) (fun i nx' hi hE hn'=>?_) (fun nx' hE=>?_)
  ·unfold Fg
   have hib:i<b[k].2.length:=by omega
   refine Ok.iT (by omega) (Ok.BX hi (Ok.BX hib ?_))
   refine Ok.Z8 (fun h=>Ok.some ⟨fun h=>(by cases h),fun h'=>by subst h';exact absurd rfl h⟩) fun h=>hn' fun j hj h1 h2=>?_
   rcases Nat.lt_or_ge j i with h3|h3
   ·exact hE j h3 h1 h2
   ·obtain rfl:j=i:=by omega
    exact h
  ·unfold Fg
   refine Ok.iF (by omega) (hn fun j hj h3 h4=>?_)
   rcases Nat.lt_or_ge j k with h5|h5
   ·exact hJ j h5 h3 h4
   ·obtain rfl:j=k:=by omega
    exact Prod.ext (by simpa using h1) (Jf hl2 fun j h h'=>hE j h h h')
 ·unfold Fh
  exact Ok.iF (by omega) (Ok.some ⟨fun _=>Jf hl fun j h h'=>hJ j h h h',fun _=>rfl⟩)
end Go.GL
namespace Go.GL
open Go.GK Go.Lib
def VE(l:List UInt8):Nat:=l.foldl (fun a c=>10*a+(c.toNat-48)) 0
theorem Jz{d:Nat}(h:d<10):(UInt8.ofNat (48+d)).toNat=48+d:=by
 simp;omega
theorem JN(u:Nat):VE (decDigits u)=u:=by
 induction u using Nat.strongRecOn with
 |_ u ih=>
  rw[decDigits]
  split
  ·rename_i h
   unfold VE
   rw[List.foldl_cons,List.foldl_nil,Jz h];omega
  ·unfold VE at ih⊢
   rw[List.foldl_append,ih (u/10) (by omega),List.foldl_cons,List.foldl_nil,Jz (by omega)];omega
theorem Nu(u:Nat):∀c∈decDigits u,48≤c.toNat:=by
 induction u using Nat.strongRecOn with
 |_ u ih=>
  rw[decDigits]
  split
  ·intro c hc;rw[List.mem_singleton]at hc;subst hc;rw[Jz (by omega)];omega
  ·intro c hc
   rcases List.mem_append.1 hc with hc|hc
   ·exact ih (u/10) (by omega) c hc
   ·rw[List.mem_singleton]at hc;subst hc;rw[Jz (by omega)];omega
theorem MJ:∀(k u:Nat),u<10^ (k+1)→nDigits u≤k+1
 |0,u,h=>by rw[nDigits_small (by simpa using h)];omega
 |k+1,u,h=>by
  by_cases hu:u<10
  ·rw[nDigits_small hu];omega
  ·have hp:1≤10^k:=Nat.one_le_pow _ _ (by decide)
   rw[nDigits_big hu]
   have:=MJ k (u/10) (by rw[Nat.pow_succ]at h⊢;omega)
   omega
theorem KC(u:Nat):itoa (u:Int)=decDigits u:=by unfold itoa;rw[if_neg (by omega)];simp
theorem Qo{u:Nat}(h:u<10000000000):(itoa (u:Int)).length≤10:=by
 rw[KC,decDigits_length];exact MJ 9 u (by simpa using h)
theorem Ju{n:Int}(h:0≤n):(44:UInt8)∉itoa n:=by
 intro hm
 obtain⟨u,rfl⟩:∃u:Nat,n=u:=⟨n.toNat,by omega⟩
 rw[KC]at hm
 have:=Nu u 44 hm
 exact absurd this (by decide)
theorem MS{n m:Int}(h:0≤n)(k:0≤m)(e:itoa n=itoa m):n=m:=by
 obtain⟨u,rfl⟩:∃u:Nat,n=u:=⟨n.toNat,by omega⟩
 obtain⟨v,rfl⟩:∃u:Nat,m=u:=⟨m.toNat,by omega⟩
 rw[KC,KC]at e
 have:=congrArg VE e
 rw[JN,JN]at this
 rw[this]
theorem HM:∀ {A B R S:List UInt8},44∉A→44∉B→(R=[]∨R.head?=some 44)→(S=[]∨S.head?=some 44)→A++R=B++S→A=B∧R=S
 | [],[],_,_,_,_,_,_,h=>⟨rfl,h⟩
 | [],b::B,R,S,_,hB,hR,_,h=>by
  simp only[List.nil_append,List.cons_append]at h
  subst h
  rcases hR with hR|hR
  ·cases hR
  ·simp at hR;subst hR;exact absurd (by simp) hB
 |a::A,[],R,S,hA,_,_,hS,h=>by
  simp only[List.nil_append,List.cons_append]at h
  subst h
  rcases hS with hS|hS
  ·cases hS
  ·simp at hS;subst hS;exact absurd (by simp) hA
 |a::A,b::B,R,S,hA,hB,hR,hS,h=>by
  simp only[List.cons_append,List.cons.injEq]at h
  have:=HM (fun hm=>hA (by simp[hm])) (fun hm=>hB (by simp[hm])) hR hS h.2
  exact⟨by rw[h.1,this.1],this.2⟩
def FP(l:List Int):Cb:=l.flatMap fun x=>([44]:Cb)++itoa x
def ER(l:List Int):Cb:=l.flatMap fun x=>itoa x++([44]:Cb)
theorem IH(l:List Int):FP l=[]∨(FP l).head?=some 44:=by
 cases l with
 |nil=>exact .inl rfl
 |cons x l=>exact .inr (by simp[FP])
theorem VT:∀ {l m:List Int} {x y:Int},(∀z∈l,0≤z)→(∀z∈m,0≤z)→0≤x→0≤y→itoa x++FP l=itoa y++FP m→x=y∧l=m
 |l,m,x,y,hl,hm,hx,hy,h=>by
  obtain⟨h1,h2⟩:=HM (Ju hx) (Ju hy) (IH l) (IH m) h
  refine⟨MS hx hy h1,?_⟩
  clear h h1
  induction l generalizing m with
  |nil=>
   cases m with
   |nil=>rfl
   |cons y m=>simp[FP]at h2
  |cons x l ih=>
   cases m with
   |nil=>simp[FP]at h2
   |cons y m=>
    have e1:itoa x++FP l=itoa y++FP m:=by simpa [FP]using h2
    obtain⟨h3,h4⟩:=HM (Ju (hl x (by simp))) (Ju (hm y (by simp))) (IH l) (IH m) e1
    rw[MS (hl x (by simp)) (hm y (by simp)) h3,ih m (fun z hz=>hl z (by simp[hz])) (fun z hz=>hm z (by simp[hz])) h4]
theorem key_inj:∀ {l m:List Int},(∀z∈l,0≤z)→(∀z∈m,0≤z)→ER l=ER m→l=m
 | [],[],_,_,_=>rfl
 | [],y::m,_,_,h=>by simp[ER]at h
 |x::l,[],_,_,h=>by simp[ER]at h
 |x::l,y::m,hl,hm,h=>by
  have e1:itoa x++(44::ER l)=itoa y++(44::ER m):=by simpa [ER]using h
  obtain⟨h3,h4⟩:=HM (Ju (hl x (by simp))) (Ju (hm y (by simp))) (.inr rfl) (.inr rfl) e1
  simp at h4
  rw[MS (hl x (by simp)) (hm y (by simp)) h3,key_inj (fun z hz=>hl z (by simp[hz])) (fun z hz=>hm z (by simp[hz])) h4]
section
variable {α : Type}
def CY(n:Nat)(f:Nat→α):List α:=(List.range n).map f
theorem BS(n:Nat)(f:Nat→α):(CY n f).length=n:=by simp[CY]
theorem Jo{n:Nat}{f:Nat→α}{i:Nat}(h:i<(CY n f).length):(CY n f)[i]=f i:=by simp[CY]
theorem EU{n:Nat}{f:Nat→α}{i:Nat}(h:i<n):(CY n f)[i]?=some (f i):=by
 rw[List.getElem?_eq_getElem (by rw[BS];exact h),Jo]
theorem BT{n:Nat}{f g:Nat→α}(h:∀i,i<n→f i=g i):CY n f=CY n g:=
 List.map_congr_left fun i hi=>h i (List.mem_range.1 hi)
theorem Cx(n:Nat)(f:Nat→α)(i:Nat)(x:α):(CY n f).set i x=CY n (fun j=>if j=i then x else f j):=by
 refine List.ext_getElem (by simp[CY]) fun j h1 h2=>?_
 rw[List.getElem_set,Jo,Jo]
 by_cases h:i=j
 ·rw[if_pos h,if_pos h.symm]
 ·rw[if_neg h,if_neg (fun e=>h e.symm)]
theorem E4(n:Nat)(x:α):List.replicate n x=CY n (fun _=>x):=by
 refine List.ext_getElem (by simp[CY]) fun j h1 h2=>by rw[Jo];simp
theorem Hk(n:Nat)(f:Nat→α):CY (n+1) f=CY n f++[f n]:=by simp[CY,List.range_succ]
theorem R7{n:Nat}{f:Nat→α}{x:α} :x∈CY n f↔∃i,i<n∧f i=x:=by simp[CY]
theorem RG{n:Nat}{f g:Nat→α} :CY n f=CY n g↔∀i,i<n→f i=g i:=by
 refine⟨fun h i hi=>?_,BT⟩
 have:=congrArg (·[i]?) h
 simpa [EU hi]using this
theorem Bw{n:Nat}{f:Nat→α}{i:Nat}(h:i<n):idx (CY n f) (i:Int)=some (f i):=by
 rw[IP (by rw[BS];exact h),Jo]
end
theorem DF{α:Type}{n:Nat}{f:Nat→α}{i:Int}(h0:0≤i)(h:i.toNat<n):idx (CY n f) i=some (f i.toNat):=by
 rw[Pa h0 (by rw[BS];omega),Jo]
section
variable {α β : Type}
theorem DX [DecidableEq α]:∀ {a b:List α},a.Nodup→(∀x∈a,x∈b)→a.length≤b.length
 | [],_,_,_=>by simp
 |x::a,b,hn,hs=>by
  have hn':=List.nodup_cons.1 hn
  have:=DX (a:=a) (b:=b.erase x) hn'.2 (fun y hy=>(List.mem_erase_of_ne (fun e=>by subst e;exact hn'.1 hy)).2 (hs y (by simp[hy])))
  rw[List.length_erase_of_mem (hs x (by simp))]at this
  have hp:0<b.length:=List.length_pos_of_mem (hs x (by simp))
  simp;omega
theorem LA [DecidableEq α]:∀ {b a:List α},a.Nodup→(∀x∈a,x∈b)→b.length≤a.length→b.Nodup
 | [],_,_,_,_=> .nil
 |x::b,a,hn,hs,hl=>by
  by_cases hx:x∈b
  ·have:=DX (b:=b) hn (fun y hy=>by
    rcases List.mem_cons.1 (hs y hy)with rfl|h
    ·exact hx
    ·exact h)
   simp at hl;omega
  ·refine List.nodup_cons.2 ⟨hx,LA (a:=a.erase x) (hn.erase x) (fun y hy=>?_) ?_⟩
   ·have h1:=List.Nodup.mem_erase_iff hn |>.1 hy
    rcases List.mem_cons.1 (hs y h1.2)with rfl|h
    ·exact absurd rf h1.1
    ·exact h
   ·have:=List.length_erase (a:=x) (l:=a)
    split at this<;>simp at hl<;>omega
structure IE(n:Nat)(f:Nat→α)(u:List α):Prop where
 nd:u.Nodup
 mem:∀x,x∈u↔∃s,s<n∧f s=x
open Classical in
theorem IE.le{n:Nat}{f:Nat→α}{u:List α}(h:IE n f u):u.length≤n:=by
 have:=DX (b:=CY n f) h.nd (fun x hx=>R7.2 ((h.mem x).1 hx))
 rwa [BS]at this
open Classical in
theorem IE.UJ{n:Nat}{f:Nat→α}{g:Nat→β}{u:List α}{v:List β}(hu:IE n f u)(hv:IE n g v)(hr:∀s t,s<n→t<n→g s=g t→f s=f t):
  u.length≤v.length∧(u.length=v.length→∀s t,s<n→t<n→f s=f t→g s=g t):=by
 have hc:∀x∈v,∃s,s<n∧g s=x:=fun x hx=>(hv.mem x).1 hx
 let p:β→α:=fun x=>if h:∃s,s<n∧g s=x then f (Classical.choose h)else f 0
 have hp:∀s,s<n→p (g s)=f s:=fun s hs=>by
  have h:∃t,t<n∧g t=g s:=⟨s,hs,rfl⟩
  have h1:=Classical.choose_spec h
  show(if h:∃t,t<n∧g t=g s then f (Classical.choose h)else f 0)=f s
  rw[dif_pos h];exact hr _ _ h1.1 hs h1.2
 have hs:∀y∈u,y∈v.map p:=fun y hy=>by
  obtain⟨s,hs,rfl⟩:=(hu.mem y).1 hy
  exact List.mem_map.2 ⟨g s,(hv.mem _).2 ⟨s,hs,rf⟩,hp s hs⟩
 refine⟨by have:=DX hu.nd hs;simpa using this,fun he s t hs' ht' hf=>?_⟩
 have hnd:=LA hu.nd hs (by simp[he])
 have h1:=(hv.mem _).2 ⟨s,hs',rfl⟩
 have h2:=(hv.mem _).2 ⟨t,ht',rfl⟩
 have h3:p (g s)=p (g t):=by rw[hp s hs',hp t ht',hf]
 obtain⟨i,hi,e1⟩:=List.getElem_of_mem h1
 obtain⟨j,hj,e2⟩:=List.getElem_of_mem h2
 have h4:(v.map p)[i]'(by simpa using hi)=(v.map p)[j]'(by simpa using hj):=by simp[e1,e2,h3]
 have:i=j:=by
  rcases Nat.lt_trichotomy i j with h5|h5|h5
  ·exact absurd h4 (List.pairwise_iff_getElem.1 hnd _ _ (by simpa using hi) (by simpa using hj) h5)
  ·exact h5
  ·exact absurd h4.symm (List.pairwise_iff_getElem.1 hnd _ _ (by simpa using hj) (by simpa using hi) h5)
 subst this
 rw[←e1,←e2]
theorem IE.zero(f:Nat→α):IE 0 f []:=⟨.nil,by simp⟩
theorem IE.new{n:Nat}{f:Nat→α}{u:List α}(h:IE n f u)(hn:f n∉u):IE (n+1) f (u++[f n]):=by
 refine⟨List.nodup_append.2 ⟨h.nd,by simp,fun a ha b hb=>?_⟩,fun x=>?_⟩
 ·simp at hb;subst hb;rintro rfl;exact hn ha
 ·rw[List.mem_append,h.mem,List.mem_singleton]
  constructor
  ·rintro(⟨s,hs,e⟩|rfl)
   ·exact⟨s,by omega,e⟩
   ·exact⟨n,by omega,rf⟩
  ·rintro⟨s,hs,rfl⟩
   rcases Nat.lt_or_ge s n with h1|h1
   ·exact .inl ⟨s,h1,rf⟩
   ·obtain rfl:s=n:=by omega
    exact .inr rf
theorem IE.Z7{n:Nat}{f:Nat→α}{u:List α}(h:IE n f u)(hn:f n∈u):IE (n+1) f u:=by
 refine⟨h.nd,fun x=>?_⟩
 rw[h.mem]
 constructor
 ·rintro⟨s,hs,e⟩;exact⟨s,by omega,e⟩
 ·rintro⟨s,hs,rfl⟩
  rcases Nat.lt_or_ge s n with h1|h1
  ·exact⟨s,h1,rf⟩
  ·obtain rfl:s=n:=by omega
   exact(h.mem _).1 hn
end
end Go.GL
namespace Go.GL
open Go.GK
def Ends(l:Tb)(b:Nat):Prop:=b=0∨∃s∈l,∃e∈s.2,e.1=(b:Int)∨e.2.1+1=(b:Int)
structure Co(cs:List Int):Prop where
 zero:cs[0]?=some 0
 ab:cs.Pairwise (· < ·)
 rg:∀c∈cs,0≤c∧c<256
def Hd(cs:List Int)(i:Nat):Int:=if i+1<cs.length then cs.getD (i+1) 0-1 else 255
def Gk(cs:List Int)(l:Tb):Prop:= ∀b:Nat,b<256→Ends l b→(b:Int)∈cs
theorem Co.pos{cs:List Int}(h:Co cs):0<cs.length:=(List.getElem?_eq_some_iff.1 h.zero).1
theorem Co.le{cs:List Int}(h:Co cs):cs.length≤256:=by
 have h1:(cs.map Int.toNat).Nodup:=by
  refine(List.pairwise_map.2 ?_)
  refine List.Pairwise.imp_of_mem (fun{a b} ha hb hab=>?_) h.ab
  have:=h.rg a ha;have:=h.rg b hb;omega
 have:=DX (b:=List.range 256) h1 (fun x hx=>by
  obtain⟨c,hc,rfl⟩:=List.mem_map.1 hx
  have:=h.rg c hc
  exact List.mem_range.2 (by omega))
 simpa using this
theorem Co.lt{cs:List Int}(h:Co cs){i j:Nat}(hi:i<cs.length)(hj:j<cs.length)(hij:i<j):cs[i]<cs[j]:=List.pairwise_iff_getElem.1 h.ab i j hi hj hij
theorem Co.YR{cs:List Int}(h:Co cs):cs[0]'h.pos=0:=by
 have:=h.zero;rw[List.getElem?_eq_getElem h.pos]at this;simpa using this
theorem GG{cs:List Int}{i:Nat}(h:i+1<cs.length):Hd cs i=cs[i+1]-1:=by
 unfold Hd;rw[if_pos h,List.getD_eq_getElem?_getD,List.getElem?_eq_getElem h];rfl
theorem Iw{cs:List Int}{i:Nat}(h:¬i+1<cs.length):Hd cs i=255:=by unfold Hd;rw[if_neg h]
theorem Co.hi{cs:List Int}(h:Co cs){i:Nat}(hi:i<cs.length):cs[i]≤Hd cs i∧Hd cs i<256:=by
 have h0:=h.rg _ (List.getElem_mem hi)
 by_cases h1:i+1<cs.length
 ·rw[GG h1]
  have:=h.lt hi h1 (by omega)
  have:=h.rg _ (List.getElem_mem h1)
  omega
 ·rw[Iw h1];omega
theorem Co.no{cs:List Int}(h:Co cs){i:Nat}(hi:i<cs.length){c:Int}(h1:cs[i]<c)(h2:c≤Hd cs i):c∉cs:=by
 intro hm
 obtain⟨j,hj,rfl⟩:=List.getElem_of_mem hm
 have hij:i<j:=by
  rcases Nat.lt_trichotomy i j with h3|h3|h3
  ·exact h3
  ·subst h3;omega
  ·have:=h.lt hj hi h3;omega
 have hs:i+1<cs.length:=by omega
 rw[GG hs]at h2
 rcases Nat.lt_or_ge (i+1) j with h3|h3
 ·have:=h.lt hs hj h3;omega
 ·obtain rfl:i+1=j:=by omega
  omega
theorem Gk.const{cs:List Int}{l:Tb}(h:Co cs)(hc:Gk cs l)(hw:E0 l){i:Nat}(hi:i<cs.length){b:Nat}(h1:cs[i]≤b)(h2:(b:Int)≤Hd cs i)(q:Int):D8 l q b=D8 l q cs[i].toNat:=by
 have hr:=h.rg _ (List.getElem_mem hi)
 have hh:=h.hi hi
 unfold D8
 split
 ·rfl
 ·have hE:∀e∈(Cs l q).2,EL b e=EL cs[i].toNat e:=by
   intro e he
   have hm:∃s∈l,e∈s.2:=by
    unfold Cs at he
    rw[List.getD_eq_getElem?_getD]at he
    cases hx:l[q.toNat]? with
    |none=>rw[hx]at he;simp at he
    |some s=>rw[hx]at he;exact⟨s,List.mem_of_getElem? hx,he⟩
   obtain⟨s,hs,he⟩:=hm
   have hg:=(hw s hs).rg e he
   have n1:¬(cs[i]<e.1∧e.1≤Hd cs i):=fun⟨a1,a2⟩=>h.no hi a1 a2 (by
    have:=hc e.1.toNat (by omega) (.inr ⟨s,hs,e,he, .inl (by omega)⟩)
    rwa [show((e.1.toNat:Nat):Int)=e.1 by omega]at this)
   have n2:¬(cs[i]<e.2.1+1∧e.2.1+1≤Hd cs i):=fun⟨a1,a2⟩=>h.no hi a1 a2 (by
    have:=hc (e.2.1+1).toNat (by omega) (.inr ⟨s,hs,e,he, .inr (by omega)⟩)
    rwa [show(((e.2.1+1).toNat:Nat):Int)=e.2.1+1 by omega]at this)
   simp only[EL]
   rw[show((cs[i].toNat:Nat):Int)=cs[i] by omega]
   congr 1
   ·exact decide_eq_decide.2 (by omega)
   ·exact decide_eq_decide.2 (by omega)
  unfold BW
  rw[show(Cs l q).2.find? (EL b)=(Cs l q).2.find? (EL cs[i].toNat)from ?_]
  generalize(Cs l q).2=es at hE
  induction es with
  |nil=>rfl
  |cons e es ih=>
   rw[List.find?_cons,List.find?_cons,hE e (by simp),ih fun e he=>hE e (by simp[he])]
theorem Co.find{cs:List Int}(h:Co cs)(b:Nat)(hb:b<256):∃i,∃hi:i<cs.length,cs[i]≤b∧(b:Int)≤Hd cs i:=by
 have key:∀k,k<cs.length→(∃i,∃hi:i<cs.length,cs[i]≤b∧(b:Int)≤Hd cs i)∨∃hk:k<cs.length,cs[k]≤b:=by
  intro k
  induction k with
  |zero=>intro hk;exact .inr ⟨hk,by rw[h.YR];omega⟩
  |succ k ih=>
   intro hk
   rcases ih (by omega)with h1|⟨h1,h2⟩
   ·exact .inl h1
   ·by_cases h3:cs[k+1]≤b
    ·exact .inr ⟨hk,h3⟩
    ·exact .inl ⟨k,h1,h2,by rw[GG hk];omega⟩
 rcases key (cs.length-1) (by have:=h.pos;omega)with h1|⟨h1,h2⟩
 ·exact h1
 ·exact⟨_,h1,h2,by rw[Iw (by omega)];omega⟩
theorem BM(p:Nat→Bool)(k:Nat):(List.range (k+1)).filter p=(List.range k).filter p++(if p k then [k]else []):=by
 rw[List.range_succ,List.filter_append];simp[List.filter_cons]
def ints(l:List Nat):List Int:=l.map fun(n:Nat)=>(n:Int)
theorem Iv(a b:List Nat):ints (a++b)=ints a++ints b:=by simp[ints]
theorem QB{p:Nat→Bool}(h0:p 0=true):Co (ints ((List.range 256).filter p)):=by
 refine⟨?_,?_,?_⟩
 ·have:List.range 256=0::(List.range' 1 255):=by rw[List.range_eq_range'];rfl
  rw[this,List.filter_cons,if_pos h0];rfl
 ·refine List.pairwise_map.2 (List.Pairwise.imp (fun{a b} h=>by omega) (List.Pairwise.filter _ List.pairwise_lt_range))
 ·intro c hc
  obtain⟨x,hx,rfl⟩:=List.mem_map.1 hc
  have:=List.mem_range.1 (List.mem_filter.1 hx).1
  omega
theorem U7{l:Tb}{n fu:Nat}(hw:E0 l)(hs:Nd l n)(hf:n<fu)(hf':256<fu):Ok (Lo fu l) (fun cs=>Co cs∧Gk cs l):=by
 unfold Lo
 refine Ok.BZ (a:=false) (by rw[E4];exact Bw (i:=0) (by decide)) ?_
 rw[E4,Cx]
 let E:Nat→Nat→Nat→Prop:=fun k j b=>b=0∨(∃s∈l.take k,∃e∈s.2,e.1=(b:Int)∨e.2.1+1=(b:Int))∨∃s,l[k]?=some s∧∃e∈s.2.take j,e.1=(b:Int)∨e.2.1+1=(b:Int)
 refine Ok.range (fun k x=> ∃p,x=CY 257 p∧∀b,b<257→(p b=true↔E k 0 b)) l.length ⟨_,rf,fun b hb=>?_⟩ (by have:=hs.1;omega) (fun k x nx hk hJ hn=>?_) (fun x nx hJ=>?_)
 ·by_cases h:b=0<;>simp[E,h]
 ·unfold Hj
  have hm:l[k]∈l:=List.getElem_mem hk
  have hsl:=hs.2 _ hm
  refine Ok.iT (by simp only;omega) (Ok.BX hk ?_)
  refine Ok.range (fun j x=> ∃p,x=CY 257 p∧∀b,b<257→(p b=true↔E k j b)) l[k].2.length hJ (by omega) (fun j x nx' hj hE hn'=>?_) (fun x nx' hE=>?_)
  ·unfold Hi
   obtain⟨p,rfl,hp⟩:=hE
   have hg:=(hw _ hm).rg _ (List.getElem_mem hj)
   refine Ok.iT (by simp only;omega) (Ok.BX hj ?_)
   simp only
   have e1:l[k].2[j].1=((l[k].2[j].1.toNat:Nat):Int):=by omega
   have e2:l[k].2[j].2.1+1=(((l[k].2[j].2.1+1).toNat:Nat):Int):=by omega
   refine Ok.BZ (by rw[e1];exact Bw (by omega)) (Ok.A0 (by unfold C0;omega) ?_)
   rw[Cx]
   refine Ok.BZ (by rw[e2];exact Bw (by omega)) ?_
   rw[Cx]
   refine hn' _ ⟨_,rf,fun b hb=>?_⟩
   have hE:E k (j+1) b↔E k j b∨l[k].2[j].1=(b:Int)∨l[k].2[j].2.1+1=(b:Int):=by
    simp only[E,List.getElem?_eq_getElem hk,Option.some.injEq,exists_eq_left',Cw hj]
    constructor
    ·rintro(h|h|⟨e,h|rfl,h2⟩)
     ·exact .inl (.inl h)
     ·exact .inl (.inr (.inl h))
     ·exact .inl (.inr (.inr ⟨e,h,h2⟩))
     ·exact .inr h2
    ·rintro((h|h|⟨e,h,h2⟩)|h)
     ·exact .inl h
     ·exact .inr (.inl h)
     ·exact .inr (.inr ⟨e, .inl h,h2⟩)
     ·exact .inr (.inr ⟨_, .inr rf,h⟩)
   rw[hE]
   by_cases h1:b=(l[k].2[j].2.1+1).toNat
   ·simp only[h1,if_true,true_iff];exact .inr (.inr e2)
   ·by_cases h2:b=l[k].2[j].1.toNat
    ·simp only[h1,if_false];simp only[h2,if_true,true_iff];exact .inr (.inl e1)
    ·simp only[h1,h2,if_false,hp b hb]
     constructor
     ·exact .inl
     ·rintro(h|h|h)
      ·exact h
      ·omega
      ·omega
  ·unfold Hi
   refine Ok.iF (by simp only;omega) (hn _ ?_)
   obtain⟨p,rfl,hp⟩:=hE
   refine⟨p,rf,fun b hb=>?_⟩
   rw[hp b hb]
   simp only[E,List.getElem?_eq_getElem hk,Option.some.injEq,exists_eq_left',Cw hk,DN,List.take_zero]
   constructor
   ·rintro(h|⟨s,h1,h2⟩|h)
    ·exact .inl h
    ·exact .inr (.inl ⟨s, .inl h1,h2⟩)
    ·exact .inr (.inl ⟨_, .inr rf,h⟩)
   ·rintro(h|⟨s,h1|rfl,h2⟩|⟨s,_,e,he,_⟩)
    ·exact .inl h
    ·exact .inr (.inl ⟨s,h1,h2⟩)
    ·exact .inr (.inr h2)
    ·cases he
 ·unfold Hj
  obtain⟨p,rfl,hp⟩:=hJ
  have hp':∀b,b<257→(p b=true↔Ends l b):=fun b hb=>by
   rw[hp b hb]
   simp only[E,DN]
   constructor
   ·rintro(h|h|⟨s,h,_⟩)
    ·exact .inl h
    ·exact .inr h
    ·rw[List.getElem?_eq_none (Nat.le_refl _)]at h;cases h
   ·rintro(h|h)
    ·exact .inl h
    ·exact .inr (.inl h)
  refine Ok.iF (by simp only;omega) ?_
  refine Ok.range (fun k x=>x=ints ((List.range k).filter p)) 256 rf hf' (fun k x nx' hk hx hn=>?_) (fun x nx' hx=>?_)
  ·subst hx
   unfold Hg
   refine Ok.iT (by simp only;omega) (Ok.BZ (Bw (by omega)) (Ok.bif (fun h=>Ok.A0 ?_ (hn _ ?_)) fun h=>hn _ ?_))
   ·have:=List.length_filter_le p (List.range k)
    rw[List.length_range]at this
    simp[ints];unfold AH;omega
   ·rw[BM,Iv,if_pos h];rfl
   ·rw[BM,if_neg (by rw[h];decide),List.append_nil]
  ·subst hx
   unfold Hg
   refine Ok.iF (by simp only;omega) (Ok.some ⟨QB ((hp' 0 (by decide)).2 (.inl rf)),fun b hb hE=>?_⟩)
   exact List.mem_map.2 ⟨b,List.mem_filter.2 ⟨List.mem_range.2 hb,(hp' b (by omega)).2 hE⟩,rf⟩
end Go.GL
