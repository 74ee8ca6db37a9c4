/- Part 4 of the texts of this claim: what its theorem leans on. -/
import Derived.Test.YtjmbmodmepdmjaaGreatDoorZAutomatonOf3
set_option maxRecDepth 100000
set_option maxHeartbeats 4000000
namespace Go.Proofs.YtjmbmodmepdmjaaGreatDoor
open Go.GK
variable {H : Hp} {O : List Bj}
theorem I2{fu:Nat}{a0:List (Bool×(List (Int×Int×Int)))}{v1:Value}{r:Bool}(hv1:AW (cP cB (cL (cP AZ (cP AZ Ao)))) H a0 v1)(hd:DJ fu a0=some r):
    Ca Tryz.prog 23 [v1] H O (.bool r):=by
 intro w hs
 refine Bz Tryz.func23 rf rf rf ?_ hs
 clear hs w
 unfold DJ at hd
 refine Wp.sr<|Aa.op (Ab.assign rf) rf<|Aa.Af<|Wp.seq<|Wp.sr<|Aa.op (Ab.move rf) rf ?_
 have hb1:=hv1.le
 refine Aa.op (Ab.len CG rf hv1.sl) rf<|Aa.op (Ab.move rf) rf<|Aa.Af<|Wp.block<|Wp.A_ (fun m LL HH OO=> ∃(k1:Nat),[(0,v1),(7,v1),(8,(.int .i64 (a0.length:Int))),(9,(.int .i64 (k1:Int)))]=LL∧O=OO∧Ax m (C5 fu a0) k1=some r) fu ⟨0,rf,rf,hd⟩ (Sub.of rf) ?_
 intro m1 L1 H1 O1 hl1 hI1
 obtain⟨k1,rfl,rfl,hd⟩:=hI1
 obtain⟨m2,nx1,rfl,hn1,hd⟩:=A9 hd
 replace hd:C5 fu a0 k1 nx1=some r:=hd
 unfold C5 at hd
 refine Wp.sr<|Aa.op (Ab.lss rf rf) rf<|Aa.Af<|Wp.seq ?_
 refine Wp.cond rf (fun hb2=>?_) (fun hb2=>?_)
 ·
  obtain⟨hb2,hd⟩:=bT hb2 hd
  refine Wp.skip<|At.Ad<|Wp.seq<|Wp.block<|Wp.seq ?_
  obtain⟨x1,hx1,hd⟩:=Ae hd
  have hx1_:=Ah hx1
  refine Wp.region ?_
  obtain⟨_,⟨_,_,rfl,rfl,⟨v2,rfl,hv2⟩⟩,hc1⟩:=AW.get (hv1.mono hl1) hx1
  refine Aa.op (Ab.Bo CG Bl rf (hv1.mono hl1).sl rf (Ah hx1)) rf<|Aa.op (Ab.C9 (vs:=[(.bool x1.1),v2]) NA rf Bl rf rf (fun j u hj=>(hc1 j u hj))) rf<|Aa.alloc (cs:= #[(.bool false),(.slice none 0 0)]) Bl rf rf fun B2=>Aa.AP (i:=0) (cs':= #[(.bool x1.1),v2]) rf rf Bl rf rf (Bc (Ac rf (Ac hv2.one (As)))) rf ?_
  refine Aa.own (O:=_::_) ?_ rf
  refine Aa.Af<|Wp.sr<|Aa.op (Ab.AV (o':=1) Bv rf rf) rf<|Aa.op (Ab.Am (i:=0) (v:=v2) CC rf rf rf rf) rf ?_
  have hb3:=hv2.le
  refine Aa.op (Ab.len CC rf hv2.sl) rf<|Aa.op (Ab.move rf) rf<|Aa.Af<|Wp.block<|Wp.A_ (fun m LL HH OO=> ∃(k2:Nat),[(0,v1),(4,(ptr B2 0)),(7,v1),(8,(.int .i64 (a0.length:Int))),(9,(.int .i64 (k1:Int))),(14,v2),(15,(.int .i64 (x1.2.length:Int))),(16,(.int .i64 (k2:Int)))]=LL∧ .AM B2 (.cells #[(.bool x1.1),v2] 43 (0,0))::O=OO∧Ax m (C4 fu a0 k1 nx1 x1) k2=some r) fu ⟨0,rf,rf,hd⟩ (Sub.of rf) ?_
  intro m3 L2 H2 O2 hl2 hI2
  obtain⟨k2,rfl,rfl,hd⟩:=hI2
  obtain⟨m4,nx2,rfl,hn2,hd⟩:=A9 hd
  replace hd:C4 fu a0 k1 nx1 x1 k2 nx2=some r:=hd
  unfold C4 at hd
  refine Wp.sr<|Aa.op (Ab.lss rf rf) rf<|Aa.Af<|Wp.seq ?_
  refine Wp.cond rf (fun hb4=>?_) (fun hb4=>?_)
  ·
   obtain⟨hb4,hd⟩:=bT hb4 hd
   refine Wp.skip<|At.Ad<|Wp.seq<|Wp.block<|Wp.seq ?_
   obtain⟨x2,hx2,hd⟩:=Ae hd
   have hx2_:=Ah hx2
   refine Wp.region<|Aa.op (Ab.move rf) rf ?_
   obtain⟨_,⟨_,_,rfl,⟨rfl,hr1,hr2⟩,⟨_,_,rfl,⟨rfl,hr3,hr4⟩,rfl⟩⟩,hc2⟩:=AW.get (hv2.mono hl2) hx2
   refine Aa.op (Ab.Bo CC BA rf (hv2.mono hl2).sl rf (Ah hx2)) rf<|Aa.op (Ab.C9 (vs:=[(.int .u8 x2.1),(.int .u8 x2.2.1),(.int .i64 x2.2.2)]) QS rf BA rf rf (fun j u hj=>(hc2 j u hj))) rf<|Aa.alloc (cs:= #[(.int .u8 0),(.int .u8 0),(.int .i64 0)]) BA rf rf fun B3=>Aa.op (Ab.assign rf) rf<|Aa.AP (i:=0) (cs':= #[(.int .u8 x2.1),(.int .u8 x2.2.1),(.int .i64 x2.2.2)]) rf rf BA rf rf (Bc (Ac rf (Ac rf (Ac rf (As))))) rf ?_
   refine Aa.own (O:=_::_::_) ?_ rf
   refine Aa.Af<|Wp.seq ?_
   rcases Bool.eq_false_or_eq_true (decide (x2.2.1<x2.1))with hg1|hg1
   ·
    obtain⟨hg1_,hd⟩:=bT hg1 hd
    refine Wp.CV 33 follows rf (by kernel_rfl)<|Ag.A6 (Ab.AV (o':=0) Dg rf rf) rf<|Ag.A6 (Ab.Am (i:=0) (v:=(.int .u8 x2.1)) u5 rf rf rf rf) rf<|Ag.A6 (Ab.AV (o':=1) C_ rf rf) rf<|Ag.A6 (Ab.Am (i:=0) (v:=(.int .u8 x2.2.1)) u5 rf rf rf rf) rf<|Ag.A6 (Ab.Bg (b:=decide (x2.2.1<x2.1)) (c:=true) (Ab.gtr rf rf) hg1) rf<|Ag.A6 (Ab.move rf) rf<|Ag.Aw rf rf rf rf ?_
    refine Ag.Aw rf rf rf rf<|Ag.Aw rf rf rf rf<|Ag.A6 (Ab.AK rf rf) rf<|Ag.A6 (Ab.move rf) rf<|Ag.Aw rf rf rf rf<|Ag.Aw rf rf rf rf<|Ag.Aw rf rf rf rf<|Ag.Aw rf rf rf rf ?_
    refine Ag.Aw rf rf rf rf<|Ag.A6 (Ab.AK rf rf) rf<|Ag.A6 (Ab.move rf) rf<|Ag.Aw rf rf rf rf<|Ag.Aw rf rf rf rf<|Ag.Aw rf rf rf rf<|Ag.Bh rf rf rf<|Ag.Bh rf rf rf ?_
    refine Ag.Bh rf rf rf<|Ag.Bh rf rf rf<|Ag.Bh rf rf rf<|Ag.Bh rf rf rf<|Ag.Bh rf rf rf<|Ag.Bh rf rf rf<|Ag.Bh rf rf rf<|Ag.Bh rf rf rf ?_
    refine Ag.Aw rf rf rf rf<|Ag.A6 (Ab.AK rf rf) rf<|Ag.CW<|Ap.is (t:=0) rf<|Ap.is (t:=4) rf<|Ap.is (t:=7) rf<|Ap.is (t:=8) rf<|Ap.is (t:=9) rf ?_
    refine Ap.is (t:=14) rf<|Ap.is (t:=15) rf<|Ap.is (t:=16) rf<|Ap.is (t:=53) rf<|Ap.JB<|Aa.Af<|Wp.D_ rf<|Wp.sr ?_
    refine Aa.op (Ab.assign rf) rf<|Aa.Af<|Wp.ret<|At.Be<|At.Av<|At.Av<|At.Be<|At.Be ?_
    refine At.Av<|At.Av<|At.Be<|At.Av ?_
    obtain rfl:=si hd
    exact At.q1 2 (hl1.trans hl2) rf (RV.tmp rf) rf
   obtain⟨hg1_,hd⟩:=bF hg1 hd
   rcases Bool.eq_false_or_eq_true (decide (x2.2.2<0))with hg2|hg2
   ·
    obtain⟨hg2_,hd⟩:=bT hg2 hd
    refine Wp.CV 33 follows rf (by kernel_rfl)<|Ag.A6 (Ab.AV (o':=0) Dg rf rf) rf<|Ag.A6 (Ab.Am (i:=0) (v:=(.int .u8 x2.1)) u5 rf rf rf rf) rf<|Ag.A6 (Ab.AV (o':=1) C_ rf rf) rf<|Ag.A6 (Ab.Am (i:=0) (v:=(.int .u8 x2.2.1)) u5 rf rf rf rf) rf<|Ag.A6 (Ab.Bg (b:=decide (x2.2.1<x2.1)) (c:=false) (Ab.gtr rf rf) hg1) rf<|Ag.A6 (Ab.move rf) rf<|Ag.AY rf rf (Ab.AV (o':=2) CI rf rf) rf ?_
    refine Ag.AY rf rf (Ab.Am (i:=0) (v:=(.int .i64 x2.2.2)) u3 rf rf rf rf) rf<|Ag.AY rf rf (Ab.Bg (b:=decide (x2.2.2<0)) (c:=true) (Ab.lss rf rf) hg2) rf<|Ag.A6 (Ab.AA rf rf) rf<|Ag.A6 (Ab.move rf) rf<|Ag.Aw rf rf rf rf<|Ag.Aw rf rf rf rf<|Ag.Aw rf rf rf rf<|Ag.Aw rf rf rf rf ?_
    refine Ag.Aw rf rf rf rf<|Ag.A6 (Ab.AK rf rf) rf<|Ag.A6 (Ab.move rf) rf<|Ag.Aw rf rf rf rf<|Ag.Aw rf rf rf rf<|Ag.Aw rf rf rf rf<|Ag.Bh rf rf rf<|Ag.Bh rf rf rf ?_
    refine Ag.Bh rf rf rf<|Ag.Bh rf rf rf<|Ag.Bh rf rf rf<|Ag.Bh rf rf rf<|Ag.Bh rf rf rf<|Ag.Bh rf rf rf<|Ag.Bh rf rf rf<|Ag.Bh rf rf rf ?_
    refine Ag.Aw rf rf rf rf<|Ag.A6 (Ab.AK rf rf) rf<|Ag.CW<|Ap.is (t:=0) rf<|Ap.is (t:=4) rf<|Ap.is (t:=7) rf<|Ap.is (t:=8) rf<|Ap.is (t:=9) rf ?_
    refine Ap.is (t:=14) rf<|Ap.is (t:=15) rf<|Ap.is (t:=16) rf<|Ap.is (t:=53) rf<|Ap.JB<|Aa.Af<|Wp.D_ rf<|Wp.sr ?_
    refine Aa.op (Ab.assign rf) rf<|Aa.Af<|Wp.ret<|At.Be<|At.Av<|At.Av<|At.Be<|At.Be ?_
    refine At.Av<|At.Av<|At.Be<|At.Av ?_
    obtain rfl:=si hd
    exact At.q1 2 (hl1.trans hl2) rf (RV.tmp rf) rf
   obtain⟨hg2_,hd⟩:=bF hg2 hd
   rcases Bool.eq_false_or_eq_true (decide ((a0.length:Int)≤x2.2.2))with hg3|hg3
   ·
    obtain⟨hg3_,hd⟩:=bT hg3 hd
    have hb5:=hv1.le
    refine Wp.CV 33 follows rf (by kernel_rfl)<|Ag.A6 (Ab.AV (o':=0) Dg rf rf) rf<|Ag.A6 (Ab.Am (i:=0) (v:=(.int .u8 x2.1)) u5 rf rf rf rf) rf<|Ag.A6 (Ab.AV (o':=1) C_ rf rf) rf<|Ag.A6 (Ab.Am (i:=0) (v:=(.int .u8 x2.2.1)) u5 rf rf rf rf) rf<|Ag.A6 (Ab.Bg (b:=decide (x2.2.1<x2.1)) (c:=false) (Ab.gtr rf rf) hg1) rf<|Ag.A6 (Ab.move rf) rf<|Ag.AY rf rf (Ab.AV (o':=2) CI rf rf) rf ?_
    refine Ag.AY rf rf (Ab.Am (i:=0) (v:=(.int .i64 x2.2.2)) u3 rf rf rf rf) rf<|Ag.AY rf rf (Ab.Bg (b:=decide (x2.2.2<0)) (c:=false) (Ab.lss rf rf) hg2) rf<|Ag.A6 (Ab.AA rf rf) rf<|Ag.A6 (Ab.move rf) rf<|Ag.AY rf rf (Ab.AV (o':=2) CI rf rf) rf<|Ag.AY rf rf (Ab.Am (i:=0) (v:=(.int .i64 x2.2.2)) u3 rf rf rf rf) rf<|Ag.AY rf rf (Ab.move rf) rf<|Ag.AY rf rf (Ab.len CG rf (hv1.mono (hl1.trans hl2)).sl) rf ?_
    refine Ag.AY rf rf (Ab.Bg (b:=decide ((a0.length:Int)≤x2.2.2)) (c:=true) (Ab.geq rf rf) hg3) rf<|Ag.A6 (Ab.AA rf rf) rf<|Ag.A6 (Ab.move rf) rf<|Ag.Aw rf rf rf rf<|Ag.Aw rf rf rf rf<|Ag.Aw rf rf rf rf<|Ag.Bh rf rf rf<|Ag.Bh rf rf rf ?_
    refine Ag.Bh rf rf rf<|Ag.Bh rf rf rf<|Ag.Bh rf rf rf<|Ag.Bh rf rf rf<|Ag.Bh rf rf rf<|Ag.Bh rf rf rf<|Ag.Bh rf rf rf<|Ag.Bh rf rf rf ?_
    refine Ag.Aw rf rf rf rf<|Ag.A6 (Ab.AK rf rf) rf<|Ag.CW<|Ap.is (t:=0) rf<|Ap.is (t:=4) rf<|Ap.is (t:=7) rf<|Ap.is (t:=8) rf<|Ap.is (t:=9) rf ?_
    refine Ap.is (t:=14) rf<|Ap.is (t:=15) rf<|Ap.is (t:=16) rf<|Ap.is (t:=53) rf<|Ap.JB<|Aa.Af<|Wp.D_ rf<|Wp.sr ?_
    refine Aa.op (Ab.assign rf) rf<|Aa.Af<|Wp.ret<|At.Be<|At.Av<|At.Av<|At.Be<|At.Be ?_
    refine At.Av<|At.Av<|At.Be<|At.Av ?_
    obtain rfl:=si hd
    exact At.q1 2 (hl1.trans hl2) rf (RV.tmp rf) rf
   obtain⟨hg3_,hd⟩:=bF hg3 hd
   rcases Bool.eq_false_or_eq_true (decide (0<(k2:Int)))with hg4|hg4
   ·
    obtain⟨hg4_,hd⟩:=bT hg4 hd
    obtain⟨ha1,hd⟩:=Al hd
    obtain⟨x3,hx3,hd⟩:=Ae hd
    have hx3_:=Ah hx3
    have hb5:=hv1.le
    obtain⟨_,⟨_,_,rfl,⟨rfl,hr5,hr6⟩,⟨_,_,rfl,⟨rfl,hr7,hr8⟩,rfl⟩⟩,hc3⟩:=AW.get (hv2.mono hl2) hx3
    refine Wp.CV 33 follows rf (by kernel_rfl)<|Ag.A6 (Ab.AV (o':=0) Dg rf rf) rf<|Ag.A6 (Ab.Am (i:=0) (v:=(.int .u8 x2.1)) u5 rf rf rf rf) rf<|Ag.A6 (Ab.AV (o':=1) C_ rf rf) rf<|Ag.A6 (Ab.Am (i:=0) (v:=(.int .u8 x2.2.1)) u5 rf rf rf rf) rf<|Ag.A6 (Ab.Bg (b:=decide (x2.2.1<x2.1)) (c:=false) (Ab.gtr rf rf) hg1) rf<|Ag.A6 (Ab.move rf) rf<|Ag.AY rf rf (Ab.AV (o':=2) CI rf rf) rf ?_
    refine Ag.AY rf rf (Ab.Am (i:=0) (v:=(.int .i64 x2.2.2)) u3 rf rf rf rf) rf<|Ag.AY rf rf (Ab.Bg (b:=decide (x2.2.2<0)) (c:=false) (Ab.lss rf rf) hg2) rf<|Ag.A6 (Ab.AA rf rf) rf<|Ag.A6 (Ab.move rf) rf<|Ag.AY rf rf (Ab.AV (o':=2) CI rf rf) rf<|Ag.AY rf rf (Ab.Am (i:=0) (v:=(.int .i64 x2.2.2)) u3 rf rf rf rf) rf<|Ag.AY rf rf (Ab.move rf) rf<|Ag.AY rf rf (Ab.len CG rf (hv1.mono (hl1.trans hl2)).sl) rf ?_
    refine Ag.AY rf rf (Ab.Bg (b:=decide ((a0.length:Int)≤x2.2.2)) (c:=false) (Ab.geq rf rf) hg3) rf<|Ag.A6 (Ab.AA rf rf) rf<|Ag.A6 (Ab.move rf) rf<|Ag.AY rf rf (Ab.move rf) rf<|Ag.AY rf rf (Ab.Bg (b:=decide (0<(k2:Int))) (c:=true) (Ab.gtr rf rf) hg4) rf<|Ag.AY rf rf (Ab.move rf) rf<|Ag.AY rf rf (Ab.AV (o':=1) Bv rf rf) rf<|Ag.AY rf rf (Ab.Am (i:=1) (v:=v2) CC rf rf rf rf) rf ?_
    refine Ag.AY rf rf (Ab.move rf) rf<|Ag.AY rf rf (Ab.sub rf rf (Aq ha1)) rf<|Ag.AY rf rf (Ab.Bo CC BA rf (hv2.mono hl2).sl rf (Ah hx3)) rf<|Ag.AY rf rf (Ab.Nr C_ rf (hv2.mono hl2).sl (by omega)) rf<|Ag.AY rf rf (Ab.FJ u5 rf rf (hc3 1 _ rf)) rf<|Ag.AY rf rf (Ab.AV (o':=0) Dg rf rf) rf<|Ag.AY rf rf (Ab.Am (i:=0) (v:=(.int .u8 x2.1)) u5 rf rf rf rf) rf<|Ag.AY rf rf (Ab.geq rf rf) rf ?_
    refine Ag.AY rf rf (Ab.AK rf rf) rf<|Ag.A6 (Ab.AA rf rf) rf<|Ag.CW<|Ap.is (t:=0) rf<|Ap.is (t:=4) rf<|Ap.is (t:=7) rf<|Ap.is (t:=8) rf<|Ap.is (t:=9) rf ?_
    refine Ap.is (t:=14) rf<|Ap.is (t:=15) rf<|Ap.is (t:=16) rf<|Ap.is (t:=53) rf<|Ap.JB<|Aa.Af ?_
    refine Wp.cond rf (fun hb6=>?_) (fun hb6=>?_)
    ·
     obtain⟨hb6,hd⟩:=bT hb6 hd
     refine Wp.sr<|Aa.op (Ab.assign rf) rf<|Aa.Af<|Wp.ret<|At.Be<|At.Av<|At.Av<|At.Be ?_
     refine At.Be<|At.Av<|At.Av<|At.Be<|At.Av ?_
     obtain rfl:=si hd
     exact At.q1 2 (hl1.trans hl2) rf (RV.tmp rf) rf
    obtain⟨hb6,hd⟩:=bF hb6 hd
    refine Wp.skip<|At.AE<|At.Ad<|Wp.region<|Aa.op (Ab.add rf rf (Aq (by omega))) rf<|Aa.op (Ab.move rf) rf<|Aa.nil<|At.AR [1] 2 rf rf rf ?_
    refine At.AO (Hp.le.refl _) ⟨(k2+1),rf,rf,(by rw[←hn2];exact hd)⟩ (Sub.of rf)
   obtain⟨hg4_,hd⟩:=bF hg4 hd
   have hb5:=hv1.le
   refine Wp.CV 33 follows rf (by kernel_rfl)<|Ag.A6 (Ab.AV (o':=0) Dg rf rf) rf<|Ag.A6 (Ab.Am (i:=0) (v:=(.int .u8 x2.1)) u5 rf rf rf rf) rf<|Ag.A6 (Ab.AV (o':=1) C_ rf rf) rf<|Ag.A6 (Ab.Am (i:=0) (v:=(.int .u8 x2.2.1)) u5 rf rf rf rf) rf<|Ag.A6 (Ab.Bg (b:=decide (x2.2.1<x2.1)) (c:=false) (Ab.gtr rf rf) hg1) rf<|Ag.A6 (Ab.move rf) rf<|Ag.AY rf rf (Ab.AV (o':=2) CI rf rf) rf ?_
   refine Ag.AY rf rf (Ab.Am (i:=0) (v:=(.int .i64 x2.2.2)) u3 rf rf rf rf) rf<|Ag.AY rf rf (Ab.Bg (b:=decide (x2.2.2<0)) (c:=false) (Ab.lss rf rf) hg2) rf<|Ag.A6 (Ab.AA rf rf) rf<|Ag.A6 (Ab.move rf) rf<|Ag.AY rf rf (Ab.AV (o':=2) CI rf rf) rf<|Ag.AY rf rf (Ab.Am (i:=0) (v:=(.int .i64 x2.2.2)) u3 rf rf rf rf) rf<|Ag.AY rf rf (Ab.move rf) rf<|Ag.AY rf rf (Ab.len CG rf (hv1.mono (hl1.trans hl2)).sl) rf ?_
   refine Ag.AY rf rf (Ab.Bg (b:=decide ((a0.length:Int)≤x2.2.2)) (c:=false) (Ab.geq rf rf) hg3) rf<|Ag.A6 (Ab.AA rf rf) rf<|Ag.A6 (Ab.move rf) rf<|Ag.AY rf rf (Ab.move rf) rf<|Ag.AY rf rf (Ab.Bg (b:=decide (0<(k2:Int))) (c:=false) (Ab.gtr rf rf) hg4) rf<|Ag.AY rf rf (Ab.move rf) rf<|Ag.Aw rf rf rf rf<|Ag.Aw rf rf rf rf ?_
   refine Ag.Aw rf rf rf rf<|Ag.Aw rf rf rf rf<|Ag.Aw rf rf rf rf<|Ag.Aw rf rf rf rf<|Ag.Aw rf rf rf rf<|Ag.Aw rf rf rf rf<|Ag.Aw rf rf rf rf<|Ag.Aw rf rf rf rf ?_
   refine Ag.AY rf rf (Ab.AA rf rf) rf<|Ag.A6 (Ab.AA rf rf) rf<|Ag.CW<|Ap.is (t:=0) rf<|Ap.is (t:=4) rf<|Ap.is (t:=7) rf<|Ap.is (t:=8) rf<|Ap.is (t:=9) rf ?_
   refine Ap.is (t:=14) rf<|Ap.is (t:=15) rf<|Ap.is (t:=16) rf<|Ap.is (t:=53) rf<|Ap.JB<|Aa.Af<|Wp.C2 rf<|Wp.skip ?_
   refine At.AE<|At.Ad<|Wp.region<|Aa.op (Ab.add rf rf (Aq (by omega))) rf<|Aa.op (Ab.move rf) rf<|Aa.nil<|At.AR [1] 2 rf rf rf ?_
   refine At.AO (Hp.le.refl _) ⟨(k2+1),rf,rf,(by rw[←hn2];exact hd)⟩ (Sub.of rf)
  obtain⟨hb4,hd⟩:=bF hb4 hd
  refine Wp.exit<|At.An<|At.An<|At.Az<|At.AE<|At.Ad<|Wp.region<|Aa.op (Ab.add rf rf (Aq (by omega))) rf ?_
  refine Aa.op (Ab.move rf) rf<|Aa.nil<|At.AR [] 1 rf rf rf ?_
  refine At.AO hl2 ⟨(k1+1),rf,rf,(by rw[←hn1];exact hd)⟩ (Sub.of rf)
 obtain⟨hb2,hd⟩:=bF hb2 hd
 refine Wp.exit<|At.An<|At.An<|At.Az<|At.Ad<|Wp.sr<|Aa.op (Ab.assign rf) rf<|Aa.Af ?_
 refine Wp.ret ?_
 obtain rfl:=si hd
 exact At.q1 0 hl1 rf (RV.tmp rf) rf
theorem BQ{fu:Nat}{a0:List (Bool×(List (Int×Int×Int)))}{a1:Cb}{v1:Value}{r:Bool}(hv1:AW (cP cB (cL (cP AZ (cP AZ Ao)))) H a0 v1)(hd:HB fu a0 a1=some r):
    Ca Tryz.prog 22 [(.agg #[v1]),(sv a1)] H O (.bool r):=by
 intro w hs
 refine Bz Tryz.func22 rf rf rf ?_ hs
 clear hs w
 unfold HB at hd
 refine Wp.sr<|Aa.box (cs:= #[v1]) rf rf rf fun B2=>Aa.op (Ab.assign rf) rf<|Aa.Af<|Wp.scope<|Wp.seq<|Wp.seq ?_
 rcases Bool.eq_false_or_eq_true (decide ((a0.length:Int)=0))with hg1|hg1
 ·
  obtain⟨hg1_,hd⟩:=bT hg1 hd
  refine Wp.region<|Aa.op (Ab.AV (o':=0) Ck rf rf) rf<|Aa.op (Ab.Am (i:=0) (v:=v1) CG rf rf rf rf) rf ?_
  have hb1:=hv1.le
  refine Aa.op (Ab.len CG rf hv1.sl) rf<|Aa.op (Ab.Bg (b:=decide ((a0.length:Int)=0)) (c:=true) (Ab.eql rf rf) hg1) rf<|Aa.op (Ab.move rf) rf<|Aa.Ai rf rf rf rf<|Aa.Ai rf rf rf rf<|Aa.Ai rf rf rf rf<|Aa.Ai rf rf rf rf<|Aa.op (Ab.AK rf rf) rf ?_
  refine Aa.Af<|Wp.D_ rf<|Wp.sr<|Aa.op (Ab.assign rf) rf<|Aa.Af<|Wp.ret<|At.Av<|At.V9 ?_
  obtain rfl:=si hd
  exact At.q1 1 (Hp.le.refl _) rf (RV.tmp rf) rf
 obtain⟨hg1_,hd⟩:=bF hg1 hd
 obtain⟨x1,hx1,hd⟩:=Ae hd
 refine Wp.region<|Aa.op (Ab.AV (o':=0) Ck rf rf) rf<|Aa.op (Ab.Am (i:=0) (v:=v1) CG rf rf rf rf) rf ?_
 have hb1:=hv1.le
 refine Aa.op (Ab.len CG rf hv1.sl) rf<|Aa.op (Ab.Bg (b:=decide ((a0.length:Int)=0)) (c:=false) (Ab.eql rf rf) hg1) rf<|Aa.op (Ab.move rf) rf<|Aa.Ay rf rf (Ab.AV (o':=0) Ck rf rf) rf<|Aa.Ay rf rf (Ab.Am (i:=0) (v:=v1) CG rf rf rf rf) rf<|Aa.Ay rf rf (Ab.call Xc rf (I2 hv1 hx1)) rf<|Aa.Ay rf rf (Ab.not rf) rf<|Aa.op (Ab.AA rf rf) rf ?_
 refine Aa.Af ?_
 refine Wp.cond rf (fun hb2=>?_) (fun hb2=>?_)
 ·
  replace hd:=Fs hb2 hd
  refine Wp.sr<|Aa.op (Ab.assign rf) rf<|Aa.Af<|Wp.ret<|At.Av<|At.V9 ?_
  obtain rfl:=si hd
  exact At.q1 1 (Hp.le.refl _) rf (RV.tmp rf) rf
 replace hd:=Ft hb2 hd
 refine Wp.skip<|At.Ad<|Wp.sr<|Aa.op (Ab.assign rf) rf<|Aa.Af<|Wp.seq<|Wp.label<|At.Ad ?_
 refine Wp.seq<|Wp.sr<|Aa.op (Ab.move rf) rf<|Aa.op (Ab.XM u9 rf) rf<|Aa.op (Ab.move rf) rf<|Aa.Af<|Wp.block<|Wp.A_ (fun m LL HH OO=> ∃(i1:Int),∃(i2:Int),[(1,(sv a1)),(2,(ptr B2 0)),(5,(.int .i64 i1)),(20,(.int .i64 (a1.length:Int))),(21,(.int .i64 i2))]=LL∧ .AM B2 (.cells #[v1] 26 (0,0))::O=OO∧Ax m (fun p nx=>Gs fu a0 a1 p.1 p.2 nx) (i1,i2)=some r) fu ⟨0,0,rf,rf,hd⟩ (Sub.of rf) ?_
 intro m1 L1 H1 O1 hl1 hI1
 obtain⟨i1,i2,rfl,rfl,hd⟩:=hI1
 obtain⟨m2,nx1,rfl,hn1,hd⟩:=A9 hd
 replace hd:Gs fu a0 a1 i1 i2 nx1=some r:=hd
 unfold Gs at hd
 refine Wp.sr<|Aa.op (Ab.lss rf rf) rf<|Aa.Af<|Wp.seq ?_
 refine Wp.cond rf (fun hb3=>?_) (fun hb3=>?_)
 ·
  obtain⟨hb3,hd⟩:=bT hb3 hd
  refine Wp.skip<|At.Ad<|Wp.seq<|Wp.block<|Wp.sr<|Aa.op (Ab.move rf) rf<|Aa.op (Ab.assign rf) rf<|Aa.Af ?_
  refine Wp.seq<|Wp.seq ?_
  obtain⟨x2,hx2,hd⟩:=Ae hd
  have hx2_:=Ah hx2
  refine Wp.region<|Aa.op (Ab.AV (o':=0) Ck rf rf) rf<|Aa.op (Ab.Am (i:=0) (v:=v1) CG rf rf rf rf) rf<|Aa.op (Ab.move rf) rf ?_
  obtain⟨_,⟨_,_,rfl,rfl,⟨v2,rfl,hv2⟩⟩,hc1⟩:=AW.get (hv1.mono hl1) hx2
  refine Aa.op (Ab.Bo CG Bl rf (hv1.mono hl1).sl rf (Ah hx2)) rf<|Aa.op (Ab.Nr Bv rf (hv1.mono hl1).sl (by omega)) rf<|Aa.op (Ab.FJ CC rf rf (hc1 1 _ rf)) rf ?_
  have hb4:=hv2.le
  refine Aa.op (Ab.len CC rf hv2.sl) rf<|Aa.op (Ab.move rf) rf<|Aa.Af<|Wp.block<|Wp.A_ (fun m LL HH OO=> ∃(k1:Nat),[(1,(sv a1)),(2,(ptr B2 0)),(6,(.int .i64 i2)),(20,(.int .i64 (a1.length:Int))),(21,(.int .i64 i2)),(29,v2),(30,(.int .i64 (x2.2.length:Int))),(31,(.int .i64 (k1:Int)))]=LL∧ .AM B2 (.cells #[v1] 26 (0,0))::O=OO∧Ax m (Gr fu a1 i2 nx1 x2) k1=some r) fu ⟨0,rf,rf,hd⟩ (Sub.of rf) ?_
  intro m3 L2 H2 O2 hl2 hI2
  obtain⟨k1,rfl,rfl,hd⟩:=hI2
  obtain⟨m4,nx2,rfl,hn2,hd⟩:=A9 hd
  replace hd:Gr fu a1 i2 nx1 x2 k1 nx2=some r:=hd
  unfold Gr at hd
  refine Wp.sr<|Aa.op (Ab.lss rf rf) rf<|Aa.Af<|Wp.seq ?_
  refine Wp.cond rf (fun hb5=>?_) (fun hb5=>?_)
  ·
   obtain⟨hb5,hd⟩:=bT hb5 hd
   refine Wp.skip<|At.Ad<|Wp.seq<|Wp.block<|Wp.seq ?_
   obtain⟨x3,hx3,hd⟩:=Ae hd
   have hx3_:=Ah hx3
   refine Wp.region ?_
   obtain⟨_,⟨_,_,rfl,⟨rfl,hr1,hr2⟩,⟨_,_,rfl,⟨rfl,hr3,hr4⟩,rfl⟩⟩,hc2⟩:=AW.get (hv2.mono hl2) hx3
   refine Aa.op (Ab.Bo CC BA rf (hv2.mono hl2).sl rf (Ah hx3)) rf<|Aa.op (Ab.C9 (vs:=[(.int .u8 x3.1),(.int .u8 x3.2.1),(.int .i64 x3.2.2)]) QS rf BA rf rf (fun j u hj=>(hc2 j u hj))) rf<|Aa.alloc (cs:= #[(.int .u8 0),(.int .u8 0),(.int .i64 0)]) BA rf rf fun B3=>Aa.AP (i:=0) (cs':= #[(.int .u8 x3.1),(.int .u8 x3.2.1),(.int .i64 x3.2.2)]) rf rf BA rf rf (Bc (Ac rf (Ac rf (Ac rf (As))))) rf ?_
   refine Aa.own (O:=_::_::_) ?_ rf
   refine Aa.Af<|Wp.seq ?_
   obtain⟨x4,hx4,hd⟩:=Ae hd
   have hx4_:=LY hx4
   rcases Bool.eq_false_or_eq_true (decide (x3.1≤x4))with hg2|hg2
   ·
    obtain⟨hg2_,hd⟩:=bT hg2 hd
    obtain⟨x5,hx5,hd⟩:=Ae hd
    have hx5_:=LY hx5
    refine Wp.CV 14 follows rf (by kernel_rfl)<|Ag.A6 (Ab.AV (o':=0) Dg rf rf) rf<|Ag.A6 (Ab.Am (i:=0) (v:=(.int .u8 x3.1)) u5 rf rf rf rf) rf<|Ag.A6 (Ab.move rf) rf<|Ag.A6 (Ab.move rf) rf<|Ag.A6 (Ab.QL u9 rf rf hx4) rf<|Ag.A6 (Ab.Bg (b:=decide (x3.1≤x4)) (c:=true) (Ab.leq rf rf) hg2) rf<|Ag.A6 (Ab.move rf) rf ?_
    refine Ag.AY rf rf (Ab.move rf) rf<|Ag.AY rf rf (Ab.move rf) rf<|Ag.AY rf rf (Ab.QL u9 rf rf hx5) rf<|Ag.AY rf rf (Ab.AV (o':=1) C_ rf rf) rf<|Ag.AY rf rf (Ab.Am (i:=0) (v:=(.int .u8 x3.2.1)) u5 rf rf rf rf) rf<|Ag.AY rf rf (Ab.leq rf rf) rf<|Ag.A6 (Ab.AK rf rf) rf<|Ag.CW ?_
    refine Ap.is (t:=1) rf<|Ap.is (t:=2) rf<|Ap.is (t:=6) rf<|Ap.is (t:=8) rf<|Ap.is (t:=20) rf<|Ap.is (t:=21) rf<|Ap.is (t:=29) rf<|Ap.is (t:=30) rf ?_
    refine Ap.is (t:=31) rf<|Ap.is (t:=48) rf<|Ap.JB<|Aa.Af ?_
    refine Wp.cond rf (fun hb6=>?_) (fun hb6=>?_)
    ·
     obtain⟨hb6,hd⟩:=bT hb6 hd
     refine Wp.sr<|Aa.op (Ab.AV (o':=2) CI rf rf) rf<|Aa.op (Ab.Am (i:=0) (v:=(.int .i64 x3.2.2)) u3 rf rf rf rf) rf<|Aa.op (Ab.assign rf) rf<|Aa.Af<|Wp.exit<|At.KP rf<|At.An ?_
     refine At.An<|At.KP rf<|At.An<|At.Az<|At.Ad ?_
     obtain⟨ha1,hd⟩:=Al hd
     refine Wp.region<|Aa.op (Ab.add rf rf (Aq ha1)) rf<|Aa.op (Ab.move rf) rf<|Aa.nil<|At.AR [1] 2 rf rf rf ?_
     refine At.AO hl2 ⟨x3.2.2,(i2+1),rf,rf,(by rw[←hn1];exact hd)⟩ (Sub.of rf)
    obtain⟨hb6,hd⟩:=bF hb6 hd
    refine Wp.skip<|At.AE<|At.Ad<|Wp.region<|Aa.op (Ab.add rf rf (Aq (by omega))) rf<|Aa.op (Ab.move rf) rf<|Aa.nil<|At.AR [1] 2 rf rf rf ?_
    refine At.AO (Hp.le.refl _) ⟨(k1+1),rf,rf,(by rw[←hn2];exact hd)⟩ (Sub.of rf)
   obtain⟨hg2_,hd⟩:=bF hg2 hd
   refine Wp.CV 14 follows rf (by kernel_rfl)<|Ag.A6 (Ab.AV (o':=0) Dg rf rf) rf<|Ag.A6 (Ab.Am (i:=0) (v:=(.int .u8 x3.1)) u5 rf rf rf rf) rf<|Ag.A6 (Ab.move rf) rf<|Ag.A6 (Ab.move rf) rf<|Ag.A6 (Ab.QL u9 rf rf hx4) rf<|Ag.A6 (Ab.Bg (b:=decide (x3.1≤x4)) (c:=false) (Ab.leq rf rf) hg2) rf<|Ag.A6 (Ab.move rf) rf ?_
   refine Ag.Aw rf rf rf rf<|Ag.Aw rf rf rf rf<|Ag.Aw rf rf rf rf<|Ag.Aw rf rf rf rf<|Ag.Aw rf rf rf rf<|Ag.Aw rf rf rf rf<|Ag.A6 (Ab.AA rf rf) rf<|Ag.CW ?_
   refine Ap.is (t:=1) rf<|Ap.is (t:=2) rf<|Ap.is (t:=6) rf<|Ap.is (t:=8) rf<|Ap.is (t:=20) rf<|Ap.is (t:=21) rf<|Ap.is (t:=29) rf<|Ap.is (t:=30) rf ?_
   refine Ap.is (t:=31) rf<|Ap.is (t:=48) rf<|Ap.JB<|Aa.Af<|Wp.C2 rf<|Wp.skip<|At.AE<|At.Ad ?_
   refine Wp.region<|Aa.op (Ab.add rf rf (Aq (by omega))) rf<|Aa.op (Ab.move rf) rf<|Aa.nil<|At.AR [1] 2 rf rf rf ?_
   refine At.AO (Hp.le.refl _) ⟨(k1+1),rf,rf,(by rw[←hn2];exact hd)⟩ (Sub.of rf)
  obtain⟨hb5,hd⟩:=bF hb5 hd
  refine Wp.exit<|At.An<|At.An<|At.Az<|At.Ad<|Wp.sr<|Aa.op (Ab.assign rf) rf<|Aa.Af ?_
  refine Wp.ret<|At.Be<|At.Av<|At.Av<|At.Be<|At.Av<|At.V9 ?_
  obtain rfl:=si hd
  exact At.q1 1 (hl1.trans hl2) rf (RV.tmp rf) rf
 obtain⟨hb3,hd⟩:=bF hb3 hd
 refine Wp.exit<|At.An<|At.An<|At.Az<|At.Ad<|Wp.seq ?_
 obtain⟨x6,hx6,hd⟩:=Ae hd
 have hx6_:=Ah hx6
 refine Wp.region<|Aa.op (Ab.AV (o':=0) Ck rf rf) rf<|Aa.op (Ab.Am (i:=0) (v:=v1) CG rf rf rf rf) rf<|Aa.op (Ab.move rf) rf ?_
 obtain⟨_,⟨_,_,rfl,rfl,⟨v3,rfl,hv3⟩⟩,hc3⟩:=AW.get (hv1.mono hl1) hx6
 refine Aa.op (Ab.Bo CG Bl rf (hv1.mono hl1).sl rf (Ah hx6)) rf<|Aa.op (Ab.Nr E_ rf (hv1.mono hl1).sl (by omega)) rf<|Aa.op (Ab.FJ u4 rf rf (hc3 0 _ rf)) rf<|Aa.op (Ab.assign rf) rf<|Aa.Af<|Wp.ret<|At.V9 ?_
 obtain rfl:=si hd
 exact At.q1 1 hl1 rf (RV.tmp rf) rf
theorem Mn{fu:Nat}{a0:List (Int×Int×Int)}{a1:List (Int×Int×Int)}{v1 v2:Value}{r:Bool}(hv1:AW (cP AZ (cP AZ Ao)) H a0 v1)(hv2:AW (cP AZ (cP AZ Ao)) H a1 v2)(hd:Fy fu a0 a1=some r):
    Ca Tryz.prog 46 [v1,v2] H O (.bool r):=by
 intro w hs
 refine Bz Tryz.func46 rf rf rf ?_ hs
 clear hs w
 unfold Fy at hd
 refine Wp.sr<|Aa.op (Ab.assign rf) rf<|Aa.Af<|Wp.seq<|Wp.sr<|Aa.op (Ab.move rf) rf ?_
 have hb1:=hv1.le
 refine Aa.op (Ab.len CC rf hv1.sl) rf<|Aa.op (Ab.move rf) rf ?_
 have hb2:=hv2.le
 refine Aa.op (Ab.len CC rf hv2.sl) rf<|Aa.op (Ab.neq rf rf) rf<|Aa.Af ?_
 refine Wp.cond rf (fun hb3=>?_) (fun hb3=>?_)
 ·
  obtain⟨hb3,hd⟩:=bT hb3 hd
  refine Wp.sr<|Aa.op (Ab.assign rf) rf<|Aa.Af<|Wp.ret<|At.Av ?_
  obtain rfl:=si hd
  exact At.q1 0 (Hp.le.refl _) rf (RV.tmp rf) rf
 obtain⟨hb3,hd⟩:=bF hb3 hd
 refine Wp.skip<|At.Ad<|Wp.seq<|Wp.sr<|Aa.op (Ab.move rf) rf ?_
 have hb4:=hv1.le
 refine Aa.op (Ab.len CC rf hv1.sl) rf<|Aa.op (Ab.move rf) rf<|Aa.Af<|Wp.block<|Wp.A_ (fun m LL HH OO=> ∃(k1:Nat),[(0,v1),(1,v2),(12,(.int .i64 (a0.length:Int))),(13,(.int .i64 (k1:Int)))]=LL∧O=OO∧Ax m (Di fu a0 a1) k1=some r) fu ⟨0,rf,rf,hd⟩ (Sub.of rf) ?_
 intro m1 L1 H1 O1 hl1 hI1
 obtain⟨k1,rfl,rfl,hd⟩:=hI1
 obtain⟨m2,nx1,rfl,hn1,hd⟩:=A9 hd
 replace hd:Di fu a0 a1 k1 nx1=some r:=hd
 unfold Di at hd
 refine Wp.sr<|Aa.op (Ab.lss rf rf) rf<|Aa.Af<|Wp.seq ?_
 refine Wp.cond rf (fun hb5=>?_) (fun hb5=>?_)
 ·
  obtain⟨hb5,hd⟩:=bT hb5 hd
  refine Wp.skip<|At.Ad<|Wp.seq<|Wp.block<|Wp.sr<|Aa.op (Ab.move rf) rf<|Aa.op (Ab.assign rf) rf<|Aa.Af ?_
  refine Wp.seq ?_
  obtain⟨x1,hx1,hd⟩:=Ae hd
  have hx1_:=Ah hx1
  obtain⟨x2,hx2,hd⟩:=Ae hd
  have hx2_:=Ah hx2
  obtain⟨_,⟨_,_,rfl,⟨rfl,hr1,hr2⟩,⟨_,_,rfl,⟨rfl,hr3,hr4⟩,rfl⟩⟩,hc1⟩:=AW.get (hv1.mono hl1) hx1
  obtain⟨_,⟨_,_,rfl,⟨rfl,hr5,hr6⟩,⟨_,_,rfl,⟨rfl,hr7,hr8⟩,rfl⟩⟩,hc2⟩:=AW.get (hv2.mono hl1) hx2
  refine Wp.CV 9 follows rf (by kernel_rfl)<|Ag.A6 (Ab.move rf) rf<|Ag.A6 (Ab.move rf) rf<|Ag.A6 (Ab.Bo CC BA rf (hv1.mono hl1).sl rf (Ah hx1)) rf<|Ag.A6 (Ab.C9 (vs:=[(.int .u8 x1.1),(.int .u8 x1.2.1),(.int .i64 x1.2.2)]) QS rf BA rf rf (fun j u hj=>(hc1 j u hj))) rf<|Ag.A6 (Ab.move rf) rf<|Ag.A6 (Ab.move rf) rf<|Ag.A6 (Ab.Bo CC BA rf (hv2.mono hl1).sl rf (Ah hx2)) rf ?_
  refine Ag.A6 (Ab.C9 (vs:=[(.int .u8 x2.1),(.int .u8 x2.2.1),(.int .i64 x2.2.2)]) QS rf BA rf rf (fun j u hj=>(hc2 j u hj))) rf<|Ag.A6 (Ab.Ug (xs:=[x1.1,x1.2.1,x1.2.2]) (ys:=[x2.1,x2.2.1,x2.2.2]) UC rf rf rf rf) rf<|Ag.CW<|Ap.is (t:=0) rf<|Ap.is (t:=1) rf<|Ap.is (t:=12) rf<|Ap.is (t:=13) rf<|Ap.is (t:=24) rf ?_
  refine Ap.JB<|Aa.Af ?_
  refine Wp.cond rf (fun hb6=>?_) (fun hb6=>?_)
  ·
   replace hd:=Fs hb6 hd
   refine Wp.sr<|Aa.op (Ab.assign rf) rf<|Aa.Af<|Wp.ret<|At.Be<|At.Av<|At.Av<|At.Be ?_
   refine At.Av ?_
   obtain rfl:=si hd
   exact At.q1 0 hl1 rf (RV.tmp rf) rf
  replace hd:=Ft hb6 hd
  refine Wp.skip<|At.AE<|At.Ad<|Wp.region<|Aa.op (Ab.add rf rf (Aq (by omega))) rf<|Aa.op (Ab.move rf) rf<|Aa.nil ?_
  refine At.AO (Hp.le.refl _) ⟨(k1+1),rf,rf,(by rw[←hn1];exact hd)⟩ (Sub.of rf)
 obtain⟨hb5,hd⟩:=bF hb5 hd
 refine Wp.exit<|At.An<|At.An<|At.Az<|At.Ad<|Wp.sr<|Aa.op (Ab.assign rf) rf<|Aa.Af ?_
 refine Wp.ret ?_
 obtain rfl:=si hd
 exact At.q1 0 hl1 rf (RV.tmp rf) rf
theorem BK{fu:Nat}{a0:List (Bool×(List (Int×Int×Int)))}{a1:List (Bool×(List (Int×Int×Int)))}{v1 v2:Value}{r:Bool}(hv1:AW (cP cB (cL (cP AZ (cP AZ Ao)))) H a0 v1)(hv2:AW (cP cB (cL (cP AZ (cP AZ Ao)))) H a1 v2)(hd:GC fu a0 a1=some r):
    Ca Tryz.prog 10 [(.agg #[v1]),(.agg #[v2])] H O (.bool r):=by
 intro w hs
 refine Bz Tryz.func10 rf rf rf ?_ hs
 clear hs w
 unfold GC at hd
 refine Wp.sr<|Aa.box (cs:= #[v1]) rf rf rf fun B2=>Aa.box (cs:= #[v2]) rf rf rf fun B3=>Aa.op (Ab.assign rf) rf<|Aa.Af<|Wp.seq<|Wp.sr<|Aa.op (Ab.AV (o':=0) Ck rf rf) rf ?_
 refine Aa.op (Ab.Am (i:=1) (v:=v1) CG rf rf rf rf) rf ?_
 have hb1:=hv1.le
 refine Aa.op (Ab.len CG rf hv1.sl) rf<|Aa.op (Ab.AV (o':=0) Ck rf rf) rf<|Aa.op (Ab.Am (i:=0) (v:=v2) CG rf rf rf rf) rf ?_
 have hb2:=hv2.le
 refine Aa.op (Ab.len CG rf hv2.sl) rf<|Aa.op (Ab.neq rf rf) rf<|Aa.Af ?_
 refine Wp.cond rf (fun hb3=>?_) (fun hb3=>?_)
 ·
  obtain⟨hb3,hd⟩:=bT hb3 hd
  refine Wp.sr<|Aa.op (Ab.assign rf) rf<|Aa.Af<|Wp.ret<|At.Av ?_
  obtain rfl:=si hd
  exact At.q1 2 (Hp.le.refl _) rf (RV.tmp rf) rf
 obtain⟨hb3,hd⟩:=bF hb3 hd
 refine Wp.skip<|At.Ad<|Wp.seq<|Wp.sr<|Aa.op (Ab.AV (o':=0) Ck rf rf) rf<|Aa.op (Ab.Am (i:=1) (v:=v1) CG rf rf rf rf) rf ?_
 have hb4:=hv1.le
 refine Aa.op (Ab.len CG rf hv1.sl) rf<|Aa.op (Ab.move rf) rf<|Aa.Af<|Wp.block<|Wp.A_ (fun m LL HH OO=> ∃(k1:Nat),[(2,(ptr B2 0)),(3,(ptr B3 0)),(18,(.int .i64 (a0.length:Int))),(19,(.int .i64 (k1:Int)))]=LL∧ .AM B3 (.cells #[v2] 26 (0,0)):: .AM B2 (.cells #[v1] 26 (0,0))::O=OO∧Ax m (Fh fu a0 a1) k1=some r) fu ⟨0,rf,rf,hd⟩ (Sub.of rf) ?_
 intro m1 L1 H1 O1 hl1 hI1
 obtain⟨k1,rfl,rfl,hd⟩:=hI1
 obtain⟨m2,nx1,rfl,hn1,hd⟩:=A9 hd
 replace hd:Fh fu a0 a1 k1 nx1=some r:=hd
 unfold Fh at hd
 refine Wp.sr<|Aa.op (Ab.lss rf rf) rf<|Aa.Af<|Wp.seq ?_
 refine Wp.cond rf (fun hb5=>?_) (fun hb5=>?_)
 ·
  obtain⟨hb5,hd⟩:=bT hb5 hd
  refine Wp.skip<|At.Ad<|Wp.seq<|Wp.block<|Wp.sr<|Aa.op (Ab.move rf) rf<|Aa.op (Ab.assign rf) rf<|Aa.Af ?_
  refine Wp.seq ?_
  obtain⟨x1,hx1,hd⟩:=Ae hd
  have hx1_:=Ah hx1
  obtain⟨x2,hx2,hd⟩:=Ae hd
  have hx2_:=Ah hx2
  obtain⟨_,⟨_,_,rfl,rfl,⟨v3,rfl,hv3⟩⟩,hc1⟩:=AW.get (hv1.mono hl1) hx1
  obtain⟨_,⟨_,_,rfl,rfl,⟨v4,rfl,hv4⟩⟩,hc2⟩:=AW.get (hv2.mono hl1) hx2
  refine Wp.emp<|Wp.emp<|Aj.runK 4 [AU,⟨[3],[],[]⟩,AU,AU,AU,AU,⟨[2],[],[]⟩,AU,AU,AU,⟨[0],[0],[10]⟩,⟨[1],[1],[11]⟩,⟨[0],[0],[10]⟩,⟨[1],[1],[11]⟩] follows rf (by kernel_rfl)<|Aj.op (val:=fun p1=>(ptr B2 0)) rf rf (fun _=>rfl) (fun _ p1 _ hx hf hy=>Ab.AV (o':=0) Ck rf rf) rf<|Aj.op (val:=fun p1=>v1) rf rf (fun _=>rfl) (fun _ p1 _ hx hf hy=>Ab.Am (i:=3) (v:=v1) CG rf rf (hy 3 _ rf rf) rf) rf<|Aj.op (val:=fun p1=>(.int .i64 (k1:Int))) rf rf (fun _=>rfl) (fun _ p1 _ hx hf hy=>Ab.move rf) rf<|Aj.op (val:=fun p1=>(A2 v1 (k1*2))) rf rf (fun _=>rfl) (fun _ p1 _ hx hf hy=>Ab.Bo CG Bl rf (hv1.mono (hl1.trans hx)).sl rf (Ah hx1)) rf<|Aj.op (val:=fun p1=>(.agg #[(.bool x1.1),v3])) rf rf (fun _=>rfl) (fun _ p1 _ hx hf hy=>Ab.C9 (vs:=[(.bool x1.1),v3]) NA rf Bl rf rf (fun j u hj=>((hc1 j u hj).mono hx))) rf ?_
  refine Aj.op (val:=fun p1=>(ptr B3 0)) rf rf (fun _=>rfl) (fun _ p1 _ hx hf hy=>Ab.AV (o':=0) Ck rf rf) rf<|Aj.op (val:=fun p1=>v2) rf rf (fun _=>rfl) (fun _ p1 _ hx hf hy=>Ab.Am (i:=2) (v:=v2) CG rf rf (hy 2 _ rf rf) rf) rf<|Aj.op (val:=fun p1=>(.int .i64 (k1:Int))) rf rf (fun _=>rfl) (fun _ p1 _ hx hf hy=>Ab.move rf) rf<|Aj.op (val:=fun p1=>(A2 v2 (k1*2))) rf rf (fun _=>rfl) (fun _ p1 _ hx hf hy=>Ab.Bo CG Bl rf (hv2.mono (hl1.trans hx)).sl rf (Ah hx2)) rf<|Aj.op (val:=fun p1=>(.agg #[(.bool x2.1),v4])) rf rf (fun _=>rfl) (fun _ p1 _ hx hf hy=>Ab.C9 (vs:=[(.bool x2.1),v4]) NA rf Bl rf rf (fun j u hj=>((hc2 j u hj).mono hx))) rf<|Aj.YE (val:=fun p1=>ptr (BI (p1 10)) 0) (res:=fun p1=> .AM (BI (p1 10)) (.cells #[(.bool false),(.slice none 0 0)] 43 (0,0))) 0 rf rf (fun _=>rfl) (fun _=>rfl) (fun _ p1 _ hx hf hy=>BC.Pq 0 Bl rf (hy 0 _ rf rf)) rf<|Aj.YE (val:=fun p1=>ptr (BI (p1 11)) 0) (res:=fun p1=> .AM (BI (p1 11)) (.cells #[(.bool false),(.slice none 0 0)] 43 (0,0))) 1 rf rf (fun _=>rfl) (fun _=>rfl) (fun _ p1 _ hx hf hy=>BC.Pq 1 Bl rf (hy 1 _ rf rf)) rf<|Aj.Kr (res:=fun p1=> .AM (BI (p1 10)) (.cells #[(.bool x1.1),v3] 43 (0,0))) 0 rf rf rf (fun _=>rfl) (fun _ p1 _ hx hf hy=>BC.VQ (vs:=[(.bool x1.1),v3]) rf rf rf Bl rf (Ac rf (Ac hv3.one (As))) (hy 0 _ rf rf) rf rf) ?_
  refine Aj.Kr (res:=fun p1=> .AM (BI (p1 11)) (.cells #[(.bool x2.1),v4] 43 (0,0))) 1 rf rf rf (fun _=>rfl) (fun _ p1 _ hx hf hy=>BC.VQ (vs:=[(.bool x2.1),v4]) rf rf rf Bl rf (Ac rf (Ac hv4.one (As))) (hy 1 _ rf rf) rf rf)<|Aj.done fun H2 p1 hl2 hF1=>At.sub (L':=[(2,(ptr B2 0)),(3,(ptr B3 0)),(6,(ptr (BI (p1 10)) 0)),(7,(ptr (BI (p1 11)) 0)),(18,(.int .i64 (a0.length:Int))),(19,(.int .i64 (k1:Int)))]) (Sub.of rf) ?_
  refine At.own (O:= .AM (BI (p1 10)) (.cells #[(.bool x1.1),v3] 43 (0,0)):: .AM (BI (p1 11)) (.cells #[(.bool x2.1),v4] 43 (0,0)):: .AM B3 (.cells #[v2] 26 (0,0)):: .AM B2 (.cells #[v1] 26 (0,0))::O) ?_ (by first|rfl|(simp only[List.length_append,List.length_set];rfl)|simp)
  refine At.Ad<|Wp.seq<|Wp.seq ?_
  rcases Bool.eq_false_or_eq_true (!(x1.1==x2.1))with hg1|hg1
  ·
   replace hd:=Fs hg1 hd
   refine Wp.region<|Aa.op (Ab.AV (o':=0) E_ rf rf) rf<|Aa.op (Ab.Am (i:=0) (v:=(.bool x1.1)) u4 rf rf rf rf) rf<|Aa.op (Ab.AV (o':=0) E_ rf rf) rf<|Aa.op (Ab.Am (i:=1) (v:=(.bool x2.1)) u4 rf rf rf rf) rf<|Aa.op (Ab.Bg (b:= !(x1.1==x2.1)) (c:=true) (Ab.ZV u4 rf rf) hg1) rf<|Aa.op (Ab.move rf) rf<|Aa.Ai rf rf rf rf ?_
   refine Aa.Ai rf rf rf rf<|Aa.Ai rf rf rf rf<|Aa.Ai rf rf rf rf<|Aa.Ai rf rf rf rf<|Aa.Ai rf rf rf rf<|Aa.Ai rf rf rf rf<|Aa.op (Ab.AK rf rf) rf<|Aa.Af ?_
   refine Wp.D_ rf<|Wp.sr<|Aa.op (Ab.assign rf) rf<|Aa.Af<|Wp.ret<|At.Av<|At.Be<|At.Av ?_
   refine At.Av<|At.Be<|At.Av ?_
   obtain rfl:=si hd
   exact At.q1 4 (hl1.trans hl2) rf (RV.tmp rf) rf
  replace hd:=Ft hg1 hd
  refine Wp.region<|Aa.op (Ab.AV (o':=0) E_ rf rf) rf<|Aa.op (Ab.Am (i:=0) (v:=(.bool x1.1)) u4 rf rf rf rf) rf<|Aa.op (Ab.AV (o':=0) E_ rf rf) rf<|Aa.op (Ab.Am (i:=1) (v:=(.bool x2.1)) u4 rf rf rf rf) rf<|Aa.op (Ab.Bg (b:= !(x1.1==x2.1)) (c:=false) (Ab.ZV u4 rf rf) hg1) rf<|Aa.op (Ab.move rf) rf<|Aa.Ay rf rf (Ab.AV (o':=1) Bv rf rf) rf ?_
  refine Aa.Ay rf rf (Ab.Am (i:=0) (v:=v3) CC rf rf rf rf) rf ?_
  have hb6:=hv3.le
  refine Aa.Ay rf rf (Ab.len CC rf (hv3.mono hl2).sl) rf<|Aa.Ay rf rf (Ab.AV (o':=1) Bv rf rf) rf<|Aa.Ay rf rf (Ab.Am (i:=1) (v:=v4) CC rf rf rf rf) rf ?_
  have hb7:=hv4.le
  refine Aa.Ay rf rf (Ab.len CC rf (hv4.mono hl2).sl) rf<|Aa.Ay rf rf (Ab.neq rf rf) rf<|Aa.op (Ab.AA rf rf) rf<|Aa.Af ?_
  refine Wp.cond rf (fun hb8=>?_) (fun hb8=>?_)
  ·
   obtain⟨hb8,hd⟩:=bT hb8 hd
   refine Wp.sr<|Aa.op (Ab.assign rf) rf<|Aa.Af<|Wp.ret<|At.Av<|At.Be<|At.Av<|At.Av ?_
   refine At.Be<|At.Av ?_
   obtain rfl:=si hd
   exact At.q1 4 (hl1.trans hl2) rf (RV.tmp rf) rf
  obtain⟨hb8,hd⟩:=bF hb8 hd
  refine Wp.skip<|At.Ad<|Wp.sr<|Aa.op (Ab.AV (o':=1) Bv rf rf) rf<|Aa.op (Ab.Am (i:=0) (v:=v3) CC rf rf rf rf) rf ?_
  have hb9:=hv3.le
  refine Aa.op (Ab.len CC rf (hv3.mono hl2).sl) rf<|Aa.op (Ab.move rf) rf<|Aa.Af<|Wp.block<|Wp.A_ (fun m LL HH OO=> ∃(k2:Nat),[(2,(ptr B2 0)),(3,(ptr B3 0)),(6,(ptr (BI (p1 10)) 0)),(7,(ptr (BI (p1 11)) 0)),(18,(.int .i64 (a0.length:Int))),(19,(.int .i64 (k1:Int))),(48,(.int .i64 (x1.2.length:Int))),(49,(.int .i64 (k2:Int)))]=LL∧ .AM (BI (p1 10)) (.cells #[(.bool x1.1),v3] 43 (0,0)):: .AM (BI (p1 11)) (.cells #[(.bool x2.1),v4] 43 (0,0)):: .AM B3 (.cells #[v2] 26 (0,0)):: .AM B2 (.cells #[v1] 26 (0,0))::O=OO∧Ax m (Fg fu k1 nx1 x1 x2) k2=some r) fu ⟨0,rf,rf,hd⟩ (Sub.of rf) ?_
  intro m3 L2 H3 O2 hl3 hI2
  obtain⟨k2,rfl,rfl,hd⟩:=hI2
  obtain⟨m4,nx2,rfl,hn2,hd⟩:=A9 hd
  replace hd:Fg fu k1 nx1 x1 x2 k2 nx2=some r:=hd
  unfold Fg at hd
  refine Wp.sr<|Aa.op (Ab.lss rf rf) rf<|Aa.Af<|Wp.seq ?_
  refine Wp.cond rf (fun hb10=>?_) (fun hb10=>?_)
  ·
   obtain⟨hb10,hd⟩:=bT hb10 hd
   refine Wp.skip<|At.Ad<|Wp.seq<|Wp.block<|Wp.sr<|Aa.op (Ab.move rf) rf<|Aa.op (Ab.assign rf) rf<|Aa.Af ?_
   refine Wp.seq ?_
   obtain⟨x3,hx3,hd⟩:=Ae hd
   have hx3_:=Ah hx3
   obtain⟨x4,hx4,hd⟩:=Ae hd
   have hx4_:=Ah hx4
   obtain⟨_,⟨_,_,rfl,⟨rfl,hr1,hr2⟩,⟨_,_,rfl,⟨rfl,hr3,hr4⟩,rfl⟩⟩,hc3⟩:=AW.get (hv3.mono (hl2.trans hl3)) hx3
   obtain⟨_,⟨_,_,rfl,⟨rfl,hr5,hr6⟩,⟨_,_,rfl,⟨rfl,hr7,hr8⟩,rfl⟩⟩,hc4⟩:=AW.get (hv4.mono (hl2.trans hl3)) hx4
   refine Wp.CV 11 follows rf (by kernel_rfl)<|Ag.A6 (Ab.AV (o':=1) Bv rf rf) rf<|Ag.A6 (Ab.Am (i:=0) (v:=v3) CC rf rf rf rf) rf<|Ag.A6 (Ab.move rf) rf<|Ag.A6 (Ab.Bo CC BA rf (hv3.mono (hl2.trans hl3)).sl rf (Ah hx3)) rf<|Ag.A6 (Ab.C9 (vs:=[(.int .u8 x3.1),(.int .u8 x3.2.1),(.int .i64 x3.2.2)]) QS rf BA rf rf (fun j u hj=>(hc3 j u hj))) rf<|Ag.A6 (Ab.AV (o':=1) Bv rf rf) rf<|Ag.A6 (Ab.Am (i:=1) (v:=v4) CC rf rf rf rf) rf ?_
   refine Ag.A6 (Ab.move rf) rf<|Ag.A6 (Ab.Bo CC BA rf (hv4.mono (hl2.trans hl3)).sl rf (Ah hx4)) rf<|Ag.A6 (Ab.C9 (vs:=[(.int .u8 x4.1),(.int .u8 x4.2.1),(.int .i64 x4.2.2)]) QS rf BA rf rf (fun j u hj=>(hc4 j u hj))) rf<|Ag.A6 (Ab.Ug (xs:=[x3.1,x3.2.1,x3.2.2]) (ys:=[x4.1,x4.2.1,x4.2.2]) UC rf rf rf rf) rf<|Ag.CW<|Ap.is (t:=2) rf<|Ap.is (t:=3) rf<|Ap.is (t:=6) rf ?_
   refine Ap.is (t:=7) rf<|Ap.is (t:=18) rf<|Ap.is (t:=19) rf<|Ap.is (t:=48) rf<|Ap.is (t:=49) rf<|Ap.is (t:=62) rf<|Ap.JB<|Aa.Af ?_
   refine Wp.cond rf (fun hb11=>?_) (fun hb11=>?_)
   ·
    replace hd:=Fs hb11 hd
    refine Wp.sr<|Aa.op (Ab.assign rf) rf<|Aa.Af<|Wp.ret<|At.Be<|At.Av<|At.Av<|At.Be ?_
    refine At.Be<|At.Av<|At.Av<|At.Be<|At.Av ?_
    obtain rfl:=si hd
    exact At.q1 4 ((hl1.trans hl2).trans hl3) rf (RV.tmp rf) rf
   replace hd:=Ft hb11 hd
   refine Wp.skip<|At.AE<|At.Ad<|Wp.region<|Aa.op (Ab.add rf rf (Aq (by omega))) rf<|Aa.op (Ab.move rf) rf<|Aa.nil ?_
   refine At.AO (Hp.le.refl _) ⟨(k2+1),rf,rf,(by rw[←hn2];exact hd)⟩ (Sub.of rf)
  obtain⟨hb10,hd⟩:=bF hb10 hd
  refine Wp.exit<|At.An<|At.An<|At.Az<|At.AE<|At.Ad<|Wp.region<|Aa.op (Ab.add rf rf (Aq (by omega))) rf ?_
  refine Aa.op (Ab.move rf) rf<|Aa.nil<|At.AR [2,3] 4 rf rf rf ?_
  refine At.AO (hl2.trans hl3) ⟨(k1+1),rf,rf,(by rw[←hn1];exact hd)⟩ (Sub.of rf)
 obtain⟨hb5,hd⟩:=bF hb5 hd
 refine Wp.exit<|At.An<|At.An<|At.Az<|At.Ad<|Wp.sr<|Aa.op (Ab.assign rf) rf<|Aa.Af ?_
 refine Wp.ret ?_
 obtain rfl:=si hd
 exact At.q1 2 hl1 rf (RV.tmp rf) rf
theorem QN{fu:Nat}{a0:Bool×(List (Int×Int×Int))}{a1:Bool×(List (Int×Int×Int))}{v1 v2:Value}{r:Bool}(hv1:AW (cP AZ (cP AZ Ao)) H a0.2 v1)(hv2:AW (cP AZ (cP AZ Ao)) H a1.2 v2)(hd:IC fu a0 a1=some r):
   Ca Tryz.prog 45 [(.agg #[(.bool a0.1),v1]),(.agg #[(.bool a1.1),v2])] H O (.bool r):=by
 intro w hs
 refine Bz Tryz.func45 rf rf rf ?_ hs
 clear hs w
 unfold IC at hd
 refine Wp.sr<|Aa.box (cs:= #[(.bool a0.1),v1]) rf rf rf fun B2=>Aa.box (cs:= #[(.bool a1.1),v2]) rf rf rf fun B3=>Aa.op (Ab.assign rf) rf<|Aa.Af<|Wp.seq ?_
 rcases Bool.eq_false_or_eq_true (a0.1==a1.1)with hg1|hg1
 ·
  replace hd:=Fs hg1 hd
  obtain⟨x1,hx1,hd⟩:=Ae hd
  refine Wp.region<|Aa.op (Ab.AV (o':=0) E_ rf rf) rf<|Aa.op (Ab.Am (i:=1) (v:=(.bool a0.1)) u4 rf rf rf rf) rf<|Aa.op (Ab.AV (o':=0) E_ rf rf) rf<|Aa.op (Ab.Am (i:=0) (v:=(.bool a1.1)) u4 rf rf rf rf) rf<|Aa.op (Ab.Bg (b:=a0.1==a1.1) (c:=true) (Ab.Z' u4 rf rf) hg1) rf<|Aa.op (Ab.move rf) rf<|Aa.Ay rf rf (Ab.AV (o':=1) Bv rf rf) rf ?_
  refine Aa.Ay rf rf (Ab.Am (i:=1) (v:=v1) CC rf rf rf rf) rf<|Aa.Ay rf rf (Ab.AV (o':=1) Bv rf rf) rf<|Aa.Ay rf rf (Ab.Am (i:=0) (v:=v2) CC rf rf rf rf) rf<|Aa.Ay rf rf (Ab.call Za rf (Mn hv1 hv2 hx1)) rf<|Aa.op (Ab.AK rf rf) rf<|Aa.op (Ab.assign rf) rf<|Aa.Af<|Wp.ret ?_
  obtain rfl:=si hd
  exact At.q1 2 (Hp.le.refl _) rf (RV.tmp rf) rf
 replace hd:=Ft hg1 hd
 refine Wp.region<|Aa.op (Ab.AV (o':=0) E_ rf rf) rf<|Aa.op (Ab.Am (i:=1) (v:=(.bool a0.1)) u4 rf rf rf rf) rf<|Aa.op (Ab.AV (o':=0) E_ rf rf) rf<|Aa.op (Ab.Am (i:=0) (v:=(.bool a1.1)) u4 rf rf rf rf) rf<|Aa.op (Ab.Bg (b:=a0.1==a1.1) (c:=false) (Ab.Z' u4 rf rf) hg1) rf<|Aa.op (Ab.move rf) rf<|Aa.Ai rf rf rf rf ?_
 refine Aa.Ai rf rf rf rf<|Aa.Ai rf rf rf rf<|Aa.Ai rf rf rf rf<|Aa.Ai rf rf rf rf<|Aa.op (Ab.AA rf rf) rf<|Aa.op (Ab.assign rf) rf<|Aa.Af<|Wp.ret ?_
 obtain rfl:=si hd
 exact At.q1 2 (Hp.le.refl _) rf (RV.tmp rf) rf
theorem GQ{fu:Nat}{a0:List (Bool×(List (Int×Int×Int)))}{a1:List (Bool×(List (Int×Int×Int)))}{v1 v2:Value}{r:Bool}(hv1:AW (cP cB (cL (cP AZ (cP AZ Ao)))) H a0 v1)(hv2:AW (cP cB (cL (cP AZ (cP AZ Ao)))) H a1 v2)(hd:Cy fu a0 a1=some r):
    Ca Tryz.prog 44 [v1,v2,(.func (.func 45) #[] #[])] H O (.bool r):=by
 intro w hs
 refine Bz Tryz.func44 rf rf rf ?_ hs
 clear hs w
 unfold Cy at hd
 refine Wp.sr<|Aa.op (Ab.assign rf) rf<|Aa.Af<|Wp.seq<|Wp.sr<|Aa.op (Ab.move rf) rf ?_
 have hb1:=hv1.le
 refine Aa.op (Ab.len CG rf hv1.sl) rf<|Aa.op (Ab.move rf) rf ?_
 have hb2:=hv2.le
 refine Aa.op (Ab.len CG rf hv2.sl) rf<|Aa.op (Ab.neq rf rf) rf<|Aa.Af ?_
 refine Wp.cond rf (fun hb3=>?_) (fun hb3=>?_)
 ·
  obtain⟨hb3,hd⟩:=bT hb3 hd
  refine Wp.sr<|Aa.op (Ab.assign rf) rf<|Aa.Af<|Wp.ret<|At.Av ?_
  obtain rfl:=si hd
  exact At.q1 0 (Hp.le.refl _) rf (RV.tmp rf) rf
 obtain⟨hb3,hd⟩:=bF hb3 hd
 refine Wp.skip<|At.Ad<|Wp.seq<|Wp.sr<|Aa.op (Ab.move rf) rf ?_
 have hb4:=hv1.le
 refine Aa.op (Ab.len CG rf hv1.sl) rf<|Aa.op (Ab.move rf) rf<|Aa.Af<|Wp.block<|Wp.A_ (fun m LL HH OO=> ∃(k1:Nat),[(1,v2),(2,(.func (.func 45) #[] #[])),(15,v1),(16,(.int .i64 (a0.length:Int))),(17,(.int .i64 (k1:Int)))]=LL∧O=OO∧Ax m (BD fu a0 a1) k1=some r) fu ⟨0,rf,rf,hd⟩ (Sub.of rf) ?_
 intro m1 L1 H1 O1 hl1 hI1
 obtain⟨k1,rfl,rfl,hd⟩:=hI1
 obtain⟨m2,nx1,rfl,hn1,hd⟩:=A9 hd
 replace hd:BD fu a0 a1 k1 nx1=some r:=hd
 unfold BD at hd
 refine Wp.sr<|Aa.op (Ab.lss rf rf) rf<|Aa.Af<|Wp.seq ?_
 refine Wp.cond rf (fun hb5=>?_) (fun hb5=>?_)
 ·
  obtain⟨hb5,hd⟩:=bT hb5 hd
  refine Wp.skip<|At.Ad<|Wp.seq<|Wp.block<|Wp.seq ?_
  obtain⟨x1,hx1,hd⟩:=Ae hd
  have hx1_:=Ah hx1
  refine Wp.region<|Aa.op (Ab.move rf) rf ?_
  obtain⟨_,⟨_,_,rfl,rfl,⟨v3,rfl,hv3⟩⟩,hc1⟩:=AW.get (hv1.mono hl1) hx1
  refine Aa.op (Ab.Bo CG Bl rf (hv1.mono hl1).sl rf (Ah hx1)) rf<|Aa.op (Ab.C9 (vs:=[(.bool x1.1),v3]) NA rf Bl rf rf (fun j u hj=>(hc1 j u hj))) rf<|Aa.alloc (cs:= #[(.bool false),(.slice none 0 0)]) Bl rf rf fun B2=>Aa.op (Ab.assign rf) rf<|Aa.AP (i:=0) (cs':= #[(.bool x1.1),v3]) rf rf Bl rf rf (Bc (Ac rf (Ac hv3.one (As)))) rf ?_
  refine Aa.own (O:=_::_) ?_ rf
  refine Aa.Af<|Wp.seq ?_
  obtain⟨x2,hx2,hd⟩:=Ae hd
  have hx2_:=Ah hx2
  refine Wp.region<|Aa.op (Ab.move rf) rf<|Aa.op (Ab.move rf) rf ?_
  obtain⟨_,⟨_,_,rfl,rfl,⟨v4,rfl,hv4⟩⟩,hc2⟩:=AW.get (hv2.mono hl1) hx2
  refine Aa.op (Ab.Bo CG Bl rf (hv2.mono hl1).sl rf (Ah hx2)) rf<|Aa.op (Ab.C9 (vs:=[(.bool x2.1),v4]) NA rf Bl rf rf (fun j u hj=>(hc2 j u hj))) rf<|Aa.alloc (cs:= #[(.bool false),(.slice none 0 0)]) Bl rf rf fun B3=>Aa.AP (i:=0) (cs':= #[(.bool x2.1),v4]) rf rf Bl rf rf (Bc (Ac rf (Ac hv4.one (As)))) rf ?_
  refine Aa.own (O:=_::_::_) ?_ rf
  refine Aa.Af<|Wp.seq ?_
  obtain⟨x3,hx3,hd⟩:=Ae hd
  refine Wp.region<|Aa.op (Ab.move rf) rf<|Aa.op (Ab.AF (i:=1) NA rf Bl rf rf rf) rf<|Aa.op (Ab.AF (i:=0) NA rf Bl rf rf rf) rf<|Aa.op (Ab.Xe (first:=[]) Zb rf rf (QN hv3 hv4 hx3)) rf<|Aa.op (Ab.not rf) rf<|Aa.Af ?_
  refine Wp.cond rf (fun hb6=>?_) (fun hb6=>?_)
  ·
   replace hd:=Fs hb6 hd
   refine Wp.sr<|Aa.op (Ab.assign rf) rf<|Aa.Af<|Wp.ret<|At.Be<|At.Av<|At.Av<|At.Be ?_
   refine At.Av ?_
   obtain rfl:=si hd
   exact At.q1 2 hl1 rf (RV.tmp rf) rf
  replace hd:=Ft hb6 hd
  refine Wp.skip<|At.AE<|At.Ad<|Wp.region<|Aa.op (Ab.add rf rf (Aq (by omega))) rf<|Aa.op (Ab.move rf) rf<|Aa.nil<|At.AR [] 2 rf rf rf ?_
  refine At.AO (Hp.le.refl _) ⟨(k1+1),rf,rf,(by rw[←hn1];exact hd)⟩ (Sub.of rf)
 obtain⟨hb5,hd⟩:=bF hb5 hd
 refine Wp.exit<|At.An<|At.An<|At.Az<|At.Ad<|Wp.sr<|Aa.op (Ab.assign rf) rf<|Aa.Af ?_
 refine Wp.ret ?_
 obtain rfl:=si hd
 exact At.q1 0 hl1 rf (RV.tmp rf) rf
theorem Ts{fu:Nat}{a0:List (Bool×(List (Int×Int×Int)))}{a1:List (Bool×(List (Int×Int×Int)))}{v1 v2:Value}{r:Bool}(hv1:AW (cP cB (cL (cP AZ (cP AZ Ao)))) H a0 v1)(hv2:AW (cP cB (cL (cP AZ (cP AZ Ao)))) H a1 v2)(hd:KR fu a0 a1=some r):
  Ca Tryz.prog 17 [(.agg #[v1]),(.agg #[v2])] H O (.bool r):=by
 intro w hs
 refine Bz Tryz.func17 rf rf rf ?_ hs
 clear hs w
 unfold KR at hd
 refine Wp.sr<|Aa.box (cs:= #[v1]) rf rf rf fun B2=>Aa.box (cs:= #[v2]) rf rf rf fun B3=>Aa.op (Ab.assign rf) rf<|Aa.Af<|Wp.seq ?_
 obtain⟨x1,hx1,hd⟩:=Ae hd
 refine Wp.region<|Aa.op (Ab.AV (o':=0) Ck rf rf) rf<|Aa.op (Ab.Am (i:=1) (v:=v1) CG rf rf rf rf) rf<|Aa.op (Ab.AV (o':=0) Ck rf rf) rf<|Aa.op (Ab.Am (i:=0) (v:=v2) CG rf rf rf rf) rf<|Aa.op (Ab.call Zc rf (GQ hv1 hv2 hx1)) rf<|Aa.op (Ab.assign rf) rf<|Aa.Af ?_
 refine Wp.ret ?_
 obtain rfl:=si hd
 exact At.q1 2 (Hp.le.refl _) rf (RV.tmp rf) rf
theorem Gf{fu:Nat}{a0:Cb}{r:List (Bool×(List (Int×Int×Int)))}(hd:Po fu a0=some r):
   ED Tryz.prog 21 [(sv a0)] H O (fun v H' O'=>(∃v1:Value,(.agg #[v1])=v∧AW (cP cB (cL (cP AZ (cP AZ Ao)))) H' r v1)∧O=O'):=by
 intro w hs
 refine Bz Tryz.func21 rf rf rf ?_ hs
 clear hs w
 unfold Po at hd
 refine Wp.sr<|Aa.alloc (cs:= #[(.slice none 0 0)]) A5 rf rf fun B1=>Aa.Af<|Wp.sr<|Aa.alloc (cs:= #[(.slice none 0 0)]) A5 rf rf fun B2=>Aa.Af<|Wp.seq<|Wp.sr ?_
 refine Aa.op (Ab.move rf) rf<|Aa.op (Ab.XM u9 rf) rf<|Aa.op (Ab.move rf) rf<|Aa.Af<|Wp.block<|Wp.BG 43 2<|Wp.A_ (fun m LL HH OO=> ∃(l1:List (Bool×(List (Int×Int×Int)))),∃(i1:Int),∃(v2:Value),∃(xs1:List Value),[(0,(sv a0)),(2,(ptr B1 0)),(3,(ptr B2 0)),(6,(.int .i64 (a0.length:Int))),(7,(.int .i64 i1))]=LL∧ .row v2 43 2 l1.length xs1:: .AM B2 (.cells #[v2] 26 (0,0)):: .AM B1 (.cells #[(.slice none 0 0)] 26 (0,0))::O=OO∧Ax m (fun p nx=>IY fu a0 p.1 p.2 nx) (l1,i1)=some r∧Au (cP cB (cL (cP AZ (cP AZ Ao)))) HH l1 xs1) fu ⟨([]:List (Bool×(List (Int×Int×Int)))),0,(.slice none 0 0),[],rf,rf,hd,(Au.nil (c:=(cP cB (cL (cP AZ (cP AZ Ao))))) (H:=H))⟩ (Sub.of rf) ?_
 intro m1 L1 H1 O1 hl1 hI1
 obtain⟨l1,i1,v2,xs1,rfl,rfl,hd,hq1⟩:=hI1
 obtain⟨m2,nx1,rfl,hn1,hd⟩:=A9 hd
 replace hd:IY fu a0 l1 i1 nx1=some r:=hd
 unfold IY at hd
 refine Wp.sr<|Aa.op (Ab.lss rf rf) rf<|Aa.Af<|Wp.seq ?_
 refine Wp.cond rf (fun hb1=>?_) (fun hb1=>?_)
 ·
  obtain⟨hb1,hd⟩:=bT hb1 hd
  refine Wp.skip<|At.Ad<|Wp.seq<|Wp.block<|Wp.sr<|Aa.op (Ab.move rf) rf<|Aa.op (Ab.assign rf) rf<|Aa.Af ?_
  obtain⟨x1,hx1,hd⟩:=Ae hd
  have hx1_:=LY hx1
  obtain⟨x2,hx2,hd⟩:=Ae hd
  have hx2_:=LY hx2
  obtain⟨ha1,hd⟩:=Al hd
  obtain⟨ha2,hd⟩:=Al hd
  refine Wp.emp<|Wp.emp<|Aj.runK 5 [AU,⟨[3],[],[]⟩,AU,AU,AU,AU,AU,AU,AU,AU,AU,⟨[0],[0],[11]⟩,⟨[],[],[11]⟩,⟨[1],[1],[11,13]⟩,⟨[1,2],[2],[11,14]⟩,AU,⟨[3],[3],[14]⟩] follows rf (by kernel_rfl)<|Aj.op (val:=fun p1=>(ptr B2 0)) rf rf (fun _=>rfl) (fun _ p1 _ hx hf hy=>Ab.AV (o':=0) Ck rf rf) rf<|Aj.op (val:=fun p1=>v2) rf rf (fun _=>rfl) (fun _ p1 _ hx hf hy=>Ab.Am (i:=3) (v:=v2) CG rf rf (hy 3 _ rf rf) rf) rf<|Aj.op (val:=fun p1=>(sv a0)) rf rf (fun _=>rfl) (fun _ p1 _ hx hf hy=>Ab.move rf) rf<|Aj.op (val:=fun p1=>(.int .i64 i1)) rf rf (fun _=>rfl) (fun _ p1 _ hx hf hy=>Ab.move rf) rf<|Aj.op (val:=fun p1=>(.int .u8 x1)) rf rf (fun _=>rfl) (fun _ p1 _ hx hf hy=>Ab.QL u9 rf rf hx1) rf ?_
  refine Aj.op (val:=fun p1=>(sv a0)) rf rf (fun _=>rfl) (fun _ p1 _ hx hf hy=>Ab.move rf) rf<|Aj.op (val:=fun p1=>(.int .i64 i1)) rf rf (fun _=>rfl) (fun _ p1 _ hx hf hy=>Ab.move rf) rf<|Aj.op (val:=fun p1=>(.int .u8 x2)) rf rf (fun _=>rfl) (fun _ p1 _ hx hf hy=>Ab.QL u9 rf rf hx2) rf<|Aj.op (val:=fun p1=>(.int .i64 i1)) rf rf (fun _=>rfl) (fun _ p1 _ hx hf hy=>Ab.move rf) rf<|Aj.op (val:=fun p1=>(.int .i64 (i1+1))) rf rf (fun _=>rfl) (fun _ p1 _ hx hf hy=>Ab.add rf rf (Aq ha1)) rf<|Aj.op (val:=fun p1=>(.agg #[(.int .u8 x1),(.int .u8 x2),(.int .i64 (i1+1))])) rf rf (fun _=>rfl) (fun _ p1 _ hx hf hy=>Ab.Bi (vs:=[(0,(.int .u8 x1)),(1,(.int .u8 x2)),(2,(.int .i64 (i1+1)))]) (cs:= #[(.int .u8 x1),(.int .u8 x2),(.int .i64 (i1+1))]) Ho BA rf rf (AJ rf (AJ rf (AJ rf (Bd)))) rf) rf<|Aj.Hs (res:=fun p1=> .row (p1 11) 46 3 1 [(.int .u8 x1),(.int .u8 x2),(.int .i64 (i1+1))]) 0 rf rf rf (fun _=>rfl) (fun _ p1 _ hx hf hy=>BC.EO (v:=(.agg #[(.int .u8 x1),(.int .u8 x2),(.int .i64 (i1+1))])) (cs:=[(.int .u8 x1),(.int .u8 x2),(.int .i64 (i1+1))]) 0 CC BA rf rf rf rf rf (hy 0 _ rf rf)) rf (fun _=>⟨_,_,_,_,rf⟩)<|Aj.op (val:=fun p1=>(.agg #[(.bool false),(p1 11)])) rf rf (fun _=>rfl) (fun _ p1 _ hx hf hy=>Ab.Bi (vs:=[(1,(p1 11))]) (cs:= #[(.bool false),(p1 11)]) Hq Bl rf rf (AJ (GV (hf 11 rf rf)) (Bd)) rf) rf ?_
  refine Aj.Hs (res:=fun p1=> .row (p1 13) 43 2 1 [(.bool false),(p1 11)]) 1 rf rf rf (fun _=>rfl) (fun _ p1 _ hx hf hy=>BC.EO (v:=(.agg #[(.bool false),(p1 11)])) (cs:=[(.bool false),(p1 11)]) 1 CG Bl rf rf rf rf rf (hy 1 _ rf rf)) rf (fun _=>⟨_,_,_,_,rf⟩)<|Aj.Hs (res:=fun p1=> .row (p1 14) 43 2 (l1.length+1) (xs1++[(.bool false),(p1 11)])) 2 rf rf rf (fun _=>rfl) (fun _ p1 _ hx hf hy=>BC.M' 2 1 CG Bl rf rf rf rf (hy 2 _ rf rf) (hy 1 _ rf rf) (Ac rf (Ac (hf 11 rf rf) (As))) rf ha2) rf (fun _=>⟨_,_,_,_,rf⟩)<|Aj.op (val:=fun p1=>(ptr B2 0)) rf rf (fun _=>rfl) (fun _ p1 _ hx hf hy=>Ab.AV (o':=0) Ck rf rf) rf<|Aj.Kr (res:=fun p1=> .AM B2 (.cells #[(p1 14)] 26 (0,0))) 3 rf rf rf (fun _=>rfl) (fun _ p1 _ hx hf hy=>BC.VQ (vs:=[(p1 14)]) rf rf (DZ (hf 14 rf rf)) VP rf (Ac (hf 14 rf rf) (As)) (hy 3 _ rf rf) rf rf)<|Aj.done fun H2 p1 hl2 hF1=>At.sub (L':=[(0,(sv a0)),(2,(ptr B1 0)),(3,(ptr B2 0)),(6,(.int .i64 (a0.length:Int))),(7,(.int .i64 i1))]) (Sub.of rf) ?_
  refine At.own (O:= .row (p1 11) 46 3 ([(x1,x2,i1+1)]:List (Int×Int×Int)).length [(.int .u8 x1),(.int .u8 x2),(.int .i64 (i1+1))]:: .row (p1 13) 43 2 ([(false,([(x1,x2,i1+1)]:List (Int×Int×Int)))]:List (Bool×(List (Int×Int×Int)))).length [(.bool false),(p1 11)]:: .row (p1 14) 43 2 (l1++([(false,([(x1,x2,i1+1)]:List (Int×Int×Int)))]:List (Bool×(List (Int×Int×Int))))).length (xs1++[(.bool false),(p1 11)]):: .AM B2 (.cells #[(p1 14)] 26 (0,0)):: .AM B1 (.cells #[(.slice none 0 0)] 26 (0,0))::O) ?_ (by first|rfl|(simp only[List.length_append,List.length_set];rfl)|simp)
  have hq2:Au (cP AZ (cP AZ Ao)) H2 ([(x1,x2,i1+1)]:List (Int×Int×Int)) [(.int .u8 x1),(.int .u8 x2),(.int .i64 (i1+1))]:=(Au.Kj (c:=(cP AZ (cP AZ Ao))) (a:=(x1,x2,i1+1)) (cs:=[(.int .u8 x1),(.int .u8 x2),(.int .i64 (i1+1))]) (⟨[(.int .u8 x1)],[(.int .u8 x2),(.int .i64 (i1+1))],rfl,⟨rfl,(show(0:Int)≤x1 by omega),(show x1≤(255:Int) by omega)⟩,⟨[(.int .u8 x2)],[(.int .i64 (i1+1))],rfl,⟨rfl,(show(0:Int)≤x2 by omega),(show x2≤(255:Int) by omega)⟩,rfl⟩⟩))
  refine At.A7 (i:=0) rf fun hb2=>?_
  refine At.freeze (i:=0) rf fun H3 hl3 hs1=>?_
  have hv1:=AW.of (c:=(cP AZ (cP AZ Ao))) hs1 rfl (hq2.mono hl3) hb2
  have hq3:Au (cP cB (cL (cP AZ (cP AZ Ao)))) H3 (l1++([(false,([(x1,x2,i1+1)]:List (Int×Int×Int)))]:List (Bool×(List (Int×Int×Int))))) (xs1++[(.bool false),(p1 11)]):=(Au.app (hq1.mono (hl2.trans hl3)) (Au.Kj (c:=(cP cB (cL (cP AZ (cP AZ Ao))))) (a:=(false,([(x1,x2,i1+1)]:List (Int×Int×Int)))) (cs:=[(.bool false),(p1 11)]) (⟨[(.bool false)],[(p1 11)],rfl,rfl,⟨_,rfl,hv1⟩⟩)))
  refine At.AR [1,2,3] 4 rf rf rf<|At.AE<|At.Ad ?_
  obtain⟨ha3,hd⟩:=Al hd
  refine Wp.region<|Aa.op (Ab.add rf rf (Aq ha3)) rf<|Aa.op (Ab.move rf) rf<|Aa.nil ?_
  refine At.AO (hl2.trans hl3) ⟨(l1++([(false,([(x1,x2,i1+1)]:List (Int×Int×Int)))]:List (Bool×(List (Int×Int×Int))))),(i1+1),(p1 14),xs1++[(.bool false),(p1 11)],rf,rf,(by rw[←hn1];exact hd),hq3⟩ (Sub.of rf)
 obtain⟨hb1,hd⟩:=bF hb1 hd
 refine Wp.exit<|At.An<|At.An<|At.Az<|At.Ad<|Wp.seq ?_
 obtain⟨ha4,hd⟩:=Al hd
 refine Wp.region<|Aa.op (Ab.AV (o':=0) Ck rf rf) rf<|Aa.op (Ab.Am (i:=1) (v:=v2) CG rf rf rf rf) rf<|Aa.op (Ab.Bi (vs:=[(0,(.bool true))]) (cs:= #[(.bool true),(.slice none 0 0)]) Hq Bl rf rf (AJ rf (Bd)) rf) rf<|Aa.A1 (c:=(cP cB (cL (cP AZ (cP AZ Ao))))) (y:=(true,([]:List (Int×Int×Int)))) (cs:=[(.bool true),(.slice none 0 0)]) CG Bl rf rf rf rf (⟨[(.bool true)],[(.slice none 0 0)],rf,rf,⟨_,rf,AW.nil⟩⟩) rf fun v3 xs2 hq4=>Aa.Df (i:=1) (j:=0) hq1 hq4 CG Bl rf (by decide) rf rf rf rf (by decide) ha4 rf fun v4 xs3 hq5=>Aa.drop (i:=0)<|Aa.op (Ab.AV (o':=0) Ck rf rf) rf ?_
 refine Aa.Bm (i:=0) rf fun ho1=>Aa.Cc (i:=1) rf rf ho1 VP rf (Nat.le_of_ble_eq_true rf) ?_
 refine Aa.own (O:=_::_::_::_) ?_ rf
 refine Aa.Af<|Wp.sr<|Aa.op (Ab.AF (i:=1) Eo rf A5 rf rf rf) rf<|Aa.Bm (i:=0) rf fun ho2=>Aa.AP (i:=2) (cs':= #[v4]) rf rf A5 rf rf (Bc (Ac ho2 (As))) rf ?_
 refine Aa.own (O:=_::_::_::_) ?_ rf
 refine Aa.Af<|Wp.ret ?_
 refine At.A7 (i:=0) rf fun hb3=>?_
 refine At.freeze (i:=0) rf fun H4 hl4 hs2=>?_
 have hv2:=AW.of (c:=(cP cB (cL (cP AZ (cP AZ Ao))))) hs2 rfl (hq5.mono hl4) hb3
 obtain rfl:=si hd
 exact At.DB rf (RV.C' (i:=1) rf Eo rf A5 rf rf) (fun w hs=>⟨_,_,_,rf,(hl1.trans hl4),(hs.Cg 2),⟨⟨v4,rf,hv2⟩,rf⟩⟩)
theorem GN{fu:Nat}{r:List (Bool×(List (Int×Int×Int)))}(hd:Ry fu=some r):
  ED Tryz.prog 20 [] H O (fun v H' O'=>(∃v1:Value,(.agg #[v1])=v∧AW (cP cB (cL (cP AZ (cP AZ Ao)))) H' r v1)∧O=O'):=by
 intro w hs
 refine Bz Tryz.func20 rf rf rf ?_ hs
 clear hs w
 unfold Ry at hd
 refine Wp.sr<|Aa.alloc (cs:= #[(.slice none 0 0)]) A5 rf rf fun B1=>Aa.Af<|Wp.sr<|Aa.op (Ab.Bi (vs:=[(0,(.int .u8 0)),(1,(.int .u8 255)),(2,(.int .i64 0))]) (cs:= #[(.int .u8 0),(.int .u8 255),(.int .i64 0)]) Ho BA rf rf (AJ rf (AJ rf (AJ rf (Bd)))) rf) rf<|Aa.A1 (c:=(cP AZ (cP AZ Ao))) (y:=(0,255,0)) (cs:=[(.int .u8 0),(.int .u8 255),(.int .i64 0)]) CC BA rf rf rf rf (⟨[(.int .u8 0)],[(.int .u8 255),(.int .i64 0)],rf,⟨rf,(show(0:Int)≤0 by omega),(show 0≤(255:Int) by omega)⟩,⟨[(.int .u8 255)],[(.int .i64 0)],rf,⟨rf,(show(0:Int)≤255 by omega),(show 255≤(255:Int) by omega)⟩,rf⟩⟩) rf fun v2 xs1 hq1=>Aa.Bm (i:=0) rf fun ho1=>Aa.op (Ab.Bi (vs:=[(0,(.bool true)),(1,v2)]) (cs:= #[(.bool true),v2]) Hq Bl rf rf (AJ rf (AJ (GV ho1) (Bd))) rf) rf ?_
 refine Aa.A7 (i:=0) rf fun hb1=>?_
 refine Aa.freeze (i:=0) rf fun H1 hl1 hs1=>?_
 have hv1:=AW.of (c:=(cP AZ (cP AZ Ao))) hs1 rfl (hq1.mono hl1) hb1
 refine Aa.A1 (c:=(cP cB (cL (cP AZ (cP AZ Ao))))) (y:=(true,([(0,255,0)]:List (Int×Int×Int)))) (cs:=[(.bool true),v2]) CG Bl rf rf rf rf (⟨[(.bool true)],[v2],rf,rf,⟨_,rf,hv1⟩⟩) rf fun v3 xs2 hq2=>Aa.Bm (i:=0) rf fun ho2=>Aa.op (Ab.Bi (vs:=[(0,v3)]) (cs:= #[v3]) FQ A5 rf rf (AJ (GV ho2) (Bd)) rf) rf<|Aa.Bm (i:=0) rf fun ho3=>Aa.AP (i:=1) (cs':= #[v3]) rf rf A5 rf rf (Bc (Ac ho3 (As))) rf ?_
 refine Aa.own (O:=_::_::_) ?_ rf
 refine Aa.Af<|Wp.ret ?_
 refine At.A7 (i:=0) rf fun hb2=>?_
 refine At.freeze (i:=0) rf fun H2 hl2 hs2=>?_
 have hv2:=AW.of (c:=(cP cB (cL (cP AZ (cP AZ Ao))))) hs2 rfl (hq2.mono hl2) hb2
 obtain rfl:=si hd
 exact At.DB rf (RV.C' (i:=0) rf Eo rf A5 rf rf) (fun w hs=>⟨_,_,_,rf,(hl1.trans hl2),(hs.Cg 1),⟨⟨v3,rf,hv2⟩,rf⟩⟩)
theorem Vm{fu:Nat}{a0:List (Bool×(List (Int×Int×Int)))}{v1:Value}{r:List Int}(hv1:AW (cP cB (cL (cP AZ (cP AZ Ao)))) H a0 v1)(hd:Lo fu a0=some r):
    ED Tryz.prog 48 [v1] H O (fun v H' O'=>(∃v2:Value,v2=v∧AW Ao H' r v2)∧O=O'):=by
 intro w hs
 refine Bz Tryz.func48 rf rf rf ?_ hs
 clear hs w
 unfold Lo at hd
 refine Wp.sr<|Aa.op (Ab.assign rf) rf<|Aa.Af<|Wp.sr<|Aa.alloc (cs:=(List.replicate 257 (.bool false)).toArray) Ym rf rf fun B2=>?_
 have hq1:Au cB H (List.replicate 257 false:List Bool) ((List.replicate 257 (.bool false)).toArray).toList:=Au.Xy rfl 257
 refine Aa.Af<|Wp.seq ?_
 obtain⟨x1,hx1,hd⟩:=Ae hd
 refine Wp.region ?_
 obtain⟨_,rfl,hc1,hc1_⟩:=Au.get hq1 (AG hx1).2
 have hn1:=Au.Qm hq1 (RH 257 _)
 refine Aa.op (Ab.El (off':=0*1) WS ES rf rf (by have:=Ah hx1;simp only[cB,Ao,AZ]at hn1;omega) (by simp)) rf ?_
 refine Aa.Ye (q:=0) (y:=true) (i:=0) hq1 (RH 257 _) (Ah hx1) rf rf rf ES rf (rf) (fun cs1 hq2=>?_)
 refine Aa.Af<|Wp.seq<|Wp.sr<|Aa.op (Ab.move rf) rf ?_
 have hb1:=hv1.le
 refine Aa.op (Ab.len CG rf hv1.sl) rf<|Aa.op (Ab.move rf) rf<|Aa.Af<|Wp.block<|Wp.A_ (fun m LL HH OO=> ∃(l1:List Bool),∃(k1:Nat),∃(cs2:Array Value),[(3,(ptr B2 0)),(11,v1),(12,(.int .i64 (a0.length:Int))),(13,(.int .i64 (k1:Int)))]=LL∧ .AM B2 (.cells cs2 91 (0,0))::O=OO∧Ax m (fun p nx=>Hj fu a0 p.1 p.2 nx) (l1,k1)=some r∧Au cB HH l1 cs2.toList∧cs2.size=257) fu ⟨((List.replicate 257 false:List Bool).set 0 true),0,cs1,rf,rf,hd,⟨hq2.1,hq2.2⟩⟩ (Sub.of rf) ?_
 intro m1 L1 H1 O1 hl1 hI1
 obtain⟨l1,k1,cs2,rfl,rfl,hd,hq3⟩:=hI1
 obtain⟨m2,nx1,rfl,hn2,hd⟩:=A9 hd
 replace hd:Hj fu a0 l1 k1 nx1=some r:=hd
 unfold Hj at hd
 refine Wp.sr<|Aa.op (Ab.lss rf rf) rf<|Aa.Af<|Wp.seq ?_
 refine Wp.cond rf (fun hb2=>?_) (fun hb2=>?_)
 ·
  obtain⟨hb2,hd⟩:=bT hb2 hd
  refine Wp.skip<|At.Ad<|Wp.seq<|Wp.block<|Wp.seq ?_
  obtain⟨x2,hx2,hd⟩:=Ae hd
  have hx2_:=Ah hx2
  refine Wp.region ?_
  obtain⟨_,⟨_,_,rfl,rfl,⟨v3,rfl,hv2⟩⟩,hc2⟩:=AW.get (hv1.mono hl1) hx2
  refine Aa.op (Ab.Bo CG Bl rf (hv1.mono hl1).sl rf (Ah hx2)) rf<|Aa.op (Ab.C9 (vs:=[(.bool x2.1),v3]) NA rf Bl rf rf (fun j u hj=>(hc2 j u hj))) rf<|Aa.alloc (cs:= #[(.bool false),(.slice none 0 0)]) Bl rf rf fun B3=>Aa.AP (i:=0) (cs':= #[(.bool x2.1),v3]) rf rf Bl rf rf (Bc (Ac rf (Ac hv2.one (As)))) rf ?_
  refine Aa.own (O:=_::_::_) ?_ rf
  refine Aa.Af<|Wp.sr<|Aa.op (Ab.AV (o':=1) Bv rf rf) rf<|Aa.op (Ab.Am (i:=0) (v:=v3) CC rf rf rf rf) rf ?_
  have hb3:=hv2.le
  refine Aa.op (Ab.len CC rf hv2.sl) rf<|Aa.op (Ab.move rf) rf<|Aa.Af<|Wp.block<|Wp.A_ (fun m LL HH OO=> ∃(l2:List Bool),∃(k2:Nat),∃(cs3:Array Value),[(3,(ptr B2 0)),(11,v1),(12,(.int .i64 (a0.length:Int))),(13,(.int .i64 (k1:Int))),(18,v3),(19,(.int .i64 (x2.2.length:Int))),(20,(.int .i64 (k2:Int)))]=LL∧ .AM B3 (.cells #[(.bool x2.1),v3] 43 (0,0)):: .AM B2 (.cells cs3 91 (0,0))::O=OO∧Ax m (fun p nx=>Hi fu k1 nx1 x2 p.1 p.2 nx) (l2,k2)=some r∧Au cB HH l2 cs3.toList∧cs3.size=257) fu ⟨l1,0,cs2,rf,rf,hd,⟨hq3.1,hq3.2⟩⟩ (Sub.of rf) ?_
  intro m3 L2 H2 O2 hl2 hI2
  obtain⟨l2,k2,cs3,rfl,rfl,hd,hq4⟩:=hI2
  obtain⟨m4,nx2,rfl,hn3,hd⟩:=A9 hd
  replace hd:Hi fu k1 nx1 x2 l2 k2 nx2=some r:=hd
  unfold Hi at hd
  refine Wp.sr<|Aa.op (Ab.lss rf rf) rf<|Aa.Af<|Wp.seq ?_
  refine Wp.cond rf (fun hb4=>?_) (fun hb4=>?_)
  ·
   obtain⟨hb4,hd⟩:=bT hb4 hd
   refine Wp.skip<|At.Ad<|Wp.seq<|Wp.block<|Wp.seq ?_
   obtain⟨x3,hx3,hd⟩:=Ae hd
   have hx3_:=Ah hx3
   refine Wp.region ?_
   obtain⟨_,⟨_,_,rfl,⟨rfl,hr1,hr2⟩,⟨_,_,rfl,⟨rfl,hr3,hr4⟩,rfl⟩⟩,hc3⟩:=AW.get (hv2.mono hl2) hx3
   refine Aa.op (Ab.Bo CC BA rf (hv2.mono hl2).sl rf (Ah hx3)) rf<|Aa.op (Ab.C9 (vs:=[(.int .u8 x3.1),(.int .u8 x3.2.1),(.int .i64 x3.2.2)]) QS rf BA rf rf (fun j u hj=>(hc3 j u hj))) rf<|Aa.alloc (cs:= #[(.int .u8 0),(.int .u8 0),(.int .i64 0)]) BA rf rf fun B4=>Aa.AP (i:=0) (cs':= #[(.int .u8 x3.1),(.int .u8 x3.2.1),(.int .i64 x3.2.2)]) rf rf BA rf rf (Bc (Ac rf (Ac rf (Ac rf (As))))) rf ?_
   refine Aa.own (O:=_::_::_::_) ?_ rf
   refine Aa.Af<|Wp.seq ?_
   obtain⟨x4,hx4,hd⟩:=Ae hd
   refine Wp.region<|Aa.op (Ab.AV (o':=0) Dg rf rf) rf<|Aa.op (Ab.Am (i:=0) (v:=(.int .u8 x3.1)) u5 rf rf rf rf) rf ?_
   obtain⟨_,rfl,hc4,hc4_⟩:=Au.get hq4.1 (AG hx4).2
   have hn4:=Au.Qm hq4.1 hq4.2
   refine Aa.op (Ab.El (off':=x3.1.toNat*1) WS ES rf rf (by have:=Ah hx4;simp only[cB,Ao,AZ]at hn4;omega) (by simp)) rf ?_
   refine Aa.Ye (q:=2) (y:=true) (i:=x3.1) hq4.1 hq4.2 (Ah hx4) rf rf rf ES rf (rf) (fun cs4 hq5=>?_)
   refine Aa.Af ?_
   obtain⟨ha1,hd⟩:=Al hd
   obtain⟨x5,hx5,hd⟩:=Ae hd
   refine Wp.region<|Aa.op (Ab.AV (o':=1) C_ rf rf) rf<|Aa.op (Ab.Am (i:=0) (v:=(.int .u8 x3.2.1)) u5 rf rf rf rf) rf<|Aa.op (Ab.conv u5 u3 rf (Aq (by omega))) rf<|Aa.op (Ab.add rf rf (Aq ha1)) rf ?_
   obtain⟨_,rfl,hc5,hc5_⟩:=Au.get hq5.1 (AG hx5).2
   have hn5:=Au.Qm hq5.1 hq5.2
   refine Aa.op (Ab.El (off':=((x3.2.1+1).toNat)*1) WS ES rf rf (by have:=Ah hx5;simp only[cB,Ao,AZ]at hn5;omega) (by simp)) rf ?_
   refine Aa.Ye (q:=2) (y:=true) (i:=(x3.2.1+1)) hq5.1 hq5.2 (Ah hx5) rf rf rf ES rf (rf) (fun cs5 hq6=>?_)
   refine Aa.nil<|At.AE<|At.Ad<|Wp.region<|Aa.op (Ab.add rf rf (Aq (by omega))) rf<|Aa.op (Ab.move rf) rf<|Aa.nil<|At.AR [1,2] 3 rf rf rf ?_
   refine At.AO (Hp.le.refl _) ⟨((l2.set x3.1.toNat true).set ((x3.2.1+1).toNat) true),(k2+1),cs5,rf,rf,(by rw[←hn3];exact hd),⟨hq6.1,hq6.2⟩⟩ (Sub.of rf)
  obtain⟨hb4,hd⟩:=bF hb4 hd
  refine Wp.exit<|At.An<|At.An<|At.Az<|At.AE<|At.Ad<|Wp.region<|Aa.op (Ab.add rf rf (Aq (by omega))) rf ?_
  refine Aa.op (Ab.move rf) rf<|Aa.nil<|At.AR [1] 2 rf rf rf ?_
  refine At.AO hl2 ⟨l2,(k1+1),cs3,rf,rf,(by rw[←hn2];exact hd),⟨hq4.1,hq4.2⟩⟩ (Sub.of rf)
 obtain⟨hb2,hd⟩:=bF hb2 hd
 refine Wp.exit<|At.An<|At.An<|At.Az<|At.Ad<|Wp.sr<|Aa.op (Ab.assign rf) rf<|Aa.Af ?_
 refine Wp.seq<|Wp.sr<|Aa.op (Ab.move rf) rf<|Aa.Af<|Wp.block<|Wp.BG 3 1<|Wp.A_ (fun m LL HH OO=> ∃(l3:List Int),∃(k3:Nat),∃(v4:Value),∃(xs1:List Value),[(3,(ptr B2 0)),(8,v4),(34,(.int .i64 (k3:Int)))]=LL∧ .row v4 3 1 l3.length xs1:: .AM B2 (.cells cs2 91 (0,0))::O=OO∧Ax m (fun p nx=>Hg fu l1 p.1 p.2 nx) (l3,k3)=some r∧Au Ao HH l3 xs1) fu ⟨([]:List Int),0,(.slice none 0 0),[],rf,rf,hd,(Au.nil (c:=Ao) (H:=H1))⟩ (Sub.of rf) ?_
 intro m5 L3 H3 O3 hl3 hI3
 obtain⟨l3,k3,v4,xs1,rfl,rfl,hd,hq7⟩:=hI3
 obtain⟨m6,nx3,rfl,hn6,hd⟩:=A9 hd
 replace hd:Hg fu l1 l3 k3 nx3=some r:=hd
 unfold Hg at hd
 refine Wp.sr<|Aa.op (Ab.lss rf rf) rf<|Aa.Af<|Wp.seq ?_
 refine Wp.cond rf (fun hb5=>?_) (fun hb5=>?_)
 ·
  obtain⟨hb5,hd⟩:=bT hb5 hd
  refine Wp.skip<|At.Ad<|Wp.seq<|Wp.block<|Wp.sr<|Aa.op (Ab.move rf) rf<|Aa.op (Ab.assign rf) rf<|Aa.Af ?_
  refine Wp.seq ?_
  obtain⟨x6,hx6,hd⟩:=Ae hd
  refine Wp.region<|Aa.op (Ab.move rf) rf ?_
  obtain⟨_,rfl,hc6,hc6_⟩:=Au.get (hq3.1.mono hl3) (AG hx6).2
  have hn7:=Au.Qm (hq3.1.mono hl3) hq3.2
  refine Aa.op (Ab.El (off':=k3*1) WS ES rf rf (by have:=Ah hx6;simp only[cB,Ao,AZ]at hn7;omega) (by simp)) rf<|Aa.op (Ab.Am (i:=1) (v:=(.bool x6)) u4 rf rf rf (by have:=hc6 0 _ rf;simpa [cB,Ao,AZ]using this)) rf<|Aa.Af ?_
  refine Wp.cond rf (fun hb6=>?_) (fun hb6=>?_)
  ·
   replace hd:=Fs hb6 hd
   obtain⟨ha2,hd⟩:=Al hd
   refine Wp.region<|Aa.op (Ab.move rf) rf<|Aa.op (Ab.move rf) rf<|Aa.A1 (c:=Ao) (y:=(k3:Int)) (cs:=[(.int .i64 (k3:Int))]) BF Cp rf rf rf rf (rf) rf fun v5 xs2 hq8=>Aa.Df (i:=1) (j:=0) hq7 hq8 BF Cp rf (by decide) rf rf rf rf (by decide) ha2 rf fun v6 xs3 hq9=>Aa.drop (i:=0)<|Aa.op (Ab.assign rf) rf<|Aa.nil ?_
   refine At.AE<|At.Ad<|Wp.region<|Aa.op (Ab.add rf rf (Aq (by omega))) rf<|Aa.op (Ab.move rf) rf<|Aa.nil ?_
   refine At.AO (Hp.le.refl _) ⟨(l3++([(k3:Int)]:List Int)),(k3+1),v6,xs3,rf,rf,(by rw[←hn6];exact hd),hq9⟩ (Sub.of rf)
  replace hd:=Ft hb6 hd
  refine Wp.skip<|At.AE<|At.Ad<|Wp.region<|Aa.op (Ab.add rf rf (Aq (by omega))) rf<|Aa.op (Ab.move rf) rf<|Aa.nil ?_
  refine At.AO (Hp.le.refl _) ⟨l3,(k3+1),v4,xs1,rf,rf,(by rw[←hn6];exact hd),hq7⟩ (Sub.of rf)
 obtain⟨hb5,hd⟩:=bF hb5 hd
 refine Wp.exit<|At.An<|At.An<|At.Az<|At.Ad<|Wp.sr<|Aa.op (Ab.move rf) rf<|Aa.op (Ab.assign rf) rf ?_
 refine Aa.Af<|Wp.ret ?_
 refine At.A7 (i:=0) rf fun hb7=>?_
 refine At.freeze (i:=0) rf fun H4 hl4 hs1=>?_
 have hv3:=AW.of (c:=Ao) hs1 rfl (hq7.mono hl4) hb7
 obtain rfl:=si hd
 exact At.DB rf (RV.tmp (v:=v4) rf) (fun w hs=>⟨_,_,_,rf,((hl1.trans hl3).trans hl4),(hs.Cg 1),⟨⟨v4,rf,hv3⟩,rf⟩⟩)
theorem Nw{fu:Nat}{a0:List (Bool×(List (Int×Int×Int)))}{v1:Value}{r:(List Int)×(List (List Int))×(List Bool)×(List Int)}(hv1:AW (cP cB (cL (cP AZ (cP AZ Ao)))) H a0 v1)(hd:GM fu a0=some r):
    ED Tryz.prog 24 [v1] H O (fun v H' O'=> ∃B1:Nat,∃v2:Value,∃v3:Value,∃v4:Value,∃v5:Value,(ptr B1 0)=v∧AW Ao H' r.1 v2∧AW (cL Ao) H' r.2.1 v3∧AW cB H' r.2.2.1 v4∧AW Ao H' r.2.2.2 v5∧ .AM B1 (.cells #[v2,v3,v4,v5] 84 (0,0))::O=O'):=by
 intro w hs
 refine Bz Tryz.func24 rf rf rf ?_ hs
 clear hs w
 unfold GM at hd
 refine Wp.sr<|Aa.op (Ab.assign rf) rf<|Aa.Af<|Wp.seq ?_
 obtain⟨x1,hx1,hd⟩:=Ae hd
 refine Wp.region<|Aa.op (Ab.move rf) rf<|Aa.E8 (BC.call Y_ rf (Vm hv1 hx1)) rf ?_
 rintro _ H1 _ hl1 ⟨⟨v6,rfl,hv2⟩,rfl⟩
 refine Aa.op (Ab.Bi (vs:=[(0,v6)]) (cs:= #[v6,(.slice none 0 0),(.slice none 0 0),(.slice none 0 0)]) YB ZH rf rf (AJ (GV hv2.one) (Bd)) rf) rf<|Aa.box (cs:= #[v6,(.slice none 0 0),(.slice none 0 0),(.slice none 0 0)]) rf rf rf fun B2=>Aa.op (Ab.assign rf) rf<|Aa.Af<|Wp.sr<|Aa.op (Ab.move rf) rf ?_
 have hb1:=hv1.le
 refine Aa.op (Ab.len CG rf (hv1.mono hl1).sl) rf<|Aa.op (Ab.assign rf) rf<|Aa.Af<|Wp.seq<|Wp.sr<|Aa.op (Ab.move rf) rf ?_
 have hb2:=hv1.le
 refine Aa.op (Ab.len CG rf (hv1.mono hl1).sl) rf<|Aa.op (Ab.move rf) rf<|Aa.Af<|Wp.block<|Wp.BG 55 1<|Wp.BG 4 1<|Wp.A_ (fun m LL HH OO=> ∃(l1:List (List Int)),∃(l2:List Bool),∃(k1:Nat),∃(v7:Value),∃(xs1:List Value),∃(v8:Value),∃(xs2:List Value),[(3,(ptr B2 0)),(4,(.int .i64 (a0.length:Int))),(20,v1),(21,(.int .i64 (a0.length:Int))),(22,(.int .i64 (k1:Int)))]=LL∧ .row v8 4 1 l2.length xs2:: .row v7 55 1 l1.length xs1:: .AM B2 (.cells #[v6,v7,v8,(.slice none 0 0)] 84 (0,0))::O=OO∧Ax m (fun p nx=>D7 fu a0 x1 p.1 p.2.1 p.2.2 nx) (l1,l2,k1)=some r∧Au (cL Ao) HH l1 xs1∧Au cB HH l2 xs2) fu ⟨([]:List (List Int)),([]:List Bool),0,(.slice none 0 0),[],(.slice none 0 0),[],rf,rf,hd,(Au.nil (c:=(cL Ao)) (H:=H1)),(Au.nil (c:=cB) (H:=H1))⟩ (Sub.of rf) ?_
 intro m1 L1 H2 O1 hl2 hI1
 obtain⟨l1,l2,k1,v7,xs1,v8,xs2,rfl,rfl,hd,hq1,hq2⟩:=hI1
 obtain⟨m2,nx1,rfl,hn1,hd⟩:=A9 hd
 replace hd:D7 fu a0 x1 l1 l2 k1 nx1=some r:=hd
 unfold D7 at hd
 refine Wp.sr<|Aa.op (Ab.lss rf rf) rf<|Aa.Af<|Wp.seq ?_
 refine Wp.cond rf (fun hb3=>?_) (fun hb3=>?_)
 ·
  obtain⟨hb3,hd⟩:=bT hb3 hd
  refine Wp.skip<|At.Ad<|Wp.seq<|Wp.block<|Wp.seq ?_
  obtain⟨x2,hx2,hd⟩:=Ae hd
  have hx2_:=Ah hx2
  refine Wp.region ?_
  obtain⟨_,⟨_,_,rfl,rfl,⟨v9,rfl,hv3⟩⟩,hc1⟩:=AW.get (hv1.mono (hl1.trans hl2)) hx2
  refine Aa.op (Ab.Bo CG Bl rf (hv1.mono (hl1.trans hl2)).sl rf (Ah hx2)) rf<|Aa.op (Ab.C9 (vs:=[(.bool x2.1),v9]) NA rf Bl rf rf (fun j u hj=>(hc1 j u hj))) rf<|Aa.alloc (cs:= #[(.bool false),(.slice none 0 0)]) Bl rf rf fun B3=>Aa.AP (i:=0) (cs':= #[(.bool x2.1),v9]) rf rf Bl rf rf (Bc (Ac rf (Ac hv3.one (As)))) rf ?_
  refine Aa.own (O:=_::_::_::_::_) ?_ rf
  refine Aa.Af<|Wp.seq ?_
  obtain⟨ha1,hd⟩:=Al hd
  refine Wp.region<|Aa.op (Ab.move rf) rf<|Aa.op (Ab.nilCheck rf) rf<|Aa.op (Ab.AV (o':=0) IQ rf rf) rf<|Aa.op (Ab.Am (i:=3) (v:=v6) BF rf rf rf rf) rf ?_
  have hb4:=hv2.le
  refine Aa.op (Ab.len BF rf (hv2.mono hl2).sl) rf<|Aa.JL (c:=Ao) (z:=0) (m:=x1.length) BF Cp rf rf ha1 (rf) rf rf rf fun v10 xs3 hq3=>Aa.op (Ab.assign rf) rf<|Aa.Af<|Wp.seq<|Wp.sr<|Aa.op (Ab.move rf) rf<|Aa.op (Ab.nilCheck rf) rf ?_
  refine Aa.op (Ab.AV (o':=0) IQ rf rf) rf<|Aa.op (Ab.Am (i:=4) (v:=v6) BF rf rf rf rf) rf ?_
  have hb5:=hv2.le
  refine Aa.op (Ab.len BF rf (hv2.mono hl2).sl) rf<|Aa.op (Ab.move rf) rf<|Aa.Af<|Wp.block<|Wp.A_ (fun m LL HH OO=> ∃(l3:List Int),∃(k2:Nat),∃(v11:Value),∃(xs4:List Value),[(3,(ptr B2 0)),(4,(.int .i64 (a0.length:Int))),(6,(ptr B3 0)),(7,v11),(20,v1),(21,(.int .i64 (a0.length:Int))),(22,(.int .i64 (k1:Int))),(35,v6),(36,(.int .i64 (x1.length:Int))),(37,(.int .i64 (k2:Int)))]=LL∧ .row v11 3 1 l3.length xs4:: .AM B3 (.cells #[(.bool x2.1),v9] 43 (0,0)):: .row v8 4 1 l2.length xs2:: .row v7 55 1 l1.length xs1:: .AM B2 (.cells #[v6,v7,v8,(.slice none 0 0)] 84 (0,0))::O=OO∧Ax m (fun p nx=>D6 fu a0 x1 l1 l2 k1 nx1 x2 p.1 p.2 nx) (l3,k2)=some r∧Au Ao HH l3 xs4) fu ⟨(List.replicate x1.length 0:List Int),0,v10,xs3,rf,rf,hd,hq3⟩ (Sub.of rf) ?_
  intro m3 L2 H3 O2 hl3 hI2
  obtain⟨l3,k2,v11,xs4,rfl,rfl,hd,hq4⟩:=hI2
  obtain⟨m4,nx2,rfl,hn2,hd⟩:=A9 hd
  replace hd:D6 fu a0 x1 l1 l2 k1 nx1 x2 l3 k2 nx2=some r:=hd
  unfold D6 at hd
  refine Wp.sr<|Aa.op (Ab.lss rf rf) rf<|Aa.Af<|Wp.seq ?_
  refine Wp.cond rf (fun hb6=>?_) (fun hb6=>?_)
  ·
   obtain⟨hb6,hd⟩:=bT hb6 hd
   refine Wp.skip<|At.Ad<|Wp.seq<|Wp.block<|Wp.seq ?_
   obtain⟨x3,hx3,hd⟩:=Ae hd
   have hx3_:=Ah hx3
   refine Wp.region<|Aa.op (Ab.move rf) rf ?_
   obtain⟨_,rfl,hc2⟩:=AW.get (hv2.mono (hl2.trans hl3)) hx3
   refine Aa.op (Ab.Bo BF Cp rf (hv2.mono (hl2.trans hl3)).sl rf (Ah hx3)) rf<|Aa.op (Ab.FJ u3 rf rf (hc2 0 _ rf)) rf<|Aa.op (Ab.assign rf) rf<|Aa.op (Ab.assign rf) rf<|Aa.Af<|Wp.seq ?_
   obtain⟨x4,hx4,hd⟩:=Ae hd
   have hx4_:=Ah hx4
   refine Wp.region<|Aa.op (Ab.move rf) rf<|Aa.op (Ab.move rf) rf<|Aa.op (Ab.move rf) rf ?_
   obtain⟨_,rfl,hc3,hc3_⟩:=Au.get hq4 (AG hx4).2
   refine Aa.op (Ab.Bu (j:=0) BF Cp rf rf rf (Ah hx4)) rf ?_
   refine Aa.Pw (q:=0) (off:=0) (vs:=[(.int .i64 (a0.length:Int))]) (y:=(a0.length:Int)) (cs:=[(.int .i64 x4)]) hq4 hx4 hc3_ rf rf rf Cp rf rf (Ac rf (As)) rf (rf) rf (fun xs5 hq5=>?_)
   refine Aa.Af<|Wp.sr<|Aa.op (Ab.AV (o':=1) Bv rf rf) rf<|Aa.op (Ab.Am (i:=1) (v:=v9) CC rf rf rf rf) rf ?_
   have hb7:=hv3.le
   refine Aa.op (Ab.len CC rf (hv3.mono hl3).sl) rf<|Aa.op (Ab.move rf) rf<|Aa.Af<|Wp.block<|Wp.A_ (fun m LL HH OO=> ∃(l4:List Int),∃(k3:Nat),∃(v12:Value),∃(xs6:List Value),[(3,(ptr B2 0)),(4,(.int .i64 (a0.length:Int))),(6,(ptr B3 0)),(7,v12),(8,(.int .i64 (k2:Int))),(9,(.int .i64 x3)),(20,v1),(21,(.int .i64 (a0.length:Int))),(22,(.int .i64 (k1:Int))),(35,v6),(36,(.int .i64 (x1.length:Int))),(37,(.int .i64 (k2:Int))),(47,v9),(48,(.int .i64 (x2.2.length:Int))),(49,(.int .i64 (k3:Int)))]=LL∧ .row v12 3 1 l4.length xs6:: .AM B3 (.cells #[(.bool x2.1),v9] 43 (0,0)):: .row v8 4 1 l2.length xs2:: .row v7 55 1 l1.length xs1:: .AM B2 (.cells #[v6,v7,v8,(.slice none 0 0)] 84 (0,0))::O=OO∧Ax m (fun p nx=>D5 fu x2 k2 nx2 x3 p.1 p.2 nx) (l4,k3)=some r∧Au Ao HH l4 xs6) fu ⟨(l3.set k2 (a0.length:Int)),0,v11,xs5,rf,rf,hd,hq5⟩ (Sub.of rf) ?_
   intro m5 L3 H4 O3 hl4 hI3
   obtain⟨l4,k3,v12,xs6,rfl,rfl,hd,hq6⟩:=hI3
   obtain⟨m6,nx3,rfl,hn3,hd⟩:=A9 hd
   replace hd:D5 fu x2 k2 nx2 x3 l4 k3 nx3=some r:=hd
   unfold D5 at hd
   refine Wp.sr<|Aa.op (Ab.lss rf rf) rf<|Aa.Af<|Wp.seq ?_
   refine Wp.cond rf (fun hb8=>?_) (fun hb8=>?_)
   ·
    obtain⟨hb8,hd⟩:=bT hb8 hd
    refine Wp.skip<|At.Ad<|Wp.seq<|Wp.block<|Wp.seq ?_
    obtain⟨x5,hx5,hd⟩:=Ae hd
    have hx5_:=Ah hx5
    refine Wp.region ?_
    obtain⟨_,⟨_,_,rfl,⟨rfl,hr1,hr2⟩,⟨_,_,rfl,⟨rfl,hr3,hr4⟩,rfl⟩⟩,hc4⟩:=AW.get (hv3.mono (hl3.trans hl4)) hx5
    refine Aa.op (Ab.Bo CC BA rf (hv3.mono (hl3.trans hl4)).sl rf (Ah hx5)) rf<|Aa.op (Ab.C9 (vs:=[(.int .u8 x5.1),(.int .u8 x5.2.1),(.int .i64 x5.2.2)]) QS rf BA rf rf (fun j u hj=>(hc4 j u hj))) rf<|Aa.alloc (cs:= #[(.int .u8 0),(.int .u8 0),(.int .i64 0)]) BA rf rf fun B4=>Aa.AP (i:=0) (cs':= #[(.int .u8 x5.1),(.int .u8 x5.2.1),(.int .i64 x5.2.2)]) rf rf BA rf rf (Bc (Ac rf (Ac rf (Ac rf (As))))) rf ?_
    refine Aa.own (O:=_::_::_::_::_::_::_) ?_ rf
    refine Aa.Af<|Wp.seq ?_
    rcases Bool.eq_false_or_eq_true (decide (x5.1≤x3))with hg1|hg1
    ·
     obtain⟨hg1_,hd⟩:=bT hg1 hd
     refine Wp.region<|Aa.op (Ab.AV (o':=0) Dg rf rf) rf<|Aa.op (Ab.Am (i:=0) (v:=(.int .u8 x5.1)) u5 rf rf rf rf) rf<|Aa.op (Ab.conv u5 u3 rf (Aq (by omega))) rf<|Aa.op (Ab.move rf) rf<|Aa.op (Ab.Bg (b:=decide (x5.1≤x3)) (c:=true) (Ab.leq rf rf) hg1) rf<|Aa.op (Ab.move rf) rf<|Aa.Ay rf rf (Ab.move rf) rf ?_
     refine Aa.Ay rf rf (Ab.AV (o':=1) C_ rf rf) rf<|Aa.Ay rf rf (Ab.Am (i:=0) (v:=(.int .u8 x5.2.1)) u5 rf rf rf rf) rf<|Aa.Ay rf rf (Ab.conv u5 u3 rf (Aq (by omega))) rf<|Aa.Ay rf rf (Ab.leq rf rf) rf<|Aa.op (Ab.AK rf rf) rf<|Aa.Af ?_
     refine Wp.cond rf (fun hb9=>?_) (fun hb9=>?_)
     ·
      obtain⟨hb9,hd⟩:=bT hb9 hd
      obtain⟨x6,hx6,hd⟩:=Ae hd
      have hx6_:=Ah hx6
      refine Wp.region<|Aa.op (Ab.move rf) rf<|Aa.op (Ab.move rf) rf<|Aa.op (Ab.AV (o':=2) CI rf rf) rf<|Aa.op (Ab.Am (i:=0) (v:=(.int .i64 x5.2.2)) u3 rf rf rf rf) rf ?_
      obtain⟨_,rfl,hc5,hc5_⟩:=Au.get hq6 (AG hx6).2
      refine Aa.op (Ab.Bu (j:=1) BF Cp rf rf rf (Ah hx6)) rf ?_
      refine Aa.Pw (q:=1) (off:=0) (vs:=[(.int .i64 x5.2.2)]) (y:=x5.2.2) (cs:=[(.int .i64 x6)]) hq6 hx6 hc5_ rf rf rf Cp rf rf (Ac rf (As)) rf (rf) rf (fun xs7 hq7=>?_)
      refine Aa.nil<|At.AE<|At.Ad<|Wp.region<|Aa.op (Ab.add rf rf (Aq (by omega))) rf<|Aa.op (Ab.move rf) rf<|Aa.nil<|At.AR [1,2,3,4,5] 6 rf rf rf ?_
      refine At.AO (Hp.le.refl _) ⟨(l4.set k2 x5.2.2),(k3+1),v12,xs7,rf,rf,(by rw[←hn3];exact hd),hq7⟩ (Sub.of rf)
     obtain⟨hb9,hd⟩:=bF hb9 hd
     refine Wp.skip<|At.AE<|At.Ad<|Wp.region<|Aa.op (Ab.add rf rf (Aq (by omega))) rf<|Aa.op (Ab.move rf) rf<|Aa.nil<|At.AR [1,2,3,4,5] 6 rf rf rf ?_
     refine At.AO (Hp.le.refl _) ⟨l4,(k3+1),v12,xs6,rf,rf,(by rw[←hn3];exact hd),hq6⟩ (Sub.of rf)
    obtain⟨hg1_,hd⟩:=bF hg1 hd
    refine Wp.region<|Aa.op (Ab.AV (o':=0) Dg rf rf) rf<|Aa.op (Ab.Am (i:=0) (v:=(.int .u8 x5.1)) u5 rf rf rf rf) rf<|Aa.op (Ab.conv u5 u3 rf (Aq (by omega))) rf<|Aa.op (Ab.move rf) rf<|Aa.op (Ab.Bg (b:=decide (x5.1≤x3)) (c:=false) (Ab.leq rf rf) hg1) rf<|Aa.op (Ab.move rf) rf<|Aa.Ai rf rf rf rf ?_
    refine Aa.Ai rf rf rf rf<|Aa.Ai rf rf rf rf<|Aa.Ai rf rf rf rf<|Aa.Ai rf rf rf rf<|Aa.op (Ab.AA rf rf) rf<|Aa.Af<|Wp.C2 rf<|Wp.skip ?_
    refine At.AE<|At.Ad<|Wp.region<|Aa.op (Ab.add rf rf (Aq (by omega))) rf<|Aa.op (Ab.move rf) rf<|Aa.nil<|At.AR [1,2,3,4,5] 6 rf rf rf ?_
    refine At.AO (Hp.le.refl _) ⟨l4,(k3+1),v12,xs6,rf,rf,(by rw[←hn3];exact hd),hq6⟩ (Sub.of rf)
   obtain⟨hb8,hd⟩:=bF hb8 hd
   refine Wp.exit<|At.An<|At.An<|At.Az<|At.AE<|At.Ad<|Wp.region<|Aa.op (Ab.add rf rf (Aq (by omega))) rf ?_
   refine Aa.op (Ab.move rf) rf<|Aa.nil ?_
   refine At.AO hl4 ⟨l4,(k2+1),v12,xs6,rf,rf,(by rw[←hn2];exact hd),hq6⟩ (Sub.of rf)
  obtain⟨hb6,hd⟩:=bF hb6 hd
  refine Wp.exit<|At.An<|At.An<|At.Az<|At.Ad<|Wp.seq ?_
  obtain⟨ha2,hd⟩:=Al hd
  refine Wp.region<|Aa.op (Ab.move rf) rf<|Aa.op (Ab.move rf) rf<|Aa.op (Ab.nilCheck rf) rf<|Aa.op (Ab.AV (o':=1) GU rf rf) rf<|Aa.op (Ab.Am (i:=4) (v:=v7) Ey rf rf rf rf) rf<|Aa.op (Ab.move rf) rf ?_
  refine Aa.A7 (i:=0) rf fun hb10=>?_
  refine Aa.freeze (i:=0) rf fun H5 hl5 hs1=>?_
  have hv4:=AW.of (c:=Ao) hs1 rfl (hq4.mono hl5) hb10
  refine Aa.A1 (c:=(cL Ao)) (y:=l3) (cs:=[v11]) Ey Dx rf rf rf (DZ hv4.one) (⟨_,rf,hv4⟩) rf fun v13 xs8 hq8=>Aa.Df (i:=3) (j:=0) (hq1.mono (hl3.trans hl5)) hq8 Ey Dx rf (by decide) rf rf rf rf (by decide) ha2 rf fun v14 xs9 hq9=>Aa.drop (i:=0)<|Aa.op (Ab.nilCheck rf) rf<|Aa.op (Ab.AV (o':=1) GU rf rf) rf<|Aa.Bm (i:=2) rf fun ho1=>Aa.Cc (i:=3) rf rf ho1 Xn rf (Nat.le_of_ble_eq_true rf) ?_
  refine Aa.own (O:=_::_::_::_::_) ?_ rf
  refine Aa.Af ?_
  obtain⟨ha3,hd⟩:=Al hd
  refine Wp.emp<|Aj.runK 5 [AU,AU,AU,AU,⟨[4],[],[]⟩,AU,⟨[1],[],[]⟩,⟨[0],[0],[7]⟩,⟨[0,2],[2],[8]⟩,AU,AU,⟨[4],[4],[8]⟩] follows rf (by kernel_rfl)<|Aj.op (val:=fun p1=>(ptr B2 0)) rf rf (fun _=>rfl) (fun _ p1 _ hx hf hy=>Ab.move rf) rf<|Aj.op (val:=fun p1=>(ptr B2 0)) rf rf (fun _=>rfl) (fun _ p1 _ hx hf hy=>Ab.move rf) rf<|Aj.op (val:=fun p1=>(ptr B2 0)) rf rf (fun _=>rfl) (fun _ p1 _ hx hf hy=>Ab.nilCheck rf) rf<|Aj.op (val:=fun p1=>(ptr B2 2)) rf rf (fun _=>rfl) (fun _ p1 _ hx hf hy=>Ab.AV (o':=2) J8 rf rf) rf<|Aj.op (val:=fun p1=>v8) rf rf (fun _=>rfl) (fun _ p1 _ hx hf hy=>Ab.Am (i:=4) (v:=v8) GX rf rf (hy 4 _ rf rf) rf) rf<|Aj.op (val:=fun p1=>(ptr B3 0)) rf rf (fun _=>rfl) (fun _ p1 _ hx hf hy=>Ab.AV (o':=0) E_ rf rf) rf ?_
  refine Aj.op (val:=fun p1=>(.bool x2.1)) rf rf (fun _=>rfl) (fun _ p1 _ hx hf hy=>Ab.Am (i:=1) (v:=(.bool x2.1)) u4 rf rf (hy 1 _ rf rf) rf) rf<|Aj.Hs (res:=fun p1=> .row (p1 7) 4 1 1 [(.bool x2.1)]) 0 rf rf rf (fun _=>rfl) (fun _ p1 _ hx hf hy=>BC.EO (v:=(.bool x2.1)) (cs:=[(.bool x2.1)]) 0 GX ES rf rf rf rf rf (hy 0 _ rf rf)) rf (fun _=>⟨_,_,_,_,rf⟩)<|Aj.Hs (res:=fun p1=> .row (p1 8) 4 1 (l2.length+1) (xs2++[(.bool x2.1)])) 2 rf rf rf (fun _=>rfl) (fun _ p1 _ hx hf hy=>BC.M' 2 0 GX ES rf rf rf rf (hy 2 _ rf rf) (hy 0 _ rf rf) (Ac rf (As)) rf ha3) rf (fun _=>⟨_,_,_,_,rf⟩)<|Aj.op (val:=fun p1=>(ptr B2 0)) rf rf (fun _=>rfl) (fun _ p1 _ hx hf hy=>Ab.nilCheck rf) rf<|Aj.op (val:=fun p1=>(ptr B2 2)) rf rf (fun _=>rfl) (fun _ p1 _ hx hf hy=>Ab.AV (o':=2) J8 rf rf) rf<|Aj.Kr (res:=fun p1=> .AM B2 (.cells #[v6,v14,(p1 8),(.slice none 0 0)] 84 (0,0))) 4 rf rf rf (fun _=>rfl) (fun _ p1 _ hx hf hy=>BC.VQ (vs:=[(p1 8)]) rf rf (DZ (hf 8 rf rf)) Yn rf (Ac (hf 8 rf rf) (As)) (hy 4 _ rf rf) rf rf)<|Aj.done fun H6 p1 hl6 hF1=>At.sub (L':=[(3,(ptr B2 0)),(4,(.int .i64 (a0.length:Int))),(20,v1),(21,(.int .i64 (a0.length:Int))),(22,(.int .i64 (k1:Int)))]) (Sub.of rf) ?_
  refine At.own (O:= .row (p1 7) 4 1 ([x2.1]:List Bool).length [(.bool x2.1)]:: .AM B3 (.cells #[(.bool x2.1),v9] 43 (0,0)):: .row (p1 8) 4 1 (l2++([x2.1]:List Bool)).length (xs2++[(.bool x2.1)]):: .row v14 55 1 (l1++([l3]:List (List Int))).length xs9:: .AM B2 (.cells #[v6,v14,(p1 8),(.slice none 0 0)] 84 (0,0))::O) ?_ (by first|rfl|(simp only[List.length_append,List.length_set];rfl)|simp)
  have hq10:Au cB H6 (l2++([x2.1]:List Bool)) (xs2++[(.bool x2.1)]):=(Au.app (hq2.mono ((hl3.trans hl5).trans hl6)) (Au.Kj (c:=cB) (a:=x2.1) (cs:=[(.bool x2.1)]) rfl))
  refine At.AR [1,2,3,4] 5 rf rf rf<|At.AE<|At.Ad<|Wp.region<|Aa.op (Ab.add rf rf (Aq (by omega))) rf<|Aa.op (Ab.move rf) rf<|Aa.nil<|At.AR [1,2,3] 4 rf rf rf ?_
  refine At.AO ((hl3.trans hl5).trans hl6) ⟨(l1++([l3]:List (List Int))),(l2++([x2.1]:List Bool)),(k1+1),v14,xs9,(p1 8),xs2++[(.bool x2.1)],rf,rf,(by rw[←hn1];exact hd),(hq9.mono hl6),hq10⟩ (Sub.of rf)
 obtain⟨hb3,hd⟩:=bF hb3 hd
 refine Wp.exit<|At.An<|At.An<|At.Az<|At.Ad<|Wp.seq ?_
 obtain⟨ha4,hd⟩:=Al hd
 refine Wp.region<|Aa.op (Ab.move rf) rf<|Aa.op (Ab.nilCheck rf) rf<|Aa.op (Ab.AV (o':=0) IQ rf rf) rf<|Aa.op (Ab.Am (i:=2) (v:=v6) BF rf rf rf rf) rf ?_
 have hb11:=hv2.le
 refine Aa.op (Ab.len BF rf (hv2.mono hl2).sl) rf<|Aa.JL (c:=Ao) (z:=0) (m:=x1.length) BF Cp rf rf ha4 (rf) rf rf rf fun v15 xs10 hq11=>Aa.op (Ab.assign rf) rf<|Aa.Af<|Wp.seq<|Wp.sr<|Aa.op (Ab.move rf) rf ?_
 refine Aa.A7 (i:=0) rf fun hb12=>?_
 refine Aa.op (Ab.BR (i:=0) BF rf rf) rf<|Aa.op (Ab.move rf) rf<|Aa.Af<|Wp.block<|Wp.A_ (fun m LL HH OO=> ∃(l5:List Int),∃(k4:Nat),∃(v16:Value),∃(xs11:List Value),[(3,(ptr B2 0)),(4,(.int .i64 (a0.length:Int))),(12,v16),(101,(.int .i64 (((List.replicate x1.length 0:List Int).length:Nat):Int))),(102,(.int .i64 (k4:Int)))]=LL∧ .row v16 3 1 l5.length xs11:: .row v8 4 1 l2.length xs2:: .row v7 55 1 l1.length xs1:: .AM B2 (.cells #[v6,v7,v8,(.slice none 0 0)] 84 (0,0))::O=OO∧Ax m (fun p nx=>D4 fu a0 x1 l1 l2 p.1 p.2 nx) (l5,k4)=some r∧Au Ao HH l5 xs11) fu ⟨(List.replicate x1.length 0:List Int),0,v15,xs10,rf,rf,hd,hq11⟩ (Sub.of rf) ?_
 intro m7 L4 H7 O4 hl7 hI4
 obtain⟨l5,k4,v16,xs11,rfl,rfl,hd,hq12⟩:=hI4
 obtain⟨m8,nx4,rfl,hn4,hd⟩:=A9 hd
 replace hd:D4 fu a0 x1 l1 l2 l5 k4 nx4=some r:=hd
 unfold D4 at hd
 refine Wp.sr<|Aa.op (Ab.lss rf rf) rf<|Aa.Af<|Wp.seq ?_
 refine Wp.cond rf (fun hb13=>?_) (fun hb13=>?_)
 ·
  obtain⟨hb13,hd⟩:=bT hb13 hd
  refine Wp.skip<|At.Ad<|Wp.seq<|Wp.block<|Wp.sr<|Aa.op (Ab.move rf) rf<|Aa.op (Ab.assign rf) rf<|Aa.Af ?_
  obtain⟨x7,hx7,hd⟩:=Ae hd
  have hx7_:=Ah hx7
  refine Wp.region<|Aa.op (Ab.move rf) rf<|Aa.op (Ab.move rf) rf<|Aa.op (Ab.move rf) rf ?_
  obtain⟨_,rfl,hc6,hc6_⟩:=Au.get hq12 (AG hx7).2
  refine Aa.op (Ab.Bu (j:=0) BF Cp rf rf rf (Ah hx7)) rf ?_
  refine Aa.Pw (q:=0) (off:=0) (vs:=[(.int .i64 (a0.length:Int))]) (y:=(a0.length:Int)) (cs:=[(.int .i64 x7)]) hq12 hx7 hc6_ rf rf rf Cp rf rf (Ac rf (As)) rf (rf) rf (fun xs12 hq13=>?_)
  refine Aa.nil<|At.AE<|At.Ad<|Wp.region<|Aa.op (Ab.add rf rf (Aq (by omega))) rf<|Aa.op (Ab.move rf) rf<|Aa.nil ?_
  refine At.AO (Hp.le.refl _) ⟨(l5.set k4 (a0.length:Int)),(k4+1),v16,xs12,rf,rf,(by rw[←hn4];exact hd),hq13⟩ (Sub.of rf)
 obtain⟨hb13,hd⟩:=bF hb13 hd
 refine Wp.exit<|At.An<|At.An<|At.Az<|At.Ad<|Wp.seq ?_
 obtain⟨ha5,hd⟩:=Al hd
 refine Wp.region<|Aa.op (Ab.move rf) rf<|Aa.op (Ab.move rf) rf<|Aa.op (Ab.nilCheck rf) rf<|Aa.op (Ab.AV (o':=1) GU rf rf) rf<|Aa.op (Ab.Am (i:=3) (v:=v7) Ey rf rf rf rf) rf<|Aa.op (Ab.move rf) rf ?_
 refine Aa.A7 (i:=0) rf fun hb14=>?_
 refine Aa.freeze (i:=0) rf fun H8 hl8 hs2=>?_
 have hv5:=AW.of (c:=Ao) hs2 rfl (hq12.mono hl8) hb14
 refine Aa.A1 (c:=(cL Ao)) (y:=l5) (cs:=[v16]) Ey Dx rf rf rf (DZ hv5.one) (⟨_,rf,hv5⟩) rf fun v17 xs13 hq14=>Aa.Df (i:=2) (j:=0) (hq1.mono (hl7.trans hl8)) hq14 Ey Dx rf (by decide) rf rf rf rf (by decide) ha5 rf fun v18 xs14 hq15=>Aa.drop (i:=0)<|Aa.op (Ab.nilCheck rf) rf<|Aa.op (Ab.AV (o':=1) GU rf rf) rf<|Aa.Bm (i:=1) rf fun ho2=>Aa.Cc (i:=2) rf rf ho2 Xn rf (Nat.le_of_ble_eq_true rf) ?_
 refine Aa.own (O:=_::_::_::_) ?_ rf
 refine Aa.Af<|Wp.seq ?_
 obtain⟨ha6,hd⟩:=Al hd
 refine Wp.region<|Aa.op (Ab.move rf) rf<|Aa.op (Ab.move rf) rf<|Aa.op (Ab.nilCheck rf) rf<|Aa.op (Ab.AV (o':=2) J8 rf rf) rf<|Aa.op (Ab.Am (i:=2) (v:=v8) GX rf rf rf rf) rf<|Aa.A1 (c:=cB) (y:=false) (cs:=[(.bool false)]) GX ES rf rf rf rf (rf) rf fun v19 xs15 hq16=>Aa.Df (i:=1) (j:=0) (hq2.mono (hl7.trans hl8)) hq16 GX ES rf (by decide) rf rf rf rf (by decide) ha6 rf fun v20 xs16 hq17=>?_
 refine Aa.drop (i:=0)<|Aa.op (Ab.nilCheck rf) rf<|Aa.op (Ab.AV (o':=2) J8 rf rf) rf<|Aa.Bm (i:=0) rf fun ho3=>Aa.Cc (i:=2) rf rf ho3 Yn rf (Nat.le_of_ble_eq_true rf) ?_
 refine Aa.own (O:=_::_::_::_) ?_ rf
 refine Aa.Af<|Wp.sr<|Aa.op (Ab.move rf) rf<|Aa.op (Ab.assign rf) rf<|Aa.Af<|Wp.ret ?_
 refine At.A7 (i:=1) rf fun hb15=>?_
 refine At.freeze (i:=1) rf fun H9 hl9 hs3=>?_
 have hv6:=AW.of (c:=(cL Ao)) hs3 rfl (hq15.mono hl9) hb15
 refine At.A7 (i:=0) rf fun hb16=>?_
 refine At.freeze (i:=0) rf fun H10 hl10 hs4=>?_
 have hv7:=AW.of (c:=cB) hs4 rfl ((hq17.mono hl9).mono hl10) hb16
 obtain rfl:=si hd
 exact At.DB rf (RV.tmp (v:=(ptr B2 0)) rf) (fun w hs=>⟨_,_,_,rf,(((((hl1.trans hl2).trans hl7).trans hl8).trans hl9).trans hl10),(hs.AR [0] 1 rf rf rf),⟨B2,v6,v18,v20,(.slice none 0 0),rf,(hv2.mono ((((hl2.trans hl7).trans hl8).trans hl9).trans hl10)),(hv6.mono hl10),hv7,AW.nil,rf⟩⟩)
theorem LR{fu:Nat}{a0:(List Int)×(List (List Int))×(List Bool)×(List Int)}{v1 v2 v3 v4:Value}{B0:Nat}{r:List Bool}(hv1:AW Ao H a0.1 v1)(hv2:AW (cL Ao) H a0.2.1 v2)(hv3:AW cB H a0.2.2.1 v3)(hv4:AW Ao H a0.2.2.2 v4)(hd:EZ fu a0=some r):
    ED Tryz.prog 50 [(ptr B0 0)] H (.AM B0 (.cells #[v1,v2,v3,v4] 84 (0,0))::O) (fun v H' O'=>(∃v5:Value,v5=v∧AW cB H' r v5)∧ .AM B0 (.cells #[v1,v2,v3,v4] 84 (0,0))::O=O'):=by
 intro w hs
 refine Bz Tryz.func50 rf rf rf ?_ hs
 clear hs w
 unfold EZ at hd
 refine Wp.sr<|Aa.op (Ab.assign rf) rf<|Aa.Af<|Wp.seq ?_
 obtain⟨ha1,hd⟩:=Al hd
 refine Wp.region<|Aa.op (Ab.move rf) rf<|Aa.op (Ab.nilCheck rf) rf<|Aa.op (Ab.AV (o':=1) GU rf rf) rf<|Aa.op (Ab.Am (i:=0) (v:=v2) Ey rf rf rf rf) rf ?_
 have hb1:=hv2.le
 refine Aa.op (Ab.len Ey rf hv2.sl) rf<|Aa.JL (c:=cB) (z:=false) (m:=a0.2.1.length) GX ES rf rf ha1 (rf) rf rf rf fun v6 xs1 hq1=>Aa.op (Ab.assign rf) rf<|Aa.Af<|Wp.seq<|Wp.sr<|Aa.op (Ab.assign rf) rf<|Aa.Af ?_
 refine Wp.block<|Wp.A_ (fun m LL HH OO=> ∃(l1:List Bool),∃(b1:Bool),∃(v7:Value),∃(xs2:List Value),[(0,(ptr B0 0)),(3,v7),(4,(.bool b1))]=LL∧ .row v7 4 1 l1.length xs2:: .AM B0 (.cells #[v1,v2,v3,v4] 84 (0,0))::O=OO∧Ax m (fun p nx=>D0 fu a0 p.1 p.2 nx) (l1,b1)=some r∧Au cB HH l1 xs2) fu ⟨(List.replicate a0.2.1.length false:List Bool),true,v6,xs1,rf,rf,hd,hq1⟩ (Sub.of rf) ?_
 intro m1 L1 H1 O1 hl1 hI1
 obtain⟨l1,b1,v7,xs2,rfl,rfl,hd,hq2⟩:=hI1
 obtain⟨m2,nx1,rfl,hn1,hd⟩:=A9 hd
 replace hd:D0 fu a0 l1 b1 nx1=some r:=hd
 unfold D0 at hd
 refine Wp.seq<|Wp.sr<|Aa.op (Ab.move rf) rf<|Aa.Af ?_
 refine Wp.cond rf (fun hb2=>?_) (fun hb2=>?_)
 ·
  replace hd:=Fs hb2 hd
  refine Wp.skip<|At.Ad<|Wp.block<|Wp.sr<|Aa.op (Ab.assign rf) rf<|Aa.Af<|Wp.sr<|Aa.op (Ab.move rf) rf ?_
  refine Aa.op (Ab.nilCheck rf) rf<|Aa.op (Ab.AV (o':=1) GU rf rf) rf<|Aa.op (Ab.Am (i:=1) (v:=v2) Ey rf rf rf rf) rf ?_
  have hb3:=hv2.le
  refine Aa.op (Ab.len Ey rf (hv2.mono hl1).sl) rf<|Aa.op (Ab.move rf) rf<|Aa.Af<|Wp.block<|Wp.A_ (fun m LL HH OO=> ∃(l2:List Bool),∃(b2:Bool),∃(k1:Nat),∃(v8:Value),∃(xs3:List Value),[(0,(ptr B0 0)),(3,v8),(4,(.bool b2)),(20,(.int .i64 (a0.2.1.length:Int))),(21,(.int .i64 (k1:Int)))]=LL∧ .row v8 4 1 l2.length xs3:: .AM B0 (.cells #[v1,v2,v3,v4] 84 (0,0))::O=OO∧Ax m (fun p nx=>C7 fu a0 nx1 p.1 p.2.1 p.2.2 nx) (l2,b2,k1)=some r∧Au cB HH l2 xs3) fu ⟨l1,false,0,v7,xs2,rf,rf,hd,hq2⟩ (Sub.of rf) ?_
  intro m3 L2 H2 O2 hl2 hI2
  obtain⟨l2,b2,k1,v8,xs3,rfl,rfl,hd,hq3⟩:=hI2
  obtain⟨m4,nx2,rfl,hn2,hd⟩:=A9 hd
  replace hd:C7 fu a0 nx1 l2 b2 k1 nx2=some r:=hd
  unfold C7 at hd
  refine Wp.sr<|Aa.op (Ab.lss rf rf) rf<|Aa.Af<|Wp.seq ?_
  refine Wp.cond rf (fun hb4=>?_) (fun hb4=>?_)
  ·
   obtain⟨hb4,hd⟩:=bT hb4 hd
   refine Wp.skip<|At.Ad<|Wp.seq<|Wp.block<|Wp.sr<|Aa.op (Ab.move rf) rf<|Aa.op (Ab.assign rf) rf<|Aa.Af ?_
   refine Wp.seq ?_
   obtain⟨x1,hx1,hd⟩:=Ae hd
   have hx1_:=Ah hx1
   refine Wp.region<|Aa.op (Ab.move rf) rf<|Aa.op (Ab.nilCheck rf) rf<|Aa.op (Ab.AV (o':=2) J8 rf rf) rf<|Aa.op (Ab.Am (i:=1) (v:=v3) GX rf rf rf rf) rf<|Aa.op (Ab.move rf) rf ?_
   obtain⟨_,rfl,hc1⟩:=AW.get (hv3.mono (hl1.trans hl2)) hx1
   refine Aa.op (Ab.Bo GX ES rf (hv3.mono (hl1.trans hl2)).sl rf (Ah hx1)) rf<|Aa.op (Ab.FJ u4 rf rf (hc1 0 _ rf)) rf<|Aa.op (Ab.assign rf) rf<|Aa.Af<|Wp.seq<|Wp.seq ?_
   obtain⟨x2,hx2,hd⟩:=Ae hd
   have hx2_:=Ah hx2
   refine Wp.region<|Aa.op (Ab.move rf) rf<|Aa.op (Ab.nilCheck rf) rf<|Aa.op (Ab.AV (o':=1) GU rf rf) rf<|Aa.op (Ab.Am (i:=1) (v:=v2) Ey rf rf rf rf) rf<|Aa.op (Ab.move rf) rf ?_
   obtain⟨_,⟨v9,rfl,hv5⟩,hc2⟩:=AW.get (hv2.mono (hl1.trans hl2)) hx2
   refine Aa.op (Ab.Bo Ey Dx rf (hv2.mono (hl1.trans hl2)).sl rf (Ah hx2)) rf<|Aa.op (Ab.FJ BF rf rf (hc2 0 _ rf)) rf ?_
   have hb5:=hv5.le
   refine Aa.op (Ab.len BF rf hv5.sl) rf<|Aa.op (Ab.move rf) rf<|Aa.Af<|Wp.block<|Wp.A_ (fun m LL HH OO=> ∃(b3:Bool),∃(k2:Nat),[(0,(ptr B0 0)),(3,v8),(4,(.bool b2)),(5,(.int .i64 (k1:Int))),(6,(.bool b3)),(20,(.int .i64 (a0.2.1.length:Int))),(21,(.int .i64 (k1:Int))),(37,v9),(38,(.int .i64 (x2.length:Int))),(39,(.int .i64 (k2:Int)))]=LL∧ .row v8 4 1 l2.length xs3:: .AM B0 (.cells #[v1,v2,v3,v4] 84 (0,0))::O=OO∧Ax m (fun p nx=>C6 fu a0 l2 b2 k1 nx2 x2 p.1 p.2 nx) (b3,k2)=some r) fu ⟨x1,0,rf,rf,hd⟩ (Sub.of rf) ?_
   intro m5 L3 H3 O3 hl3 hI3
   obtain⟨b3,k2,rfl,rfl,hd⟩:=hI3
   obtain⟨m6,nx3,rfl,hn3,hd⟩:=A9 hd
   replace hd:C6 fu a0 l2 b2 k1 nx2 x2 b3 k2 nx3=some r:=hd
   unfold C6 at hd
   refine Wp.sr<|Aa.op (Ab.lss rf rf) rf<|Aa.Af<|Wp.seq ?_
   refine Wp.cond rf (fun hb6=>?_) (fun hb6=>?_)
   ·
    obtain⟨hb6,hd⟩:=bT hb6 hd
    refine Wp.skip<|At.Ad<|Wp.seq<|Wp.block<|Wp.seq ?_
    obtain⟨x3,hx3,hd⟩:=Ae hd
    have hx3_:=Ah hx3
    refine Wp.region ?_
    obtain⟨_,rfl,hc3⟩:=AW.get (hv5.mono hl3) hx3
    refine Aa.op (Ab.Bo BF Cp rf (hv5.mono hl3).sl rf (Ah hx3)) rf<|Aa.op (Ab.FJ u3 rf rf (hc3 0 _ rf)) rf<|Aa.op (Ab.assign rf) rf<|Aa.Af ?_
    rcases Bool.eq_false_or_eq_true (b3)with hg1|hg1
    ·
     replace hd:=Fs hg1 hd
     refine Wp.region<|Aa.op (Ab.Bg (b:=b3) (c:=true) (Ab.move rf) hg1) rf<|Aa.op (Ab.move rf) rf<|Aa.Ai rf rf rf rf<|Aa.Ai rf rf rf rf<|Aa.Ai rf rf rf rf<|Aa.Ai rf rf rf rf<|Aa.Ai rf rf rf rf ?_
     refine Aa.Ai rf rf rf rf<|Aa.Ai rf rf rf rf<|Aa.Ai rf rf rf rf<|Aa.Ai rf rf rf rf<|Aa.Ai rf rf rf rf<|Aa.op (Ab.AK rf rf) rf<|Aa.op (Ab.assign rf) rf<|Aa.nil ?_
     refine At.AE<|At.Ad<|Wp.region<|Aa.op (Ab.add rf rf (Aq (by omega))) rf<|Aa.op (Ab.move rf) rf<|Aa.nil ?_
     refine At.AO (Hp.le.refl _) ⟨true,(k2+1),rf,rf,(by rw[←hn3];exact hd)⟩ (Sub.of rf)
    replace hd:=Ft hg1 hd
    obtain⟨x4,hx4,hd⟩:=Ae hd
    have hx4_:=Ah hx4
    obtain⟨x5,hx5,hd⟩:=Ae hd
    have hx5_:=Ah hx5
    refine Wp.region<|Aa.op (Ab.Bg (b:=b3) (c:=false) (Ab.move rf) hg1) rf<|Aa.op (Ab.move rf) rf<|Aa.Ay rf rf (Ab.move rf) rf<|Aa.Ay rf rf (Ab.move rf) rf<|Aa.Ay rf rf (Ab.nilCheck rf) rf<|Aa.Ay rf rf (Ab.AV (o':=3) Hv rf rf) rf<|Aa.Ay rf rf (Ab.Am (i:=1) (v:=v4) BF rf rf rf rf) rf ?_
    refine Aa.Ay rf rf (Ab.move rf) rf ?_
    obtain⟨_,rfl,hc4⟩:=AW.get (hv4.mono ((hl1.trans hl2).trans hl3)) hx4
    refine Aa.Ay rf rf (Ab.Bo BF Cp rf (hv4.mono ((hl1.trans hl2).trans hl3)).sl rf (Ah hx4)) rf<|Aa.Ay rf rf (Ab.FJ u3 rf rf (hc4 0 _ rf)) rf ?_
    obtain⟨_,rfl,hc5,hc5_⟩:=Au.get (hq3.mono hl3) (AG hx5).2
    refine Aa.Ay rf rf (Ab.Bu (j:=0) GX ES rf rf rf (Ah hx5)) rf<|Aa.Ay rf rf (Ab.Ch (i:=0) (k:=x4.toNat*1+0) u4 rf rf rf (hc5 0 _ rf)) rf<|Aa.op (Ab.AA rf rf) rf<|Aa.op (Ab.assign rf) rf<|Aa.nil<|At.AE<|At.Ad<|Wp.region ?_
    refine Aa.op (Ab.add rf rf (Aq (by omega))) rf<|Aa.op (Ab.move rf) rf<|Aa.nil ?_
    refine At.AO (Hp.le.refl _) ⟨x5,(k2+1),rf,rf,(by rw[←hn3];exact hd)⟩ (Sub.of rf)
   obtain⟨hb6,hd⟩:=bF hb6 hd
   refine Wp.exit<|At.An<|At.An<|At.Az<|At.Ad<|Wp.seq ?_
   rcases Bool.eq_false_or_eq_true (b3)with hg2|hg2
   ·
    replace hd:=Fs hg2 hd
    obtain⟨x6,hx6,hd⟩:=Ae hd
    have hx6_:=Ah hx6
    obtain⟨x7,hx7,hd⟩:=Ae hd
    have hx7_:=Ah hx7
    refine Wp.region<|Aa.op (Ab.Bg (b:=b3) (c:=true) (Ab.move rf) hg2) rf<|Aa.op (Ab.move rf) rf<|Aa.Ay rf rf (Ab.move rf) rf<|Aa.Ay rf rf (Ab.move rf) rf<|Aa.Ay rf rf (Ab.nilCheck rf) rf<|Aa.Ay rf rf (Ab.AV (o':=3) Hv rf rf) rf<|Aa.Ay rf rf (Ab.Am (i:=1) (v:=v4) BF rf rf rf rf) rf ?_
    refine Aa.Ay rf rf (Ab.move rf) rf ?_
    obtain⟨_,rfl,hc6⟩:=AW.get (hv4.mono ((hl1.trans hl2).trans hl3)) hx6
    refine Aa.Ay rf rf (Ab.Bo BF Cp rf (hv4.mono ((hl1.trans hl2).trans hl3)).sl rf (Ah hx6)) rf<|Aa.Ay rf rf (Ab.FJ u3 rf rf (hc6 0 _ rf)) rf ?_
    obtain⟨_,rfl,hc7,hc7_⟩:=Au.get (hq3.mono hl3) (AG hx7).2
    refine Aa.Ay rf rf (Ab.Bu (j:=0) GX ES rf rf rf (Ah hx7)) rf<|Aa.Ay rf rf (Ab.Ch (i:=0) (k:=x6.toNat*1+0) u4 rf rf rf (hc7 0 _ rf)) rf<|Aa.Ay rf rf (Ab.not rf) rf<|Aa.op (Ab.AK rf rf) rf<|Aa.Af ?_
    refine Wp.cond rf (fun hb7=>?_) (fun hb7=>?_)
    ·
     replace hd:=Fs hb7 hd
     refine Wp.seq ?_
     obtain⟨x8,hx8,hd⟩:=Ae hd
     have hx8_:=Ah hx8
     obtain⟨x9,hx9,hd⟩:=Ae hd
     have hx9_:=Ah hx9
     refine Wp.region<|Aa.op (Ab.move rf) rf<|Aa.op (Ab.move rf) rf<|Aa.op (Ab.nilCheck rf) rf<|Aa.op (Ab.AV (o':=3) Hv rf rf) rf<|Aa.op (Ab.Am (i:=1) (v:=v4) BF rf rf rf rf) rf<|Aa.op (Ab.move rf) rf ?_
     obtain⟨_,rfl,hc8⟩:=AW.get (hv4.mono ((hl1.trans hl2).trans hl3)) hx8
     refine Aa.op (Ab.Bo BF Cp rf (hv4.mono ((hl1.trans hl2).trans hl3)).sl rf (Ah hx8)) rf<|Aa.op (Ab.FJ u3 rf rf (hc8 0 _ rf)) rf ?_
     obtain⟨_,rfl,hc9,hc9_⟩:=Au.get (hq3.mono hl3) (AG hx9).2
     refine Aa.op (Ab.Bu (j:=0) GX ES rf rf rf (Ah hx9)) rf ?_
     refine Aa.Pw (q:=0) (off:=0) (vs:=[(.bool true)]) (y:=true) (cs:=[(.bool x9)]) (hq3.mono hl3) hx9 hc9_ rf rf rf ES rf rf (Ac rf (As)) rf (rf) rf (fun xs4 hq4=>?_)
     refine Aa.Af<|Wp.region<|Aa.op (Ab.assign rf) rf<|Aa.nil<|At.AE<|At.Ad<|Wp.region<|Aa.op (Ab.add rf rf (Aq (by omega))) rf ?_
     refine Aa.op (Ab.move rf) rf<|Aa.nil ?_
     refine At.AO hl3 ⟨(l2.set x8.toNat true),true,(k1+1),v8,xs4,rf,rf,(by rw[←hn2];exact hd),hq4⟩ (Sub.of rf)
    replace hd:=Ft hb7 hd
    refine Wp.skip<|At.AE<|At.Ad<|Wp.region<|Aa.op (Ab.add rf rf (Aq (by omega))) rf<|Aa.op (Ab.move rf) rf<|Aa.nil ?_
    refine At.AO hl3 ⟨l2,b2,(k1+1),v8,xs3,rf,rf,(by rw[←hn2];exact hd),(hq3.mono hl3)⟩ (Sub.of rf)
   replace hd:=Ft hg2 hd
   refine Wp.region<|Aa.op (Ab.Bg (b:=b3) (c:=false) (Ab.move rf) hg2) rf<|Aa.op (Ab.move rf) rf<|Aa.Ai rf rf rf rf<|Aa.Ai rf rf rf rf<|Aa.Ai rf rf rf rf<|Aa.Ai rf rf rf rf<|Aa.Ai rf rf rf rf ?_
   refine Aa.Ai rf rf rf rf<|Aa.Ai rf rf rf rf<|Aa.Ai rf rf rf rf<|Aa.Ai rf rf rf rf<|Aa.Ai rf rf rf rf<|Aa.Ai rf rf rf rf<|Aa.op (Ab.AA rf rf) rf<|Aa.Af ?_
   refine Wp.C2 rf<|Wp.skip<|At.AE<|At.Ad<|Wp.region<|Aa.op (Ab.add rf rf (Aq (by omega))) rf<|Aa.op (Ab.move rf) rf<|Aa.nil ?_
   refine At.AO hl3 ⟨l2,b2,(k1+1),v8,xs3,rf,rf,(by rw[←hn2];exact hd),(hq3.mono hl3)⟩ (Sub.of rf)
  obtain⟨hb4,hd⟩:=bF hb4 hd
  refine Wp.exit<|At.An<|At.An<|At.Az<|At.AE ?_
  refine At.AO hl2 ⟨l2,b2,v8,xs3,rf,rf,(by rw[←hn1];exact hd),hq3⟩ (Sub.of rf)
 replace hd:=Ft hb2 hd
 refine Wp.exit<|At.An<|At.An<|At.Az<|At.Ad<|Wp.sr<|Aa.op (Ab.move rf) rf<|Aa.op (Ab.assign rf) rf ?_
 refine Aa.Af<|Wp.ret ?_
 refine At.A7 (i:=0) rf fun hb8=>?_
 refine At.freeze (i:=0) rf fun H4 hl4 hs1=>?_
 have hv6:=AW.of (c:=cB) hs1 rfl (hq2.mono hl4) hb8
 obtain rfl:=si hd
 exact At.DB rf (RV.tmp (v:=v7) rf) (fun w hs=>⟨_,_,_,rf,(hl1.trans hl4),(hs.AR [0] 1 rf rf rf),⟨⟨v7,rf,hv6⟩,rf⟩⟩)
theorem FL{fu:Nat}{a0:(List Int)×(List (List Int))×(List Bool)×(List Int)}{a1:Int}{v1 v2 v3 v4:Value}{B0:Nat}{r:Int}(hv1:AW Ao H a0.1 v1)(hv2:AW (cL Ao) H a0.2.1 v2)(hv3:AW cB H a0.2.2.1 v3)(hv4:AW Ao H a0.2.2.2 v4)(hd:CZ fu a0 a1=some r):
   Ca Tryz.prog 51 [(ptr B0 0),(.int .i64 a1)] H (.AM B0 (.cells #[v1,v2,v3,v4] 84 (0,0))::O) (.int .u8 r):=by
 intro w hs
 refine Bz Tryz.func51 rf rf rf ?_ hs
 clear hs w
 unfold CZ at hd
 refine Wp.sr<|Aa.op (Ab.assign rf) rf<|Aa.Af<|Wp.seq<|Wp.seq ?_
 obtain⟨ha1,hd⟩:=Al hd
 refine Wp.region<|Aa.op (Ab.move rf) rf<|Aa.op (Ab.add rf rf (Aq ha1)) rf<|Aa.op (Ab.move rf) rf<|Aa.op (Ab.nilCheck rf) rf<|Aa.op (Ab.AV (o':=0) IQ rf rf) rf<|Aa.op (Ab.Am (i:=0) (v:=v1) BF rf rf rf rf) rf ?_
 have hb1:=hv1.le
 refine Aa.op (Ab.len BF rf hv1.sl) rf<|Aa.op (Ab.lss rf rf) rf<|Aa.Af ?_
 refine Wp.cond rf (fun hb2=>?_) (fun hb2=>?_)
 ·
  obtain⟨hb2,hd⟩:=bT hb2 hd
  refine Wp.seq ?_
  obtain⟨ha2,hd⟩:=Al hd
  obtain⟨x1,hx1,hd⟩:=Ae hd
  have hx1_:=Ah hx1
  obtain⟨ha3,hd⟩:=Al hd
  obtain⟨ha4,hd⟩:=Al hd
  have:=ha4
  refine Wp.region<|Aa.op (Ab.move rf) rf<|Aa.op (Ab.nilCheck rf) rf<|Aa.op (Ab.AV (o':=0) IQ rf rf) rf<|Aa.op (Ab.Am (i:=0) (v:=v1) BF rf rf rf rf) rf<|Aa.op (Ab.move rf) rf<|Aa.op (Ab.add rf rf (Aq ha2)) rf ?_
  obtain⟨_,rfl,hc1⟩:=AW.get hv1 hx1
  refine Aa.op (Ab.Bo BF Cp rf hv1.sl rf (Ah hx1)) rf<|Aa.op (Ab.FJ u3 rf rf (hc1 0 _ rf)) rf<|Aa.op (Ab.sub rf rf (Aq ha3)) rf<|Aa.op (Ab.conv u3 u5 rf (Cm ha4)) rf<|Aa.op (Ab.assign rf) rf<|Aa.Af<|Wp.ret<|At.Av ?_
  obtain rfl:=si hd
  exact At.DB rf (RV.tmp (v:=(.int .u8 (x1-1))) rf) (fun w hs=>⟨rf,(hs.AR [0] 1 rf rf rf).weaken (Hp.le.refl _)⟩)
 obtain⟨hb2,hd⟩:=bF hb2 hd
 refine Wp.skip<|At.Ad<|Wp.sr<|Aa.op (Ab.assign rf) rf<|Aa.Af<|Wp.ret ?_
 obtain rfl:=si hd
 exact At.DB rf (RV.tmp (v:=(.int .u8 255)) rf) (fun w hs=>⟨rf,(hs.AR [0] 1 rf rf rf).weaken (Hp.le.refl _)⟩)
theorem Jk{fu:Nat}{a0:(List Int)×(List (List Int))×(List Bool)×(List Int)}{v1 v2 v3 v4:Value}{B0:Nat}{r:List (Bool×(List (Int×Int×Int)))}(hv1:AW Ao H a0.1 v1)(hv2:AW (cL Ao) H a0.2.1 v2)(hv3:AW cB H a0.2.2.1 v3)(hv4:AW Ao H a0.2.2.2 v4)(hd:Dc fu a0=some r):
    ED Tryz.prog 26 [(ptr B0 0)] H (.AM B0 (.cells #[v1,v2,v3,v4] 84 (0,0))::O) (fun v H' O'=>(∃v5:Value,(.agg #[v5])=v∧AW (cP cB (cL (cP AZ (cP AZ Ao)))) H' r v5)∧ .AM B0 (.cells #[v1,v2,v3,v4] 84 (0,0))::O=O'):=by
 intro w hs
 refine Bz Tryz.func26 rf rf rf ?_ hs
 clear hs w
 unfold Dc at hd
 refine Wp.sr<|Aa.alloc (cs:= #[(.slice none 0 0)]) A5 rf rf fun B2=>Aa.Af<|Wp.seq ?_
 obtain⟨x1,hx1,hd⟩:=Ae hd
 refine Wp.region<|Aa.op (Ab.move rf) rf<|Aa.E8 (BC.call Y8 rf (ED.atR 1 rf (LR hv1 hv2 hv3 hv4 hx1))) rf ?_
 rintro _ H1 _ hl1 ⟨⟨v6,rfl,hv5⟩,rfl⟩
 refine Aa.op (Ab.assign rf) rf<|Aa.Af<|Wp.seq<|Wp.seq ?_
 obtain⟨x2,hx2,hd⟩:=Ae hd
 have hx2_:=Ah hx2
 obtain⟨x3,hx3,hd⟩:=Ae hd
 have hx3_:=Ah hx3
 refine Wp.region<|Aa.op (Ab.move rf) rf<|Aa.op (Ab.move rf) rf<|Aa.op (Ab.nilCheck rf) rf<|Aa.op (Ab.AV (o':=3) Hv rf rf) rf<|Aa.op (Ab.Am (i:=1) (v:=v4) BF rf rf rf rf) rf ?_
 obtain⟨_,rfl,hc1⟩:=AW.get (hv4.mono hl1) hx2
 refine Aa.op (Ab.Bo BF Cp rf (hv4.mono hl1).sl rf (Ah hx2)) rf<|Aa.op (Ab.FJ u3 rf rf (hc1 0 _ rf)) rf ?_
 obtain⟨_,rfl,hc2⟩:=AW.get hv5 hx3
 refine Aa.op (Ab.Bo GX ES rf hv5.sl rf (Ah hx3)) rf<|Aa.op (Ab.FJ u4 rf rf (hc2 0 _ rf)) rf<|Aa.op (Ab.not rf) rf<|Aa.Af ?_
 refine Wp.cond rf (fun hb1=>?_) (fun hb1=>?_)
 ·
  replace hd:=Fs hb1 hd
  refine Wp.sr<|Aa.op (Ab.Bi (vs:=[]) (cs:= #[(.slice none 0 0)]) FQ A5 rf rf (Bd) rf) rf<|Aa.AP (i:=0) (cs':= #[(.slice none 0 0)]) rf rf A5 rf rf (Bc (Ac rf (As))) rf ?_
  refine Aa.own (O:=_::_::_) ?_ rf
  refine Aa.Af<|Wp.ret<|At.Av ?_
  obtain rfl:=si hd
  exact At.DB rf (RV.C' (i:=0) rf Eo rf A5 rf rf) (fun w hs=>⟨_,_,_,rf,hl1,(hs.AR [1] 2 rf rf rf),⟨⟨(.slice none 0 0),rf,AW.nil⟩,rf⟩⟩)
 replace hd:=Ft hb1 hd
 refine Wp.skip<|At.Ad<|Wp.sr<|Aa.A1 (c:=Ao) (y:=0) (cs:=[(.int .i64 0)]) BF Cp rf rf rf rf (rf) rf fun v7 xs1 hq1=>Aa.op (Ab.assign rf) rf<|Aa.Af<|Wp.seq ?_
 obtain⟨x4,hx4,hd⟩:=Ae hd
 have hx4_:=Ah hx4
 obtain⟨ha1,hd⟩:=Al hd
 obtain⟨ha2,hd⟩:=Al hd
 refine Wp.region<|Aa.makeMap (Qf u3) (I7 u3) rf fun B3=>Aa.op (Ab.move rf) rf<|Aa.op (Ab.nilCheck rf) rf<|Aa.op (Ab.AV (o':=3) Hv rf rf) rf<|Aa.op (Ab.Am (i:=3) (v:=v4) BF rf rf rf rf) rf ?_
 obtain⟨_,rfl,hc3⟩:=AW.get (hv4.mono hl1) hx4
 refine Aa.op (Ab.Bo BF Cp rf (hv4.mono hl1).sl rf (Ah hx4)) rf<|Aa.op (Ab.FJ u3 rf rf (hc3 0 _ rf)) rf<|Aa.insert (K:=(Qf u3)) (M:=(I7 u3)) (k:=x4) (v:=0) 0 WT rf rf rf ha1 (show C0 0 by decide) ha2 rf<|Aa.op (Ab.move rf) rf<|Aa.op (Ab.assign rf) rf<|Aa.Af<|Wp.sr<|Aa.alloc (cs:= #[(.slice none 0 0)]) A5 rf rf fun B4=>?_
 refine Aa.Af<|Wp.seq<|Wp.sr<|Aa.op (Ab.assign rf) rf<|Aa.Af<|Wp.block<|Wp.BG 43 2<|Wp.A_ (fun m LL HH OO=> ∃(l1:List Int),∃(l2:List (Bool×(List (Int×Int×Int)))),∃(m1:List (Int×Int)),∃(k1:Nat),∃(v8:Value),∃(xs2:List Value),∃(v9:Value),∃(xs3:List Value),[(0,(ptr B0 0)),(2,(ptr B2 0)),(3,v6),(4,v8),(5,(.map (some B3))),(6,(ptr B4 0)),(7,(.int .i64 (k1:Int)))]=LL∧ .row v9 43 2 l2.length xs3:: .AM B4 (.cells #[v9] 26 (0,0))::Es (Qf u3) (I7 u3) B3 m1:: .row v8 3 1 l1.length xs2:: .AM B2 (.cells #[(.slice none 0 0)] 26 (0,0)):: .AM B0 (.cells #[v1,v2,v3,v4] 84 (0,0))::O=OO∧Ax m (fun p nx=>CF fu a0 x1 p.1 p.2.1 p.2.2.1 p.2.2.2 nx) (l1,l2,m1,k1)=some r∧Au Ao HH l1 xs2∧Au (cP cB (cL (cP AZ (cP AZ Ao)))) HH l2 xs3) fu ⟨([0]:List Int),([]:List (Bool×(List (Int×Int×Int)))),(DY ([]:List (Int×Int)) x4 0),0,v7,xs1,(.slice none 0 0),[],rf,rf,hd,hq1,(Au.nil (c:=(cP cB (cL (cP AZ (cP AZ Ao))))) (H:=H1))⟩ (Sub.of rf) ?_
 intro m2 L1 H2 O1 hl2 hI1
 obtain⟨l1,l2,m1,k1,v8,xs2,v9,xs3,rfl,rfl,hd,hq2,hq3⟩:=hI1
 obtain⟨m3,nx1,rfl,hn1,hd⟩:=A9 hd
 replace hd:CF fu a0 x1 l1 l2 m1 k1 nx1=some r:=hd
 unfold CF at hd
 refine Wp.seq<|Wp.sr<|Aa.op (Ab.move rf) rf<|Aa.op (Ab.move rf) rf ?_
 refine Aa.A7 (i:=3) rf fun hb2=>?_
 refine Aa.op (Ab.BR (i:=3) BF rf rf) rf<|Aa.op (Ab.lss rf rf) rf<|Aa.Af ?_
 refine Wp.cond rf (fun hb3=>?_) (fun hb3=>?_)
 ·
  obtain⟨hb3,hd⟩:=bT hb3 hd
  refine Wp.skip<|At.Ad<|Wp.seq<|Wp.block<|Wp.seq ?_
  obtain⟨x5,hx5,hd⟩:=Ae hd
  have hx5_:=Ah hx5
  obtain⟨x6,hx6,hd⟩:=Ae hd
  have hx6_:=Ah hx6
  obtain⟨_,rfl,hc4,hc4_⟩:=Au.get hq2 (AG hx5).2
  obtain⟨_,rfl,hc5⟩:=AW.get (hv3.mono (hl1.trans hl2)) hx6
  refine Wp.emp<|Aj.runK 7 [AU,AU,AU,⟨[6],[],[]⟩,AU,AU,⟨[4],[],[]⟩,⟨[4],[],[]⟩,AU,AU,AU,⟨[0],[0],[11]⟩,⟨[0],[0],[11]⟩] follows rf (by kernel_rfl)<|Aj.op (val:=fun p1=>(ptr B0 0)) rf rf (fun _=>rfl) (fun _ p1 _ hx hf hy=>Ab.move rf) rf<|Aj.op (val:=fun p1=>(ptr B0 0)) rf rf (fun _=>rfl) (fun _ p1 _ hx hf hy=>Ab.nilCheck rf) rf<|Aj.op (val:=fun p1=>(ptr B0 2)) rf rf (fun _=>rfl) (fun _ p1 _ hx hf hy=>Ab.AV (o':=2) J8 rf rf) rf<|Aj.op (val:=fun p1=>v3) rf rf (fun _=>rfl) (fun _ p1 _ hx hf hy=>Ab.Am (i:=6) (v:=v3) GX rf rf (hy 6 _ rf rf) rf) rf<|Aj.op (val:=fun p1=>v8) rf rf (fun _=>rfl) (fun _ p1 _ hx hf hy=>Ab.move rf) rf<|Aj.op (val:=fun p1=>(.int .i64 (k1:Int))) rf rf (fun _=>rfl) (fun _ p1 _ hx hf hy=>Ab.move rf) rf ?_
  refine Aj.op (val:=fun p1=>(A2 v8 (k1*1))) rf rf (fun _=>rfl) (fun _ p1 _ hx hf hy=>Ab.Bu (j:=4) BF Cp rf (hy 4 _ rf rf) rf (Ah hx5)) rf<|Aj.op (val:=fun p1=>(.int .i64 x5)) rf rf (fun _=>rfl) (fun _ p1 _ hx hf hy=>Ab.Ch (i:=4) (k:=k1*1+0) u3 rf rf (hy 4 _ rf rf) (hc4 0 _ rf)) rf<|Aj.op (val:=fun p1=>(A2 v3 (x5.toNat*1))) rf rf (fun _=>rfl) (fun _ p1 _ hx hf hy=>Ab.Bo GX ES rf (hv3.mono ((hl1.trans hl2).trans hx)).sl rf (Ah hx6)) rf<|Aj.op (val:=fun p1=>(.bool x6)) rf rf (fun _=>rfl) (fun _ p1 _ hx hf hy=>Ab.FJ u4 rf rf ((hc5 0 _ rf).mono hx)) rf<|Aj.op (val:=fun p1=>(.agg #[(.bool x6),(.slice none 0 0)])) rf rf (fun _=>rfl) (fun _ p1 _ hx hf hy=>Ab.Bi (vs:=[(0,(.bool x6))]) (cs:= #[(.bool x6),(.slice none 0 0)]) Hq Bl rf rf (AJ rf (Bd)) rf) rf<|Aj.YE (val:=fun p1=>ptr (BI (p1 11)) 0) (res:=fun p1=> .AM (BI (p1 11)) (.cells #[(.bool false),(.slice none 0 0)] 43 (0,0))) 0 rf rf (fun _=>rfl) (fun _=>rfl) (fun _ p1 _ hx hf hy=>BC.Pq 0 Bl rf (hy 0 _ rf rf)) rf<|Aj.Kr (res:=fun p1=> .AM (BI (p1 11)) (.cells #[(.bool x6),(.slice none 0 0)] 43 (0,0))) 0 rf rf rf (fun _=>rfl) (fun _ p1 _ hx hf hy=>BC.VQ (vs:=[(.bool x6),(.slice none 0 0)]) rf rf rf Bl rf (Ac rf (Ac rf (As))) (hy 0 _ rf rf) rf rf)<|Aj.done fun H3 p1 hl3 hF1=>?_
  refine At.sub (L':=[(0,(ptr B0 0)),(2,(ptr B2 0)),(3,v6),(4,v8),(5,(.map (some B3))),(6,(ptr B4 0)),(7,(.int .i64 (k1:Int))),(8,(ptr (BI (p1 11)) 0))]) (Sub.of rf) ?_
  refine At.own (O:= .AM (BI (p1 11)) (.cells #[(.bool x6),(.slice none 0 0)] 43 (0,0)):: .row v9 43 2 l2.length xs3:: .AM B4 (.cells #[v9] 26 (0,0))::Es (Qf u3) (I7 u3) B3 m1:: .row v8 3 1 l1.length xs2:: .AM B2 (.cells #[(.slice none 0 0)] 26 (0,0)):: .AM B0 (.cells #[v1,v2,v3,v4] 84 (0,0))::O) ?_ (by first|rfl|(simp only[List.length_append,List.length_set];rfl)|simp)
  refine At.Ad<|Wp.seq<|Wp.seq ?_
  obtain⟨x7,hx7,hd⟩:=Ae hd
  have hx7_:=Ah hx7
  obtain⟨x8,hx8,hd⟩:=Ae hd
  have hx8_:=Ah hx8
  obtain⟨_,rfl,hc6,hc6_⟩:=Au.get (hq2.mono hl3) (AG hx7).2
  obtain⟨_,⟨v10,rfl,hv6⟩,hc7⟩:=AW.get (hv2.mono ((hl1.trans hl2).trans hl3)) hx8
  have hb4:=hv6.le
  refine Wp.CV 12 follows rf (by kernel_rfl)<|Ag.A6 (Ab.move rf) rf<|Ag.A6 (Ab.nilCheck rf) rf<|Ag.A6 (Ab.AV (o':=1) GU rf rf) rf<|Ag.A6 (Ab.Am (i:=6) (v:=v2) Ey rf rf rf rf) rf<|Ag.A6 (Ab.move rf) rf<|Ag.A6 (Ab.move rf) rf<|Ag.A6 (Ab.Bu (j:=4) BF Cp rf rf rf (Ah hx7)) rf ?_
  refine Ag.A6 (Ab.Ch (i:=4) (k:=k1*1+0) u3 rf rf rf (hc6 0 _ rf)) rf<|Ag.A6 (Ab.Bo Ey Dx rf (hv2.mono ((hl1.trans hl2).trans hl3)).sl rf (Ah hx8)) rf<|Ag.A6 (Ab.FJ BF rf rf (hc7 0 _ rf)) rf<|Ag.A6 (Ab.len BF rf hv6.sl) rf<|Ag.A6 (Ab.move rf) rf<|Ag.CW<|Ap.is (t:=0) rf<|Ap.is (t:=2) rf ?_
  refine Ap.is (t:=3) rf<|Ap.is (t:=4) rf<|Ap.is (t:=5) rf<|Ap.is (t:=6) rf<|Ap.is (t:=7) rf<|Ap.is (t:=8) rf<|Ap.is (t:=63) rf<|Ap.is (t:=64) rf ?_
  refine Ap.is (t:=65) rf<|Ap.JB<|Aa.Af<|Wp.block<|Wp.BG 46 3<|Wp.A_ (fun m LL HH OO=> ∃(l3:List Int),∃(l4:List (Int×Int×Int)),∃(m4:List (Int×Int)),∃(k2:Nat),∃(v11:Value),∃(xs4:List Value),∃(v12:Value),∃(xs5:List Value),[(0,(ptr B0 0)),(2,(ptr B2 0)),(3,v6),(4,v11),(5,(.map (some B3))),(6,(ptr B4 0)),(7,(.int .i64 (k1:Int))),(8,(ptr (BI (p1 11)) 0)),(63,v10),(64,(.int .i64 (x8.length:Int))),(65,(.int .i64 (k2:Int)))]=LL∧ .row v12 46 3 l4.length xs5:: .AM (BI (p1 11)) (.cells #[(.bool x6),v12] 43 (0,0)):: .row v9 43 2 l2.length xs3:: .AM B4 (.cells #[v9] 26 (0,0))::Es (Qf u3) (I7 u3) B3 m4:: .row v11 3 1 l3.length xs4:: .AM B2 (.cells #[(.slice none 0 0)] 26 (0,0)):: .AM B0 (.cells #[v1,v2,v3,v4] 84 (0,0))::O=OO∧Ax m (fun p nx=>Cf fu a0 x1 l2 k1 nx1 x6 x8 p.1 p.2.1 p.2.2.1 p.2.2.2 nx) (l3,l4,m4,k2)=some r∧Au Ao HH l3 xs4∧Au (cP AZ (cP AZ Ao)) HH l4 xs5) fu ⟨l1,([]:List (Int×Int×Int)),m1,0,v8,xs2,(.slice none 0 0),[],rf,rf,hd,(hq2.mono hl3),(Au.nil (c:=(cP AZ (cP AZ Ao))) (H:=H3))⟩ (Sub.of rf) ?_
  intro m5 L2 H4 O2 hl4 hI2
  obtain⟨l3,l4,m4,k2,v11,xs4,v12,xs5,rfl,rfl,hd,hq4,hq5⟩:=hI2
  obtain⟨m6,nx2,rfl,hn2,hd⟩:=A9 hd
  replace hd:Cf fu a0 x1 l2 k1 nx1 x6 x8 l3 l4 m4 k2 nx2=some r:=hd
  unfold Cf at hd
  refine Wp.sr<|Aa.op (Ab.lss rf rf) rf<|Aa.Af<|Wp.seq ?_
  refine Wp.cond rf (fun hb5=>?_) (fun hb5=>?_)
  ·
   obtain⟨hb5,hd⟩:=bT hb5 hd
   refine Wp.skip<|At.Ad<|Wp.seq<|Wp.block<|Wp.seq ?_
   obtain⟨x9,hx9,hd⟩:=Ae hd
   have hx9_:=Ah hx9
   refine Wp.region<|Aa.op (Ab.move rf) rf ?_
   obtain⟨_,rfl,hc8⟩:=AW.get (hv6.mono hl4) hx9
   refine Aa.op (Ab.Bo BF Cp rf (hv6.mono hl4).sl rf (Ah hx9)) rf<|Aa.op (Ab.FJ u3 rf rf (hc8 0 _ rf)) rf<|Aa.op (Ab.assign rf) rf<|Aa.op (Ab.assign rf) rf<|Aa.Af<|Wp.seq ?_
   obtain⟨x10,hx10,hd⟩:=Ae hd
   have hx10_:=Ah hx10
   refine Wp.region<|Aa.op (Ab.move rf) rf<|Aa.op (Ab.nilCheck rf) rf<|Aa.op (Ab.AV (o':=3) Hv rf rf) rf<|Aa.op (Ab.Am (i:=7) (v:=v4) BF rf rf rf rf) rf<|Aa.op (Ab.move rf) rf ?_
   obtain⟨_,rfl,hc9⟩:=AW.get (hv4.mono (((hl1.trans hl2).trans hl3).trans hl4)) hx10
   refine Aa.op (Ab.Bo BF Cp rf (hv4.mono (((hl1.trans hl2).trans hl3).trans hl4)).sl rf (Ah hx10)) rf<|Aa.op (Ab.FJ u3 rf rf (hc9 0 _ rf)) rf<|Aa.op (Ab.assign rf) rf<|Aa.Af<|Wp.seq<|Wp.seq ?_
   obtain⟨x11,hx11,hd⟩:=Ae hd
   have hx11_:=Ah hx11
   refine Wp.region<|Aa.op (Ab.move rf) rf<|Aa.op (Ab.move rf) rf ?_
   obtain⟨_,rfl,hc10⟩:=AW.get (hv5.mono ((hl2.trans hl3).trans hl4)) hx11
   refine Aa.op (Ab.Bo GX ES rf (hv5.mono ((hl2.trans hl3).trans hl4)).sl rf (Ah hx11)) rf<|Aa.op (Ab.FJ u4 rf rf (hc10 0 _ rf)) rf<|Aa.op (Ab.not rf) rf<|Aa.Af ?_
   refine Wp.cond rf (fun hb6=>?_) (fun hb6=>?_)
   ·
    replace hd:=Fs hb6 hd
    refine Wp.exit<|At.An<|At.Az<|At.Ad<|Wp.region<|Aa.op (Ab.add rf rf (Aq (by omega))) rf<|Aa.op (Ab.move rf) rf<|Aa.nil ?_
    refine At.AO (Hp.le.refl _) ⟨l3,l4,m4,(k2+1),v11,xs4,v12,xs5,rf,rf,(by rw[←hn2];exact hd),hq4,hq5⟩ (Sub.of rf)
   replace hd:=Ft hb6 hd
   refine Wp.skip<|At.Ad<|Wp.seq<|Wp.seq ?_
   obtain⟨ha3,hd⟩:=Al hd
   refine Wp.region<|Aa.op (Ab.move rf) rf<|Aa.op (Ab.move rf) rf<|Aa.op (Ab.MN (K:=(Qf u3)) (M:=(I7 u3)) (i:=4) (k:=x10) (z:=0) WT Cp (show C0 0 by decide) rf rf ha3 rf) rf<|Aa.op (Ab.move rf) rf<|Aa.op (Ab.extract rf rf) rf<|Aa.op (Ab.extract rf rf) rf<|Aa.op (Ab.assign rf) rf ?_
   refine Aa.op (Ab.assign rf) rf<|Aa.Af<|Wp.sr<|Aa.op (Ab.move rf) rf<|Aa.op (Ab.not rf) rf<|Aa.Af ?_
   refine Wp.Fp (fun LL HH OO=> ∃(l5:List Int),∃(m7:List (Int×Int)),∃(v13:Value),∃(xs6:List Value),[(0,(ptr B0 0)),(2,(ptr B2 0)),(3,v6),(4,v13),(5,(.map (some B3))),(6,(ptr B4 0)),(7,(.int .i64 (k1:Int))),(8,(ptr (BI (p1 11)) 0)),(9,(.int .i64 (k2:Int))),(11,(.int .i64 x10)),(63,v10),(64,(.int .i64 (x8.length:Int))),(65,(.int .i64 (k2:Int)))]=LL∧ .row v12 46 3 l4.length xs5:: .AM (BI (p1 11)) (.cells #[(.bool x6),v12] 43 (0,0)):: .row v9 43 2 l2.length xs3:: .AM B4 (.cells #[v9] 26 (0,0))::Es (Qf u3) (I7 u3) B3 m7:: .row v13 3 1 l5.length xs6:: .AM B2 (.cells #[(.slice none 0 0)] 26 (0,0)):: .AM B0 (.cells #[v1,v2,v3,v4] 84 (0,0))::O=OO∧Ce fu a0 l4 k2 nx2 x10 l5 m7=some r∧Au Ao HH l5 xs6) ?_ ?_
   ·
    refine Wp.cond rf (fun hb7=>?_) (fun hb7=>?_)
    ·
     replace hd:=Fs hb7 hd
     refine Wp.seq ?_
     obtain⟨ha4,hd⟩:=Al hd
     obtain⟨ha5,hd⟩:=Al hd
     obtain⟨ha6,hd⟩:=Al hd
     refine Wp.region<|Aa.op (Ab.move rf) rf<|Aa.op (Ab.move rf) rf<|Aa.op (Ab.move rf) rf ?_
     refine Aa.A7 (i:=5) rf fun hb8=>?_
     refine Aa.op (Ab.BR (i:=5) BF rf rf) rf<|Aa.mapUpdate (K:=(Qf u3)) (M:=(I7 u3)) (k:=x10) (v:=(l3.length:Int)) 4 WT rf rf rf ha4 ha5 ha6 rf<|Aa.Af ?_
     obtain⟨ha7,hd⟩:=Al hd
     refine Wp.region<|Aa.op (Ab.move rf) rf<|Aa.op (Ab.move rf) rf<|Aa.A1 (c:=Ao) (y:=x9) (cs:=[(.int .i64 x9)]) BF Cp rf rf rf rf (rf) rf fun v14 xs7 hq6=>Aa.Df (i:=6) (j:=0) hq4 hq6 BF Cp rf (by decide) rf rf rf rf (by decide) ha7 rf fun v15 xs8 hq7=>Aa.drop (i:=0)<|Aa.op (Ab.assign rf) rf<|Aa.nil ?_
     refine At.Cn (Hp.le.refl _) ⟨(l3++([x9]:List Int)),(DY m4 x10 (l3.length:Int)),v15,xs8,rf,rf,hd,hq7⟩ (Sub.of rf)
    replace hd:=Ft hb7 hd
    refine Wp.skip ?_
    refine At.Cn (Hp.le.refl _) ⟨l3,m4,v11,xs4,rf,rf,hd,hq4⟩ (Sub.of rf)
   intro L3 H5 O3 hl5 hI3
   obtain⟨l5,m7,v13,xs6,rfl,rfl,hd,hq8⟩:=hI3
   unfold Ce at hd
   refine Wp.sr<|Aa.op (Ab.AV (o':=1) Bv rf rf) rf<|Aa.op (Ab.Am (i:=1) (v:=v12) CC rf rf rf rf) rf ?_
   refine Aa.A7 (i:=0) rf fun hb9=>?_
   refine Aa.op (Ab.BR (i:=0) CC rf rf) rf<|Aa.op (Ab.assign rf) rf<|Aa.Af<|Wp.seq ?_
   rcases Bool.eq_false_or_eq_true (decide (0<(l4.length:Int)))with hg1|hg1
   ·
    obtain⟨hg1_,hd⟩:=bT hg1 hd
    obtain⟨ha8,hd⟩:=Al hd
    obtain⟨x12,hx12,hd⟩:=Ae hd
    have hx12_:=Ah hx12
    obtain⟨ha9,hd⟩:=Al hd
    rcases Bool.eq_false_or_eq_true (decide (x12.2.2=((AQ m7 x10).getD 0)))with hg2|hg2
    ·
     obtain⟨hg2_,hd⟩:=bT hg2 hd
     obtain⟨ha10,hd⟩:=Al hd
     obtain⟨x13,hx13,hd⟩:=Ae hd
     have hx13_:=Ah hx13
     obtain⟨ha11,hd⟩:=Al hd
     obtain⟨x14,hx14,hd⟩:=Ae hd
     have hx14_:=Ah hx14
     obtain⟨_,⟨_,_,rfl,⟨rfl,hr1,hr2⟩,⟨_,_,rfl,⟨rfl,hr3,hr4⟩,rfl⟩⟩,hc11,hc11_⟩:=Au.get (hq5.mono hl5) (AG hx12).2
     obtain⟨_,⟨_,_,rfl,⟨rfl,hr5,hr6⟩,⟨_,_,rfl,⟨rfl,hr7,hr8⟩,rfl⟩⟩,hc12,hc12_⟩:=Au.get (hq5.mono hl5) (AG hx13).2
     obtain⟨_,rfl,hc13⟩:=AW.get (hv1.mono ((((hl1.trans hl2).trans hl3).trans hl4).trans hl5)) hx14
     refine Wp.CV 34 follows rf (by kernel_rfl)<|Ag.A6 (Ab.move rf) rf<|Ag.A6 (Ab.Bg (b:=decide (0<(l4.length:Int))) (c:=true) (Ab.gtr rf rf) hg1) rf<|Ag.A6 (Ab.move rf) rf<|Ag.AY rf rf (Ab.AV (o':=1) Bv rf rf) rf<|Ag.AY rf rf (Ab.Am (i:=1) (v:=v12) CC rf rf rf rf) rf<|Ag.AY rf rf (Ab.move rf) rf<|Ag.AY rf rf (Ab.sub rf rf (Aq ha8)) rf ?_
     refine Ag.AY rf rf (Ab.Bu (j:=0) CC BA rf rf rf (Ah hx12)) rf<|Ag.AY rf rf (Ab.Je (q:=0) CI rf rf (by omega)) rf<|Ag.AY rf rf (Ab.Ch (i:=0) (k:=(((l4.length:Int)-1).toNat)*3+2) u3 rf rf rf (hc11 2 _ rf)) rf<|Ag.AY rf rf (Ab.move rf) rf<|Ag.AY rf rf (Ab.move rf) rf<|Ag.AY rf rf (Ab.lookup (K:=(Qf u3)) (M:=(I7 u3)) (i:=4) (k:=x10) (z:=0) WT Cp (show C0 0 by decide) rf rf ha9 rf) rf<|Ag.AY rf rf (Ab.Bg (b:=decide (x12.2.2=((AQ m7 x10).getD 0))) (c:=true) (Ab.eql rf rf) hg2) rf<|Ag.A6 (Ab.AK rf rf) rf ?_
     refine Ag.A6 (Ab.move rf) rf<|Ag.AY rf rf (Ab.AV (o':=1) Bv rf rf) rf<|Ag.AY rf rf (Ab.Am (i:=1) (v:=v12) CC rf rf rf rf) rf<|Ag.AY rf rf (Ab.move rf) rf<|Ag.AY rf rf (Ab.sub rf rf (Aq ha10)) rf<|Ag.AY rf rf (Ab.Bu (j:=0) CC BA rf rf rf (Ah hx13)) rf<|Ag.AY rf rf (Ab.Je (q:=0) C_ rf rf (by omega)) rf<|Ag.AY rf rf (Ab.Ch (i:=0) (k:=(((l4.length:Int)-1).toNat)*3+1) u5 rf rf rf (hc12 1 _ rf)) rf ?_
     refine Ag.AY rf rf (Ab.conv u5 u3 rf (Aq (by omega))) rf<|Ag.AY rf rf (Ab.add rf rf (Aq ha11)) rf<|Ag.AY rf rf (Ab.move rf) rf<|Ag.AY rf rf (Ab.nilCheck rf) rf<|Ag.AY rf rf (Ab.AV (o':=0) IQ rf rf) rf<|Ag.AY rf rf (Ab.Am (i:=7) (v:=v1) BF rf rf rf rf) rf<|Ag.AY rf rf (Ab.move rf) rf<|Ag.AY rf rf (Ab.Bo BF Cp rf (hv1.mono ((((hl1.trans hl2).trans hl3).trans hl4).trans hl5)).sl rf (Ah hx14)) rf ?_
     refine Ag.AY rf rf (Ab.FJ u3 rf rf (hc13 0 _ rf)) rf<|Ag.AY rf rf (Ab.eql rf rf) rf<|Ag.A6 (Ab.AK rf rf) rf<|Ag.CW<|Ap.is (t:=0) rf<|Ap.is (t:=2) rf<|Ap.is (t:=3) rf<|Ap.is (t:=4) rf ?_
     refine Ap.is (t:=5) rf<|Ap.is (t:=6) rf<|Ap.is (t:=7) rf<|Ap.is (t:=8) rf<|Ap.is (t:=9) rf<|Ap.is (t:=11) rf<|Ap.is (t:=14) rf<|Ap.is (t:=63) rf ?_
     refine Ap.is (t:=64) rf<|Ap.is (t:=65) rf<|Ap.is (t:=134) rf<|Ap.JB<|Aa.Af ?_
     refine Wp.cond rf (fun hb10=>?_) (fun hb10=>?_)
     ·
      obtain⟨hb10,hd⟩:=bT hb10 hd
      obtain⟨ha12,hd⟩:=Al hd
      obtain⟨x15,hx15,hd⟩:=Ae hd
      obtain⟨ha13,hd⟩:=Al hd
      have hr9:=ha13.1;have hr10:=ha13.2
      obtain⟨x16,hx16,hd⟩:=Ae hd
      have hx16_:=Ah hx16
      obtain⟨_,⟨_,_,rfl,⟨rfl,hr11,hr12⟩,⟨_,_,rfl,⟨rfl,hr13,hr14⟩,rfl⟩⟩,hc14,hc14_⟩:=Au.get (hq5.mono hl5) (AG hx16).2
      refine Aj.runK 8 [AU,⟨[1],[],[]⟩,AU,AU,AU,AU,⟨[7],[],[]⟩,⟨[0],[],[]⟩,⟨[0],[],[]⟩,⟨[0],[0],[]⟩] follows rf (by kernel_rfl)<|Aj.op (val:=fun p2=>(ptr (BI (p1 11)) 1)) rf rf (fun _=>rfl) (fun _ p2 _ hx hf hy=>Ab.AV (o':=1) Bv rf rf) rf<|Aj.op (val:=fun p2=>v12) rf rf (fun _=>rfl) (fun _ p2 _ hx hf hy=>Ab.Am (i:=1) (v:=v12) CC rf rf (hy 1 _ rf rf) rf) rf<|Aj.op (val:=fun p2=>(.int .i64 (l4.length:Int))) rf rf (fun _=>rfl) (fun _ p2 _ hx hf hy=>Ab.move rf) rf<|Aj.op (val:=fun p2=>(.int .i64 ((l4.length:Int)-1))) rf rf (fun _=>rfl) (fun _ p2 _ hx hf hy=>Ab.sub rf rf (Aq ha12)) rf<|Aj.op (val:=fun p2=>(ptr B0 0)) rf rf (fun _=>rfl) (fun _ p2 _ hx hf hy=>Ab.move rf) rf<|Aj.op (val:=fun p2=>(.int .i64 (k2:Int))) rf rf (fun _=>rfl) (fun _ p2 _ hx hf hy=>Ab.move rf) rf<|Aj.op (val:=fun p2=>(.int .u8 x15)) rf rf (fun _=>rfl) (fun _ p2 _ hx hf hy=>Ab.call Sp rf (Ca.at 7 (hy 7 _ rf rf) (FL (hv1.mono (((((hl1.trans hl2).trans hl3).trans hl4).trans hl5).trans hx)) (hv2.mono (((((hl1.trans hl2).trans hl3).trans hl4).trans hl5).trans hx)) (hv3.mono (((((hl1.trans hl2).trans hl3).trans hl4).trans hl5).trans hx)) (hv4.mono (((((hl1.trans hl2).trans hl3).trans hl4).trans hl5).trans hx)) hx15))) rf ?_
      refine Aj.op (val:=fun p2=>(A2 v12 ((((l4.length:Int)-1).toNat)*3))) rf rf (fun _=>rfl) (fun _ p2 _ hx hf hy=>Ab.Bu (j:=0) CC BA rf (hy 0 _ rf rf) rf (Ah hx16)) rf<|Aj.op (val:=fun p2=>(A2 v12 ((((l4.length:Int)-1).toNat)*3+1))) rf rf (fun _=>rfl) (fun _ p2 _ hx hf hy=>Ab.Je (q:=0) C_ rf (hy 0 _ rf rf) (by omega)) rf<|Aj.Kr (res:=fun p2=> .row v12 46 3 l4.length (GP xs5 ((((l4.length:Int)-1).toNat)*3+1) [(.int .u8 x15)])) 0 rf rf rf (fun _=>rfl) (fun _ p2 _ hx hf hy=>BC.Mk (k:=(((l4.length:Int)-1).toNat)*3+1) (vs:=[(.int .u8 x15)]) rf rf rf VO rf rf (Ac rf (As)) (hy 0 _ rf rf) (by have h1:_=_*3:=(hq5.mono hl5).len;have h2:=Ah hx16;simp only[List.length_cons,List.length_nil];omega))<|Aj.done fun H6 p2 hl6 hF2=>At.sub (L':=[(0,(ptr B0 0)),(2,(ptr B2 0)),(3,v6),(4,v13),(5,(.map (some B3))),(6,(ptr B4 0)),(7,(.int .i64 (k1:Int))),(8,(ptr (BI (p1 11)) 0)),(63,v10),(64,(.int .i64 (x8.length:Int))),(65,(.int .i64 (k2:Int)))]) (Sub.of rf) ?_
      refine At.own (O:= .row v12 46 3 (l4.set (((l4.length:Int)-1).toNat) (x16.1,x15,x16.2.2)).length (GP xs5 ((((l4.length:Int)-1).toNat)*3+1) [(.int .u8 x15)]):: .AM (BI (p1 11)) (.cells #[(.bool x6),v12] 43 (0,0)):: .row v9 43 2 l2.length xs3:: .AM B4 (.cells #[v9] 26 (0,0))::Es (Qf u3) (I7 u3) B3 m7:: .row v13 3 1 l5.length xs6:: .AM B2 (.cells #[(.slice none 0 0)] 26 (0,0)):: .AM B0 (.cells #[v1,v2,v3,v4] 84 (0,0))::O) ?_ (by first|rfl|(simp only[List.length_append,List.length_set];rfl)|simp)
      have hq9:Au (cP AZ (cP AZ Ao)) H6 (l4.set (((l4.length:Int)-1).toNat) (x16.1,x15,x16.2.2)) (GP xs5 ((((l4.length:Int)-1).toNat)*3+1) [(.int .u8 x15)]):=(Au.part (off:=1) (y:=(x16.1,x15,x16.2.2)) (cs:=[(.int .u8 x16.1),(.int .u8 x16.2.1),(.int .i64 x16.2.2)]) (hq5.mono (hl5.trans hl6)) (AG hx16).2 hc14_ rfl (Nat.le_of_ble_eq_true rfl) (⟨[(.int .u8 x16.1)],[(.int .u8 x15),(.int .i64 x16.2.2)],rfl,⟨rfl,(show(0:Int)≤x16.1 by omega),(show x16.1≤(255:Int) by omega)⟩,⟨[(.int .u8 x15)],[(.int .i64 x16.2.2)],rfl,⟨rfl,(show(0:Int)≤x15 by omega),(show x15≤(255:Int) by omega)⟩,rfl⟩⟩))
      refine At.AE<|At.Ad<|Wp.region<|Aa.op (Ab.add rf rf (Aq (by omega))) rf<|Aa.op (Ab.move rf) rf<|Aa.nil ?_
      refine At.AO (hl5.trans hl6) ⟨l5,(l4.set (((l4.length:Int)-1).toNat) (x16.1,x15,x16.2.2)),m7,(k2+1),v13,xs6,v12,GP xs5 ((((l4.length:Int)-1).toNat)*3+1) [(.int .u8 x15)],rf,rf,(by rw[←hn2];exact hd),(hq8.mono hl6),hq9⟩ (Sub.of rf)
     obtain⟨hb10,hd⟩:=bF hb10 hd
     obtain⟨x17,hx17,hd⟩:=Ae hd
     have hx17_:=Ah hx17
     obtain⟨ha14,hd⟩:=Al hd
     have:=ha14
     obtain⟨x18,hx18,hd⟩:=Ae hd
     obtain⟨ha15,hd⟩:=Al hd
     have hr15:=ha15.1;have hr16:=ha15.2
     obtain⟨ha16,hd⟩:=Al hd
     obtain⟨ha17,hd⟩:=Al hd
     obtain⟨_,rfl,hc15⟩:=AW.get (hv1.mono ((((hl1.trans hl2).trans hl3).trans hl4).trans hl5)) hx17
     refine Wp.emp<|Aj.runK 9 [AU,⟨[2],[],[]⟩,AU,AU,AU,⟨[8],[],[]⟩,AU,AU,AU,AU,AU,AU,⟨[8],[],[]⟩,AU,AU,⟨[5],[],[]⟩,AU,⟨[0],[0],[17]⟩,⟨[0,1],[1],[18]⟩,AU,⟨[2],[2],[18]⟩] follows rf (by kernel_rfl)<|Aj.op (val:=fun p3=>(ptr (BI (p1 11)) 1)) rf rf (fun _=>rfl) (fun _ p3 _ hx hf hy=>Ab.AV (o':=1) Bv rf rf) rf<|Aj.op (val:=fun p3=>v12) rf rf (fun _=>rfl) (fun _ p3 _ hx hf hy=>Ab.Am (i:=2) (v:=v12) CC rf rf (hy 2 _ rf rf) rf) rf<|Aj.op (val:=fun p3=>(ptr B0 0)) rf rf (fun _=>rfl) (fun _ p3 _ hx hf hy=>Ab.move rf) rf<|Aj.op (val:=fun p3=>(ptr B0 0)) rf rf (fun _=>rfl) (fun _ p3 _ hx hf hy=>Ab.nilCheck rf) rf<|Aj.op (val:=fun p3=>(ptr B0 0)) rf rf (fun _=>rfl) (fun _ p3 _ hx hf hy=>Ab.AV (o':=0) IQ rf rf) rf<|Aj.op (val:=fun p3=>v1) rf rf (fun _=>rfl) (fun _ p3 _ hx hf hy=>Ab.Am (i:=8) (v:=v1) BF rf rf (hy 8 _ rf rf) rf) rf ?_
     refine Aj.op (val:=fun p3=>(.int .i64 (k2:Int))) rf rf (fun _=>rfl) (fun _ p3 _ hx hf hy=>Ab.move rf) rf<|Aj.op (val:=fun p3=>(A2 v1 (k2*1))) rf rf (fun _=>rfl) (fun _ p3 _ hx hf hy=>Ab.Bo BF Cp rf (hv1.mono (((((hl1.trans hl2).trans hl3).trans hl4).trans hl5).trans hx)).sl rf (Ah hx17)) rf<|Aj.op (val:=fun p3=>(.int .i64 x17)) rf rf (fun _=>rfl) (fun _ p3 _ hx hf hy=>Ab.FJ u3 rf rf ((hc15 0 _ rf).mono hx)) rf<|Aj.op (val:=fun p3=>(.int .u8 x17)) rf rf (fun _=>rfl) (fun _ p3 _ hx hf hy=>Ab.conv u3 u5 rf (Cm ha14)) rf<|Aj.op (val:=fun p3=>(ptr B0 0)) rf rf (fun _=>rfl) (fun _ p3 _ hx hf hy=>Ab.move rf) rf<|Aj.op (val:=fun p3=>(.int .i64 (k2:Int))) rf rf (fun _=>rfl) (fun _ p3 _ hx hf hy=>Ab.move rf) rf<|Aj.op (val:=fun p3=>(.int .u8 x18)) rf rf (fun _=>rfl) (fun _ p3 _ hx hf hy=>Ab.call Sp rf (Ca.at 8 (hy 8 _ rf rf) (FL (hv1.mono (((((hl1.trans hl2).trans hl3).trans hl4).trans hl5).trans hx)) (hv2.mono (((((hl1.trans hl2).trans hl3).trans hl4).trans hl5).trans hx)) (hv3.mono (((((hl1.trans hl2).trans hl3).trans hl4).trans hl5).trans hx)) (hv4.mono (((((hl1.trans hl2).trans hl3).trans hl4).trans hl5).trans hx)) hx18))) rf<|Aj.op (val:=fun p3=>(.map (some B3))) rf rf (fun _=>rfl) (fun _ p3 _ hx hf hy=>Ab.move rf) rf ?_
     refine Aj.op (val:=fun p3=>(.int .i64 x10)) rf rf (fun _=>rfl) (fun _ p3 _ hx hf hy=>Ab.move rf) rf<|Aj.op (val:=fun p3=>(.int .i64 ((AQ m7 x10).getD 0))) rf rf (fun _=>rfl) (fun _ p3 _ hx hf hy=>Ab.lookup (K:=(Qf u3)) (M:=(I7 u3)) (i:=5) (k:=x10) (z:=0) WT Cp (show C0 0 by decide) rf rf ha16 (hy 5 _ rf rf)) rf<|Aj.op (val:=fun p3=>(.agg #[(.int .u8 x17),(.int .u8 x18),(.int .i64 ((AQ m7 x10).getD 0))])) rf rf (fun _=>rfl) (fun _ p3 _ hx hf hy=>Ab.Bi (vs:=[(0,(.int .u8 x17)),(1,(.int .u8 x18)),(2,(.int .i64 ((AQ m7 x10).getD 0)))]) (cs:= #[(.int .u8 x17),(.int .u8 x18),(.int .i64 ((AQ m7 x10).getD 0))]) Ho BA rf rf (AJ rf (AJ rf (AJ rf (Bd)))) rf) rf<|Aj.Hs (res:=fun p3=> .row (p3 17) 46 3 1 [(.int .u8 x17),(.int .u8 x18),(.int .i64 ((AQ m7 x10).getD 0))]) 0 rf rf rf (fun _=>rfl) (fun _ p3 _ hx hf hy=>BC.EO (v:=(.agg #[(.int .u8 x17),(.int .u8 x18),(.int .i64 ((AQ m7 x10).getD 0))])) (cs:=[(.int .u8 x17),(.int .u8 x18),(.int .i64 ((AQ m7 x10).getD 0))]) 0 CC BA rf rf rf rf rf (hy 0 _ rf rf)) rf (fun _=>⟨_,_,_,_,rf⟩)<|Aj.Hs (res:=fun p3=> .row (p3 18) 46 3 (l4.length+1) (xs5++[(.int .u8 x17),(.int .u8 x18),(.int .i64 ((AQ m7 x10).getD 0))])) 1 rf rf rf (fun _=>rfl) (fun _ p3 _ hx hf hy=>BC.M' 1 0 CC BA rf rf rf rf (hy 1 _ rf rf) (hy 0 _ rf rf) (Ac rf (Ac rf (Ac rf (As)))) rf ha17) rf (fun _=>⟨_,_,_,_,rf⟩)<|Aj.op (val:=fun p3=>(ptr (BI (p1 11)) 1)) rf rf (fun _=>rfl) (fun _ p3 _ hx hf hy=>Ab.AV (o':=1) Bv rf rf) rf<|Aj.Kr (res:=fun p3=> .AM (BI (p1 11)) (.cells #[(.bool x6),(p3 18)] 43 (0,0))) 2 rf rf rf (fun _=>rfl) (fun _ p3 _ hx hf hy=>BC.VQ (vs:=[(p3 18)]) rf rf (DZ (hf 18 rf rf)) Mg rf (Ac (hf 18 rf rf) (As)) (hy 2 _ rf rf) rf rf)<|Aj.done fun H7 p3 hl7 hF3=>?_
     refine At.sub (L':=[(0,(ptr B0 0)),(2,(ptr B2 0)),(3,v6),(4,v13),(5,(.map (some B3))),(6,(ptr B4 0)),(7,(.int .i64 (k1:Int))),(8,(ptr (BI (p1 11)) 0)),(63,v10),(64,(.int .i64 (x8.length:Int))),(65,(.int .i64 (k2:Int)))]) (Sub.of rf) ?_
     refine At.own (O:= .row (p3 17) 46 3 ([(x17,x18,(AQ m7 x10).getD 0)]:List (Int×Int×Int)).length [(.int .u8 x17),(.int .u8 x18),(.int .i64 ((AQ m7 x10).getD 0))]:: .row (p3 18) 46 3 (l4++([(x17,x18,(AQ m7 x10).getD 0)]:List (Int×Int×Int))).length (xs5++[(.int .u8 x17),(.int .u8 x18),(.int .i64 ((AQ m7 x10).getD 0))]):: .AM (BI (p1 11)) (.cells #[(.bool x6),(p3 18)] 43 (0,0)):: .row v9 43 2 l2.length xs3:: .AM B4 (.cells #[v9] 26 (0,0))::Es (Qf u3) (I7 u3) B3 m7:: .row v13 3 1 l5.length xs6:: .AM B2 (.cells #[(.slice none 0 0)] 26 (0,0)):: .AM B0 (.cells #[v1,v2,v3,v4] 84 (0,0))::O) ?_ (by first|rfl|(simp only[List.length_append,List.length_set];rfl)|simp)
     have hq10:Au (cP AZ (cP AZ Ao)) H7 (l4++([(x17,x18,(AQ m7 x10).getD 0)]:List (Int×Int×Int))) (xs5++[(.int .u8 x17),(.int .u8 x18),(.int .i64 ((AQ m7 x10).getD 0))]):=(Au.app (hq5.mono (hl5.trans hl7)) (Au.Kj (c:=(cP AZ (cP AZ Ao))) (a:=(x17,x18,(AQ m7 x10).getD 0)) (cs:=[(.int .u8 x17),(.int .u8 x18),(.int .i64 ((AQ m7 x10).getD 0))]) (⟨[(.int .u8 x17)],[(.int .u8 x18),(.int .i64 ((AQ m7 x10).getD 0))],rfl,⟨rfl,(show(0:Int)≤x17 by omega),(show x17≤(255:Int) by omega)⟩,⟨[(.int .u8 x18)],[(.int .i64 ((AQ m7 x10).getD 0))],rfl,⟨rfl,(show(0:Int)≤x18 by omega),(show x18≤(255:Int) by omega)⟩,rfl⟩⟩)))
     refine At.AR [1,2,3,4,5,6,7,8] 9 rf rf rf<|At.AE<|At.Ad<|Wp.region<|Aa.op (Ab.add rf rf (Aq (by omega))) rf<|Aa.op (Ab.move rf) rf<|Aa.nil ?_
     refine At.AO (hl5.trans hl7) ⟨l5,(l4++([(x17,x18,(AQ m7 x10).getD 0)]:List (Int×Int×Int))),m7,(k2+1),v13,xs6,(p3 18),xs5++[(.int .u8 x17),(.int .u8 x18),(.int .i64 ((AQ m7 x10).getD 0))],rf,rf,(by rw[←hn2];exact hd),(hq8.mono hl7),hq10⟩ (Sub.of rf)
    obtain⟨hg2_,hd⟩:=bF hg2 hd
    obtain⟨_,⟨_,_,rfl,⟨rfl,hr1,hr2⟩,⟨_,_,rfl,⟨rfl,hr3,hr4⟩,rfl⟩⟩,hc11,hc11_⟩:=Au.get (hq5.mono hl5) (AG hx12).2
    refine Wp.CV 34 follows rf (by kernel_rfl)<|Ag.A6 (Ab.move rf) rf<|Ag.A6 (Ab.Bg (b:=decide (0<(l4.length:Int))) (c:=true) (Ab.gtr rf rf) hg1) rf<|Ag.A6 (Ab.move rf) rf<|Ag.AY rf rf (Ab.AV (o':=1) Bv rf rf) rf<|Ag.AY rf rf (Ab.Am (i:=1) (v:=v12) CC rf rf rf rf) rf<|Ag.AY rf rf (Ab.move rf) rf<|Ag.AY rf rf (Ab.sub rf rf (Aq ha8)) rf ?_
    refine Ag.AY rf rf (Ab.Bu (j:=0) CC BA rf rf rf (Ah hx12)) rf<|Ag.AY rf rf (Ab.Je (q:=0) CI rf rf (by omega)) rf<|Ag.AY rf rf (Ab.Ch (i:=0) (k:=(((l4.length:Int)-1).toNat)*3+2) u3 rf rf rf (hc11 2 _ rf)) rf<|Ag.AY rf rf (Ab.move rf) rf<|Ag.AY rf rf (Ab.move rf) rf<|Ag.AY rf rf (Ab.lookup (K:=(Qf u3)) (M:=(I7 u3)) (i:=4) (k:=x10) (z:=0) WT Cp (show C0 0 by decide) rf rf ha9 rf) rf<|Ag.AY rf rf (Ab.Bg (b:=decide (x12.2.2=((AQ m7 x10).getD 0))) (c:=false) (Ab.eql rf rf) hg2) rf<|Ag.A6 (Ab.AK rf rf) rf ?_
    refine Ag.A6 (Ab.move rf) rf<|Ag.Aw rf rf rf rf<|Ag.Aw rf rf rf rf<|Ag.Aw rf rf rf rf<|Ag.Aw rf rf rf rf<|Ag.Aw rf rf rf rf<|Ag.Aw rf rf rf rf<|Ag.Aw rf rf rf rf ?_
    refine Ag.Aw rf rf rf rf<|Ag.Aw rf rf rf rf<|Ag.Aw rf rf rf rf<|Ag.Aw rf rf rf rf<|Ag.Aw rf rf rf rf<|Ag.Aw rf rf rf rf<|Ag.Aw rf rf rf rf<|Ag.Aw rf rf rf rf ?_
    refine Ag.Aw rf rf rf rf<|Ag.Aw rf rf rf rf<|Ag.A6 (Ab.AA rf rf) rf<|Ag.CW<|Ap.is (t:=0) rf<|Ap.is (t:=2) rf<|Ap.is (t:=3) rf<|Ap.is (t:=4) rf ?_
    refine Ap.is (t:=5) rf<|Ap.is (t:=6) rf<|Ap.is (t:=7) rf<|Ap.is (t:=8) rf<|Ap.is (t:=9) rf<|Ap.is (t:=11) rf<|Ap.is (t:=14) rf<|Ap.is (t:=63) rf ?_
    refine Ap.is (t:=64) rf<|Ap.is (t:=65) rf<|Ap.is (t:=134) rf<|Ap.JB<|Aa.Af<|Wp.C2 rf ?_
    obtain⟨x19,hx19,hd⟩:=Ae hd
    have hx19_:=Ah hx19
    obtain⟨ha18,hd⟩:=Al hd
    have:=ha18
    obtain⟨x20,hx20,hd⟩:=Ae hd
    obtain⟨ha19,hd⟩:=Al hd
    have hr17:=ha19.1;have hr18:=ha19.2
    obtain⟨ha20,hd⟩:=Al hd
    obtain⟨ha21,hd⟩:=Al hd
    obtain⟨_,rfl,hc16⟩:=AW.get (hv1.mono ((((hl1.trans hl2).trans hl3).trans hl4).trans hl5)) hx19
    refine Wp.emp<|Aj.runK 9 [AU,⟨[2],[],[]⟩,AU,AU,AU,⟨[8],[],[]⟩,AU,AU,AU,AU,AU,AU,⟨[8],[],[]⟩,AU,AU,⟨[5],[],[]⟩,AU,⟨[0],[0],[17]⟩,⟨[0,1],[1],[18]⟩,AU,⟨[2],[2],[18]⟩] follows rf (by kernel_rfl)<|Aj.op (val:=fun p4=>(ptr (BI (p1 11)) 1)) rf rf (fun _=>rfl) (fun _ p4 _ hx hf hy=>Ab.AV (o':=1) Bv rf rf) rf<|Aj.op (val:=fun p4=>v12) rf rf (fun _=>rfl) (fun _ p4 _ hx hf hy=>Ab.Am (i:=2) (v:=v12) CC rf rf (hy 2 _ rf rf) rf) rf<|Aj.op (val:=fun p4=>(ptr B0 0)) rf rf (fun _=>rfl) (fun _ p4 _ hx hf hy=>Ab.move rf) rf<|Aj.op (val:=fun p4=>(ptr B0 0)) rf rf (fun _=>rfl) (fun _ p4 _ hx hf hy=>Ab.nilCheck rf) rf<|Aj.op (val:=fun p4=>(ptr B0 0)) rf rf (fun _=>rfl) (fun _ p4 _ hx hf hy=>Ab.AV (o':=0) IQ rf rf) rf<|Aj.op (val:=fun p4=>v1) rf rf (fun _=>rfl) (fun _ p4 _ hx hf hy=>Ab.Am (i:=8) (v:=v1) BF rf rf (hy 8 _ rf rf) rf) rf ?_
    refine Aj.op (val:=fun p4=>(.int .i64 (k2:Int))) rf rf (fun _=>rfl) (fun _ p4 _ hx hf hy=>Ab.move rf) rf<|Aj.op (val:=fun p4=>(A2 v1 (k2*1))) rf rf (fun _=>rfl) (fun _ p4 _ hx hf hy=>Ab.Bo BF Cp rf (hv1.mono (((((hl1.trans hl2).trans hl3).trans hl4).trans hl5).trans hx)).sl rf (Ah hx19)) rf<|Aj.op (val:=fun p4=>(.int .i64 x19)) rf rf (fun _=>rfl) (fun _ p4 _ hx hf hy=>Ab.FJ u3 rf rf ((hc16 0 _ rf).mono hx)) rf<|Aj.op (val:=fun p4=>(.int .u8 x19)) rf rf (fun _=>rfl) (fun _ p4 _ hx hf hy=>Ab.conv u3 u5 rf (Cm ha18)) rf<|Aj.op (val:=fun p4=>(ptr B0 0)) rf rf (fun _=>rfl) (fun _ p4 _ hx hf hy=>Ab.move rf) rf<|Aj.op (val:=fun p4=>(.int .i64 (k2:Int))) rf rf (fun _=>rfl) (fun _ p4 _ hx hf hy=>Ab.move rf) rf<|Aj.op (val:=fun p4=>(.int .u8 x20)) rf rf (fun _=>rfl) (fun _ p4 _ hx hf hy=>Ab.call Sp rf (Ca.at 8 (hy 8 _ rf rf) (FL (hv1.mono (((((hl1.trans hl2).trans hl3).trans hl4).trans hl5).trans hx)) (hv2.mono (((((hl1.trans hl2).trans hl3).trans hl4).trans hl5).trans hx)) (hv3.mono (((((hl1.trans hl2).trans hl3).trans hl4).trans hl5).trans hx)) (hv4.mono (((((hl1.trans hl2).trans hl3).trans hl4).trans hl5).trans hx)) hx20))) rf<|Aj.op (val:=fun p4=>(.map (some B3))) rf rf (fun _=>rfl) (fun _ p4 _ hx hf hy=>Ab.move rf) rf ?_
    refine Aj.op (val:=fun p4=>(.int .i64 x10)) rf rf (fun _=>rfl) (fun _ p4 _ hx hf hy=>Ab.move rf) rf<|Aj.op (val:=fun p4=>(.int .i64 ((AQ m7 x10).getD 0))) rf rf (fun _=>rfl) (fun _ p4 _ hx hf hy=>Ab.lookup (K:=(Qf u3)) (M:=(I7 u3)) (i:=5) (k:=x10) (z:=0) WT Cp (show C0 0 by decide) rf rf ha20 (hy 5 _ rf rf)) rf<|Aj.op (val:=fun p4=>(.agg #[(.int .u8 x19),(.int .u8 x20),(.int .i64 ((AQ m7 x10).getD 0))])) rf rf (fun _=>rfl) (fun _ p4 _ hx hf hy=>Ab.Bi (vs:=[(0,(.int .u8 x19)),(1,(.int .u8 x20)),(2,(.int .i64 ((AQ m7 x10).getD 0)))]) (cs:= #[(.int .u8 x19),(.int .u8 x20),(.int .i64 ((AQ m7 x10).getD 0))]) Ho BA rf rf (AJ rf (AJ rf (AJ rf (Bd)))) rf) rf<|Aj.Hs (res:=fun p4=> .row (p4 17) 46 3 1 [(.int .u8 x19),(.int .u8 x20),(.int .i64 ((AQ m7 x10).getD 0))]) 0 rf rf rf (fun _=>rfl) (fun _ p4 _ hx hf hy=>BC.EO (v:=(.agg #[(.int .u8 x19),(.int .u8 x20),(.int .i64 ((AQ m7 x10).getD 0))])) (cs:=[(.int .u8 x19),(.int .u8 x20),(.int .i64 ((AQ m7 x10).getD 0))]) 0 CC BA rf rf rf rf rf (hy 0 _ rf rf)) rf (fun _=>⟨_,_,_,_,rf⟩)<|Aj.Hs (res:=fun p4=> .row (p4 18) 46 3 (l4.length+1) (xs5++[(.int .u8 x19),(.int .u8 x20),(.int .i64 ((AQ m7 x10).getD 0))])) 1 rf rf rf (fun _=>rfl) (fun _ p4 _ hx hf hy=>BC.M' 1 0 CC BA rf rf rf rf (hy 1 _ rf rf) (hy 0 _ rf rf) (Ac rf (Ac rf (Ac rf (As)))) rf ha21) rf (fun _=>⟨_,_,_,_,rf⟩)<|Aj.op (val:=fun p4=>(ptr (BI (p1 11)) 1)) rf rf (fun _=>rfl) (fun _ p4 _ hx hf hy=>Ab.AV (o':=1) Bv rf rf) rf<|Aj.Kr (res:=fun p4=> .AM (BI (p1 11)) (.cells #[(.bool x6),(p4 18)] 43 (0,0))) 2 rf rf rf (fun _=>rfl) (fun _ p4 _ hx hf hy=>BC.VQ (vs:=[(p4 18)]) rf rf (DZ (hf 18 rf rf)) Mg rf (Ac (hf 18 rf rf) (As)) (hy 2 _ rf rf) rf rf)<|Aj.done fun H8 p4 hl8 hF4=>?_
    refine At.sub (L':=[(0,(ptr B0 0)),(2,(ptr B2 0)),(3,v6),(4,v13),(5,(.map (some B3))),(6,(ptr B4 0)),(7,(.int .i64 (k1:Int))),(8,(ptr (BI (p1 11)) 0)),(63,v10),(64,(.int .i64 (x8.length:Int))),(65,(.int .i64 (k2:Int)))]) (Sub.of rf) ?_
    refine At.own (O:= .row (p4 17) 46 3 ([(x19,x20,(AQ m7 x10).getD 0)]:List (Int×Int×Int)).length [(.int .u8 x19),(.int .u8 x20),(.int .i64 ((AQ m7 x10).getD 0))]:: .row (p4 18) 46 3 (l4++([(x19,x20,(AQ m7 x10).getD 0)]:List (Int×Int×Int))).length (xs5++[(.int .u8 x19),(.int .u8 x20),(.int .i64 ((AQ m7 x10).getD 0))]):: .AM (BI (p1 11)) (.cells #[(.bool x6),(p4 18)] 43 (0,0)):: .row v9 43 2 l2.length xs3:: .AM B4 (.cells #[v9] 26 (0,0))::Es (Qf u3) (I7 u3) B3 m7:: .row v13 3 1 l5.length xs6:: .AM B2 (.cells #[(.slice none 0 0)] 26 (0,0)):: .AM B0 (.cells #[v1,v2,v3,v4] 84 (0,0))::O) ?_ (by first|rfl|(simp only[List.length_append,List.length_set];rfl)|simp)
    have hq11:Au (cP AZ (cP AZ Ao)) H8 (l4++([(x19,x20,(AQ m7 x10).getD 0)]:List (Int×Int×Int))) (xs5++[(.int .u8 x19),(.int .u8 x20),(.int .i64 ((AQ m7 x10).getD 0))]):=(Au.app (hq5.mono (hl5.trans hl8)) (Au.Kj (c:=(cP AZ (cP AZ Ao))) (a:=(x19,x20,(AQ m7 x10).getD 0)) (cs:=[(.int .u8 x19),(.int .u8 x20),(.int .i64 ((AQ m7 x10).getD 0))]) (⟨[(.int .u8 x19)],[(.int .u8 x20),(.int .i64 ((AQ m7 x10).getD 0))],rfl,⟨rfl,(show(0:Int)≤x19 by omega),(show x19≤(255:Int) by omega)⟩,⟨[(.int .u8 x20)],[(.int .i64 ((AQ m7 x10).getD 0))],rfl,⟨rfl,(show(0:Int)≤x20 by omega),(show x20≤(255:Int) by omega)⟩,rfl⟩⟩)))
    refine At.AR [1,2,3,4,5,6,7,8] 9 rf rf rf<|At.AE<|At.Ad<|Wp.region<|Aa.op (Ab.add rf rf (Aq (by omega))) rf<|Aa.op (Ab.move rf) rf<|Aa.nil ?_
    refine At.AO (hl5.trans hl8) ⟨l5,(l4++([(x19,x20,(AQ m7 x10).getD 0)]:List (Int×Int×Int))),m7,(k2+1),v13,xs6,(p4 18),xs5++[(.int .u8 x19),(.int .u8 x20),(.int .i64 ((AQ m7 x10).getD 0))],rf,rf,(by rw[←hn2];exact hd),(hq8.mono hl8),hq11⟩ (Sub.of rf)
   obtain⟨hg1_,hd⟩:=bF hg1 hd
   refine Wp.CV 34 follows rf (by kernel_rfl)<|Ag.A6 (Ab.move rf) rf<|Ag.A6 (Ab.Bg (b:=decide (0<(l4.length:Int))) (c:=false) (Ab.gtr rf rf) hg1) rf<|Ag.A6 (Ab.move rf) rf<|Ag.Aw rf rf rf rf<|Ag.Aw rf rf rf rf<|Ag.Aw rf rf rf rf<|Ag.Aw rf rf rf rf ?_
   refine Ag.Aw rf rf rf rf<|Ag.Aw rf rf rf rf<|Ag.Aw rf rf rf rf<|Ag.Aw rf rf rf rf<|Ag.Aw rf rf rf rf<|Ag.Aw rf rf rf rf<|Ag.Aw rf rf rf rf<|Ag.A6 (Ab.AA rf rf) rf ?_
   refine Ag.A6 (Ab.move rf) rf<|Ag.Aw rf rf rf rf<|Ag.Aw rf rf rf rf<|Ag.Aw rf rf rf rf<|Ag.Aw rf rf rf rf<|Ag.Aw rf rf rf rf<|Ag.Aw rf rf rf rf<|Ag.Aw rf rf rf rf ?_
   refine Ag.Aw rf rf rf rf<|Ag.Aw rf rf rf rf<|Ag.Aw rf rf rf rf<|Ag.Aw rf rf rf rf<|Ag.Aw rf rf rf rf<|Ag.Aw rf rf rf rf<|Ag.Aw rf rf rf rf<|Ag.Aw rf rf rf rf ?_
   refine Ag.Aw rf rf rf rf<|Ag.Aw rf rf rf rf<|Ag.A6 (Ab.AA rf rf) rf<|Ag.CW<|Ap.is (t:=0) rf<|Ap.is (t:=2) rf<|Ap.is (t:=3) rf<|Ap.is (t:=4) rf ?_
   refine Ap.is (t:=5) rf<|Ap.is (t:=6) rf<|Ap.is (t:=7) rf<|Ap.is (t:=8) rf<|Ap.is (t:=9) rf<|Ap.is (t:=11) rf<|Ap.is (t:=14) rf<|Ap.is (t:=63) rf ?_
   refine Ap.is (t:=64) rf<|Ap.is (t:=65) rf<|Ap.is (t:=134) rf<|Ap.JB<|Aa.Af<|Wp.C2 rf ?_
   obtain⟨x21,hx21,hd⟩:=Ae hd
   have hx21_:=Ah hx21
   obtain⟨ha22,hd⟩:=Al hd
   have:=ha22
   obtain⟨x22,hx22,hd⟩:=Ae hd
   obtain⟨ha23,hd⟩:=Al hd
   have hr19:=ha23.1;have hr20:=ha23.2
   obtain⟨ha24,hd⟩:=Al hd
   obtain⟨ha25,hd⟩:=Al hd
   obtain⟨_,rfl,hc17⟩:=AW.get (hv1.mono ((((hl1.trans hl2).trans hl3).trans hl4).trans hl5)) hx21
   refine Wp.emp<|Aj.runK 9 [AU,⟨[2],[],[]⟩,AU,AU,AU,⟨[8],[],[]⟩,AU,AU,AU,AU,AU,AU,⟨[8],[],[]⟩,AU,AU,⟨[5],[],[]⟩,AU,⟨[0],[0],[17]⟩,⟨[0,1],[1],[18]⟩,AU,⟨[2],[2],[18]⟩] follows rf (by kernel_rfl)<|Aj.op (val:=fun p5=>(ptr (BI (p1 11)) 1)) rf rf (fun _=>rfl) (fun _ p5 _ hx hf hy=>Ab.AV (o':=1) Bv rf rf) rf<|Aj.op (val:=fun p5=>v12) rf rf (fun _=>rfl) (fun _ p5 _ hx hf hy=>Ab.Am (i:=2) (v:=v12) CC rf rf (hy 2 _ rf rf) rf) rf<|Aj.op (val:=fun p5=>(ptr B0 0)) rf rf (fun _=>rfl) (fun _ p5 _ hx hf hy=>Ab.move rf) rf<|Aj.op (val:=fun p5=>(ptr B0 0)) rf rf (fun _=>rfl) (fun _ p5 _ hx hf hy=>Ab.nilCheck rf) rf<|Aj.op (val:=fun p5=>(ptr B0 0)) rf rf (fun _=>rfl) (fun _ p5 _ hx hf hy=>Ab.AV (o':=0) IQ rf rf) rf<|Aj.op (val:=fun p5=>v1) rf rf (fun _=>rfl) (fun _ p5 _ hx hf hy=>Ab.Am (i:=8) (v:=v1) BF rf rf (hy 8 _ rf rf) rf) rf ?_
   refine Aj.op (val:=fun p5=>(.int .i64 (k2:Int))) rf rf (fun _=>rfl) (fun _ p5 _ hx hf hy=>Ab.move rf) rf<|Aj.op (val:=fun p5=>(A2 v1 (k2*1))) rf rf (fun _=>rfl) (fun _ p5 _ hx hf hy=>Ab.Bo BF Cp rf (hv1.mono (((((hl1.trans hl2).trans hl3).trans hl4).trans hl5).trans hx)).sl rf (Ah hx21)) rf<|Aj.op (val:=fun p5=>(.int .i64 x21)) rf rf (fun _=>rfl) (fun _ p5 _ hx hf hy=>Ab.FJ u3 rf rf ((hc17 0 _ rf).mono hx)) rf<|Aj.op (val:=fun p5=>(.int .u8 x21)) rf rf (fun _=>rfl) (fun _ p5 _ hx hf hy=>Ab.conv u3 u5 rf (Cm ha22)) rf<|Aj.op (val:=fun p5=>(ptr B0 0)) rf rf (fun _=>rfl) (fun _ p5 _ hx hf hy=>Ab.move rf) rf<|Aj.op (val:=fun p5=>(.int .i64 (k2:Int))) rf rf (fun _=>rfl) (fun _ p5 _ hx hf hy=>Ab.move rf) rf<|Aj.op (val:=fun p5=>(.int .u8 x22)) rf rf (fun _=>rfl) (fun _ p5 _ hx hf hy=>Ab.call Sp rf (Ca.at 8 (hy 8 _ rf rf) (FL (hv1.mono (((((hl1.trans hl2).trans hl3).trans hl4).trans hl5).trans hx)) (hv2.mono (((((hl1.trans hl2).trans hl3).trans hl4).trans hl5).trans hx)) (hv3.mono (((((hl1.trans hl2).trans hl3).trans hl4).trans hl5).trans hx)) (hv4.mono (((((hl1.trans hl2).trans hl3).trans hl4).trans hl5).trans hx)) hx22))) rf<|Aj.op (val:=fun p5=>(.map (some B3))) rf rf (fun _=>rfl) (fun _ p5 _ hx hf hy=>Ab.move rf) rf ?_
   refine Aj.op (val:=fun p5=>(.int .i64 x10)) rf rf (fun _=>rfl) (fun _ p5 _ hx hf hy=>Ab.move rf) rf<|Aj.op (val:=fun p5=>(.int .i64 ((AQ m7 x10).getD 0))) rf rf (fun _=>rfl) (fun _ p5 _ hx hf hy=>Ab.lookup (K:=(Qf u3)) (M:=(I7 u3)) (i:=5) (k:=x10) (z:=0) WT Cp (show C0 0 by decide) rf rf ha24 (hy 5 _ rf rf)) rf<|Aj.op (val:=fun p5=>(.agg #[(.int .u8 x21),(.int .u8 x22),(.int .i64 ((AQ m7 x10).getD 0))])) rf rf (fun _=>rfl) (fun _ p5 _ hx hf hy=>Ab.Bi (vs:=[(0,(.int .u8 x21)),(1,(.int .u8 x22)),(2,(.int .i64 ((AQ m7 x10).getD 0)))]) (cs:= #[(.int .u8 x21),(.int .u8 x22),(.int .i64 ((AQ m7 x10).getD 0))]) Ho BA rf rf (AJ rf (AJ rf (AJ rf (Bd)))) rf) rf<|Aj.Hs (res:=fun p5=> .row (p5 17) 46 3 1 [(.int .u8 x21),(.int .u8 x22),(.int .i64 ((AQ m7 x10).getD 0))]) 0 rf rf rf (fun _=>rfl) (fun _ p5 _ hx hf hy=>BC.EO (v:=(.agg #[(.int .u8 x21),(.int .u8 x22),(.int .i64 ((AQ m7 x10).getD 0))])) (cs:=[(.int .u8 x21),(.int .u8 x22),(.int .i64 ((AQ m7 x10).getD 0))]) 0 CC BA rf rf rf rf rf (hy 0 _ rf rf)) rf (fun _=>⟨_,_,_,_,rf⟩)<|Aj.Hs (res:=fun p5=> .row (p5 18) 46 3 (l4.length+1) (xs5++[(.int .u8 x21),(.int .u8 x22),(.int .i64 ((AQ m7 x10).getD 0))])) 1 rf rf rf (fun _=>rfl) (fun _ p5 _ hx hf hy=>BC.M' 1 0 CC BA rf rf rf rf (hy 1 _ rf rf) (hy 0 _ rf rf) (Ac rf (Ac rf (Ac rf (As)))) rf ha25) rf (fun _=>⟨_,_,_,_,rf⟩)<|Aj.op (val:=fun p5=>(ptr (BI (p1 11)) 1)) rf rf (fun _=>rfl) (fun _ p5 _ hx hf hy=>Ab.AV (o':=1) Bv rf rf) rf<|Aj.Kr (res:=fun p5=> .AM (BI (p1 11)) (.cells #[(.bool x6),(p5 18)] 43 (0,0))) 2 rf rf rf (fun _=>rfl) (fun _ p5 _ hx hf hy=>BC.VQ (vs:=[(p5 18)]) rf rf (DZ (hf 18 rf rf)) Mg rf (Ac (hf 18 rf rf) (As)) (hy 2 _ rf rf) rf rf)<|Aj.done fun H9 p5 hl9 hF5=>?_
   refine At.sub (L':=[(0,(ptr B0 0)),(2,(ptr B2 0)),(3,v6),(4,v13),(5,(.map (some B3))),(6,(ptr B4 0)),(7,(.int .i64 (k1:Int))),(8,(ptr (BI (p1 11)) 0)),(63,v10),(64,(.int .i64 (x8.length:Int))),(65,(.int .i64 (k2:Int)))]) (Sub.of rf) ?_
   refine At.own (O:= .row (p5 17) 46 3 ([(x21,x22,(AQ m7 x10).getD 0)]:List (Int×Int×Int)).length [(.int .u8 x21),(.int .u8 x22),(.int .i64 ((AQ m7 x10).getD 0))]:: .row (p5 18) 46 3 (l4++([(x21,x22,(AQ m7 x10).getD 0)]:List (Int×Int×Int))).length (xs5++[(.int .u8 x21),(.int .u8 x22),(.int .i64 ((AQ m7 x10).getD 0))]):: .AM (BI (p1 11)) (.cells #[(.bool x6),(p5 18)] 43 (0,0)):: .row v9 43 2 l2.length xs3:: .AM B4 (.cells #[v9] 26 (0,0))::Es (Qf u3) (I7 u3) B3 m7:: .row v13 3 1 l5.length xs6:: .AM B2 (.cells #[(.slice none 0 0)] 26 (0,0)):: .AM B0 (.cells #[v1,v2,v3,v4] 84 (0,0))::O) ?_ (by first|rfl|(simp only[List.length_append,List.length_set];rfl)|simp)
   have hq12:Au (cP AZ (cP AZ Ao)) H9 (l4++([(x21,x22,(AQ m7 x10).getD 0)]:List (Int×Int×Int))) (xs5++[(.int .u8 x21),(.int .u8 x22),(.int .i64 ((AQ m7 x10).getD 0))]):=(Au.app (hq5.mono (hl5.trans hl9)) (Au.Kj (c:=(cP AZ (cP AZ Ao))) (a:=(x21,x22,(AQ m7 x10).getD 0)) (cs:=[(.int .u8 x21),(.int .u8 x22),(.int .i64 ((AQ m7 x10).getD 0))]) (⟨[(.int .u8 x21)],[(.int .u8 x22),(.int .i64 ((AQ m7 x10).getD 0))],rfl,⟨rfl,(show(0:Int)≤x21 by omega),(show x21≤(255:Int) by omega)⟩,⟨[(.int .u8 x22)],[(.int .i64 ((AQ m7 x10).getD 0))],rfl,⟨rfl,(show(0:Int)≤x22 by omega),(show x22≤(255:Int) by omega)⟩,rfl⟩⟩)))
   refine At.AR [1,2,3,4,5,6,7,8] 9 rf rf rf<|At.AE<|At.Ad<|Wp.region<|Aa.op (Ab.add rf rf (Aq (by omega))) rf<|Aa.op (Ab.move rf) rf<|Aa.nil ?_
   refine At.AO (hl5.trans hl9) ⟨l5,(l4++([(x21,x22,(AQ m7 x10).getD 0)]:List (Int×Int×Int))),m7,(k2+1),v13,xs6,(p5 18),xs5++[(.int .u8 x21),(.int .u8 x22),(.int .i64 ((AQ m7 x10).getD 0))],rf,rf,(by rw[←hn2];exact hd),(hq8.mono hl9),hq12⟩ (Sub.of rf)
  obtain⟨hb5,hd⟩:=bF hb5 hd
  refine Wp.exit<|At.An<|At.An<|At.Az<|At.Ad ?_
  obtain⟨ha26,hd⟩:=Al hd
  refine Wp.region<|Aa.op (Ab.AV (o':=0) Ck rf rf) rf<|Aa.op (Ab.Am (i:=3) (v:=v9) CG rf rf rf rf) rf<|Aa.op (Ab.AF (i:=1) NA rf Bl rf rf rf) rf ?_
  refine Aa.A7 (i:=0) rf fun hb11=>?_
  refine Aa.freeze (i:=0) rf fun H10 hl10 hs1=>?_
  have hv7:=AW.of (c:=(cP AZ (cP AZ Ao))) hs1 rfl (hq5.mono hl10) hb11
  refine Aa.A1 (c:=(cP cB (cL (cP AZ (cP AZ Ao))))) (y:=(x6,l4)) (cs:=[(.bool x6),v12]) CG Bl rf rf rf rf (⟨[(.bool x6)],[v12],rf,rf,⟨_,rf,hv7⟩⟩) rf fun v16 xs9 hq13=>Aa.Df (i:=2) (j:=0) (hq3.mono ((hl3.trans hl4).trans hl10)) hq13 CG Bl rf (by decide) rf rf rf rf (by decide) ha26 rf fun v17 xs10 hq14=>Aa.drop (i:=0)<|Aa.op (Ab.AV (o':=0) Ck rf rf) rf<|Aa.Bm (i:=1) rf fun ho1=>Aa.Cc (i:=2) rf rf ho1 VP rf (Nat.le_of_ble_eq_true rf) ?_
  refine Aa.own (O:=_::_::_::_::_::_::_::_) ?_ rf
  refine Aa.nil<|At.AE<|At.Ad<|Wp.region<|Aa.op (Ab.move rf) rf<|Aa.op (Ab.add rf rf (Aq (by omega))) rf<|Aa.op (Ab.assign rf) rf<|Aa.nil ?_
  refine At.AR [1,2,3,4,5,6] 7 rf rf rf ?_
  refine At.AO ((hl3.trans hl4).trans hl10) ⟨l3,(l2++([(x6,l4)]:List (Bool×(List (Int×Int×Int))))),m4,(k1+1),v11,xs4,v17,xs10,rf,rf,(by rw[←hn1];exact hd),(hq4.mono hl10),hq14⟩ (Sub.of rf)
 obtain⟨hb3,hd⟩:=bF hb3 hd
 refine Wp.exit<|At.An<|At.An<|At.Az<|At.Ad<|Wp.sr<|Aa.op (Ab.AF (i:=1) Eo rf A5 rf rf rf) rf<|Aa.Bm (i:=0) rf fun ho2=>?_
 refine Aa.AP (i:=4) (cs':= #[v9]) rf rf A5 rf rf (Bc (Ac ho2 (As))) rf ?_
 refine Aa.own (O:=_::_::_::_::_::_::_) ?_ rf
 refine Aa.Af<|Wp.ret ?_
 refine At.A7 (i:=0) rf fun hb12=>?_
 refine At.freeze (i:=0) rf fun H11 hl11 hs2=>?_
 have hv8:=AW.of (c:=(cP cB (cL (cP AZ (cP AZ Ao))))) hs2 rfl (hq3.mono hl11) hb12
 obtain rfl:=si hd
 exact At.DB rf (RV.C' (i:=3) rf Eo rf A5 rf rf) (fun w hs=>⟨_,_,_,rf,((hl1.trans hl2).trans hl11),(hs.AR [4] 5 rf rf rf),⟨⟨v9,rf,hv8⟩,rf⟩⟩)
theorem Jj{fu:Nat}{a0:(List Int)×(List (List Int))×(List Bool)×(List Int)}{a1:Int}{v1 v2 v3 v4:Value}{B0:Nat}{r:Cb}(hv1:AW Ao H a0.1 v1)(hv2:AW (cL Ao) H a0.2.1 v2)(hv3:AW cB H a0.2.2.1 v3)(hv4:AW Ao H a0.2.2.2 v4)(hG:E1 Tryz.prog H)(hd:Da fu a0 a1=some r):
   Ca Tryz.prog 49 [(ptr B0 0),(.int .i64 a1)] H (.AM B0 (.cells #[v1,v2,v3,v4] 84 (0,0))::O) (sv r):=by
 intro w hs
 refine Bz Tryz.func49 rf rf rf ?_ hs
 clear hs w
 unfold Da at hd
 refine Wp.sr<|Aa.op (Ab.assign rf) rf<|Aa.Af<|Wp.sr<|Aa.alloc (cs:= #[.pointer none, .slice none 0 0]) WU rf rf fun B2=>Aa.BG 5 1 ?_
 have hB10:Jn H B2 (.pointer none) (.slice none 0 0) [] []:=Jn.new
 refine Aa.Af<|Wp.seq ?_
 obtain⟨x1,hx1,hd⟩:=Ae hd
 have hx1_:=Ah hx1
 obtain⟨ha1,hd⟩:=Al hd
 obtain⟨ha2,hd⟩:=Al hd
 refine Wp.region<|Aa.op (Ab.move rf) rf<|Aa.op (Ab.nilCheck rf) rf<|Aa.op (Ab.AV (o':=3) Hv rf rf) rf<|Aa.op (Ab.Am (i:=2) (v:=v4) BF rf rf rf rf) rf<|Aa.op (Ab.move rf) rf ?_
 obtain⟨_,rfl,hc1⟩:=AW.get hv4 hx1
 refine Aa.op (Ab.Bo BF Cp rf hv4.sl rf (Ah hx1)) rf<|Aa.op (Ab.FJ u3 rf rf (hc1 0 _ rf)) rf<|Aa.op (Ab.call US rf (UB hG ha1)) rf<|Aa.AR [1,0,2] 3 rf rf rf<|Aa.E8 (BC.call UT rf (Vg hB10 ha2)) rf ?_
 rintro _ H1 _ hl1 ⟨v5,xs1,rfl,hB20,rfl⟩
 refine Aa.Af<|Wp.seq<|Wp.seq ?_
 obtain⟨x2,hx2,hd⟩:=Ae hd
 have hx2_:=Ah hx2
 refine Wp.region<|Aa.op (Ab.move rf) rf<|Aa.op (Ab.nilCheck rf) rf<|Aa.op (Ab.AV (o':=1) GU rf rf) rf<|Aa.op (Ab.Am (i:=2) (v:=v2) Ey rf rf rf rf) rf<|Aa.op (Ab.move rf) rf ?_
 obtain⟨_,⟨v6,rfl,hv5⟩,hc2⟩:=AW.get (hv2.mono hl1) hx2
 refine Aa.op (Ab.Bo Ey Dx rf (hv2.mono hl1).sl rf (Ah hx2)) rf<|Aa.op (Ab.FJ BF rf rf (hc2 0 _ rf)) rf ?_
 have hb1:=hv5.le
 refine Aa.op (Ab.len BF rf hv5.sl) rf<|Aa.op (Ab.move rf) rf<|Aa.Af<|Wp.block<|Wp.A_ (fun m LL HH OO=> ∃(l1:Cb),∃(k1:Nat),∃(a30:Value),∃(v7:Value),∃(xs2:List Value),[(0,(ptr B0 0)),(5,(ptr B2 0)),(23,v6),(24,(.int .i64 (x2.length:Int))),(25,(.int .i64 (k1:Int)))]=LL∧ .AM B2 (.cells #[a30,v7] 123 (0,0)):: .row v7 5 1 l1.length xs2:: .AM B0 (.cells #[v1,v2,v3,v4] 84 (0,0))::O=OO∧Ax m (fun p nx=>Ci fu a0 x2 p.1 p.2 nx) (l1,k1)=some r∧Jn HH B2 a30 v7 l1 xs2) fu ⟨(([]:Cb)++(Lib.itoa x1)),0,(ptr B2 0),v5,xs1,rf,rf,hd,hB20⟩ (Sub.of rf) ?_
 intro m1 L1 H2 O1 hl2 hI1
 obtain⟨l1,k1,a30,v7,xs2,rfl,rfl,hd,hB69⟩:=hI1
 obtain⟨m2,nx1,rfl,hn1,hd⟩:=A9 hd
 replace hd:Ci fu a0 x2 l1 k1 nx1=some r:=hd
 unfold Ci at hd
 refine Wp.sr<|Aa.op (Ab.lss rf rf) rf<|Aa.Af<|Wp.seq ?_
 refine Wp.cond rf (fun hb2=>?_) (fun hb2=>?_)
 ·
  obtain⟨hb2,hd⟩:=bT hb2 hd
  refine Wp.skip<|At.Ad<|Wp.seq<|Wp.block<|Wp.seq ?_
  obtain⟨x3,hx3,hd⟩:=Ae hd
  have hx3_:=Ah hx3
  refine Wp.region ?_
  obtain⟨_,rfl,hc3⟩:=AW.get (hv5.mono hl2) hx3
  refine Aa.op (Ab.Bo BF Cp rf (hv5.mono hl2).sl rf (Ah hx3)) rf<|Aa.op (Ab.FJ u3 rf rf (hc3 0 _ rf)) rf<|Aa.op (Ab.assign rf) rf<|Aa.Af ?_
  obtain⟨x4,hx4,hd⟩:=Ae hd
  have hx4_:=Ah hx4
  obtain⟨ha3,hd⟩:=Al hd
  obtain⟨ha4,hd⟩:=Al hd
  obtain⟨ha5,hd⟩:=Al hd
  refine Wp.region<|Aa.op (Ab.move rf) rf<|Aa.op (Ab.nilCheck rf) rf<|Aa.op (Ab.AV (o':=3) Hv rf rf) rf<|Aa.op (Ab.Am (i:=2) (v:=v4) BF rf rf rf rf) rf<|Aa.op (Ab.move rf) rf ?_
  obtain⟨_,rfl,hc4⟩:=AW.get (hv4.mono (hl1.trans hl2)) hx4
  refine Aa.op (Ab.Bo BF Cp rf (hv4.mono (hl1.trans hl2)).sl rf (Ah hx4)) rf<|Aa.op (Ab.FJ u3 rf rf (hc4 0 _ rf)) rf<|Aa.op (Ab.call US rf (UB (hG.mono (hl1.trans hl2)) ha3)) rf<|Aa.op (Ab.Vd rf rf ha4) rf<|Aa.E8 (BC.call UT rf (Vg hB69 ha5)) rf ?_
  rintro _ H3 _ hl3 ⟨v8,xs3,rfl,hB93,rfl⟩
  refine Aa.nil<|At.AE<|At.Ad<|Wp.region<|Aa.op (Ab.add rf rf (Aq (by omega))) rf<|Aa.op (Ab.move rf) rf<|Aa.nil ?_
  refine At.AO hl3 ⟨(l1++(([44]:Cb)++(Lib.itoa x4))),(k1+1),(ptr B2 0),v8,xs3,rf,rf,(by rw[←hn1];exact hd),hB93⟩ (Sub.of rf)
 obtain⟨hb2,hd⟩:=bF hb2 hd
 refine Wp.exit<|At.An<|At.An<|At.Az<|At.Ad<|Wp.sr<|Aa.E8 (BC.call W4 rf (Xf hB69)) rf ?_
 rintro _ H4 _ hl4 ⟨rfl,rfl⟩
 refine Aa.op (Ab.assign rf) rf<|Aa.Af<|Wp.ret ?_
 obtain rfl:=si hd
 exact At.DB rf (RV.tmp (v:=(sv l1)) rf) (fun w hs=>⟨rf,(hs.AR [0] 1 rf rf rf).weaken ((hl1.trans hl2).trans hl4)⟩)
theorem KQ{fu:Nat}{a0:(List Int)×(List (List Int))×(List Bool)×(List Int)}{v1 v2 v3 v4:Value}{B0:Nat}{r:(List Int)×(List (List Int))×(List Bool)×(List Int)}(hv1:AW Ao H a0.1 v1)(hv2:AW (cL Ao) H a0.2.1 v2)(hv3:AW cB H a0.2.2.1 v3)(hv4:AW Ao H a0.2.2.2 v4)(hG:E1 Tryz.prog H)(hd:Em fu a0=some r):
    ED Tryz.prog 25 [(ptr B0 0)] H (.AM B0 (.cells #[v1,v2,v3,v4] 84 (0,0))::O) (fun v H' O'=> ∃r',(∃v5:Value,∃v6:Value,∃v7:Value,∃v8:Value,(.tuple #[])=v∧AW Ao H' r.1 v5∧AW (cL Ao) H' r.2.1 v6∧AW cB H' r.2.2.1 v7∧AW Ao H' r.2.2.2 v8∧ .AM B0 (.cells #[v5,v6,v7,v8] 84 (0,0))=r')∧r'::O=O'):=by
 intro w hs
 refine Bz Tryz.func25 rf rf rf ?_ hs
 clear hs w
 unfold Em at hd
 refine Wp.scope<|Wp.seq ?_
 obtain⟨ha1,hd⟩:=Al hd
 refine Wp.region<|Aa.op (Ab.move rf) rf<|Aa.op (Ab.move rf) rf<|Aa.op (Ab.nilCheck rf) rf<|Aa.op (Ab.AV (o':=1) GU rf rf) rf<|Aa.op (Ab.Am (i:=0) (v:=v2) Ey rf rf rf rf) rf ?_
 have hb1:=hv2.le
 refine Aa.op (Ab.len Ey rf hv2.sl) rf<|Aa.JL (c:=Ao) (z:=0) (m:=a0.2.1.length) BF Cp rf rf ha1 (rf) rf rf rf fun v9 xs1 hq1=>Aa.op (Ab.nilCheck rf) rf<|Aa.op (Ab.AV (o':=3) Hv rf rf) rf<|Aa.Bm (i:=0) rf fun ho1=>Aa.Cc (i:=1) rf rf ho1 Dx rf (Nat.le_of_ble_eq_true rf) ?_
 refine Aa.own (O:=_::_::_) ?_ rf
 refine Aa.Af<|Wp.seq<|Wp.sr<|Aa.op (Ab.move rf) rf<|Aa.op (Ab.nilCheck rf) rf<|Aa.op (Ab.AV (o':=2) J8 rf rf) rf<|Aa.op (Ab.Am (i:=1) (v:=v3) GX rf rf rf rf) rf ?_
 have hb2:=hv3.le
 refine Aa.op (Ab.len GX rf hv3.sl) rf<|Aa.op (Ab.move rf) rf<|Aa.Af<|Wp.block<|Wp.A_ (fun m LL HH OO=> ∃(l1:List Int),∃(k1:Nat),∃(v10:Value),∃(xs2:List Value),[(0,(ptr B0 0)),(24,v3),(25,(.int .i64 (a0.2.2.1.length:Int))),(26,(.int .i64 (k1:Int)))]=LL∧ .row v10 3 1 l1.length xs2:: .AM B0 (.cells #[v1,v2,v3,v10] 84 (0,0))::O=OO∧Ax m (fun p nx=>CJ fu a0 p.1 p.2 nx) (l1,k1)=some r∧Au Ao HH l1 xs2) fu ⟨(List.replicate a0.2.1.length 0:List Int),0,v9,xs1,rf,rf,hd,hq1⟩ (Sub.of rf) ?_
 intro m1 L1 H1 O1 hl1 hI1
 obtain⟨l1,k1,v10,xs2,rfl,rfl,hd,hq2⟩:=hI1
 obtain⟨m2,nx1,rfl,hn1,hd⟩:=A9 hd
 replace hd:CJ fu a0 l1 k1 nx1=some r:=hd
 unfold CJ at hd
 refine Wp.sr<|Aa.op (Ab.lss rf rf) rf<|Aa.Af<|Wp.seq ?_
 refine Wp.cond rf (fun hb3=>?_) (fun hb3=>?_)
 ·
  obtain⟨hb3,hd⟩:=bT hb3 hd
  refine Wp.skip<|At.Ad<|Wp.seq<|Wp.block<|Wp.seq ?_
  obtain⟨x1,hx1,hd⟩:=Ae hd
  have hx1_:=Ah hx1
  refine Wp.region<|Aa.op (Ab.move rf) rf ?_
  obtain⟨_,rfl,hc1⟩:=AW.get (hv3.mono hl1) hx1
  refine Aa.op (Ab.Bo GX ES rf (hv3.mono hl1).sl rf (Ah hx1)) rf<|Aa.op (Ab.FJ u4 rf rf (hc1 0 _ rf)) rf<|Aa.op (Ab.assign rf) rf<|Aa.op (Ab.assign rf) rf<|Aa.Af<|Wp.sr<|Aa.op (Ab.move rf) rf<|Aa.Af ?_
  refine Wp.cond rf (fun hb4=>?_) (fun hb4=>?_)
  ·
   replace hd:=Fs hb4 hd
   obtain⟨x2,hx2,hd⟩:=Ae hd
   have hx2_:=Ah hx2
   refine Wp.region<|Aa.op (Ab.move rf) rf<|Aa.op (Ab.nilCheck rf) rf<|Aa.op (Ab.AV (o':=3) Hv rf rf) rf<|Aa.op (Ab.Am (i:=1) (v:=v10) BF rf rf rf rf) rf<|Aa.op (Ab.move rf) rf ?_
   obtain⟨_,rfl,hc2,hc2_⟩:=Au.get hq2 (AG hx2).2
   refine Aa.op (Ab.Bu (j:=0) BF Cp rf rf rf (Ah hx2)) rf ?_
   refine Aa.Pw (q:=0) (off:=0) (vs:=[(.int .i64 1)]) (y:=1) (cs:=[(.int .i64 x2)]) hq2 hx2 hc2_ rf rf rf Cp rf rf (Ac rf (As)) rf (rf) rf (fun xs3 hq3=>?_)
   refine Aa.nil<|At.AE<|At.Ad<|Wp.region<|Aa.op (Ab.add rf rf (Aq (by omega))) rf<|Aa.op (Ab.move rf) rf<|Aa.nil ?_
   refine At.AO (Hp.le.refl _) ⟨(l1.set k1 1),(k1+1),v10,xs3,rf,rf,(by rw[←hn1];exact hd),hq3⟩ (Sub.of rf)
  replace hd:=Ft hb4 hd
  refine Wp.skip<|At.AE<|At.Ad<|Wp.region<|Aa.op (Ab.add rf rf (Aq (by omega))) rf<|Aa.op (Ab.move rf) rf<|Aa.nil ?_
  refine At.AO (Hp.le.refl _) ⟨l1,(k1+1),v10,xs2,rf,rf,(by rw[←hn1];exact hd),hq2⟩ (Sub.of rf)
 obtain⟨hb3,hd⟩:=bF hb3 hd
 refine Wp.exit<|At.An<|At.An<|At.Az<|At.Ad<|Wp.sr<|Aa.op (Ab.assign rf) rf<|Aa.Af ?_
 refine Wp.sr<|Aa.op (Ab.move rf) rf<|Aa.op (Ab.makeFunc (vf:=[(ptr B0 0)]) (vc:=[]) rf rf) rf<|Aa.op (Ab.assign rf) rf<|Aa.Af<|Wp.seq<|Wp.label<|At.Ad ?_
 refine Wp.block<|Wp.A_ (fun m LL HH OO=> ∃(k2:Nat),∃(l2:List Int),∃(v11:Value),∃(xs4:List Value),[(0,(ptr B0 0)),(4,(.int .i64 (k2:Int))),(5,(.func (.func 49) #[(ptr B0 0)] #[]))]=LL∧ .row v11 3 1 l2.length xs4:: .AM B0 (.cells #[v1,v2,v3,v11] 84 (0,0))::O=OO∧Ax m (fun p nx=>Db fu a0 p.1 p.2 nx) (k2,l2)=some r∧Au Ao HH l2 xs4) fu ⟨0,l1,v10,xs2,rf,rf,hd,hq2⟩ (Sub.of rf) ?_
 intro m3 L2 H2 O2 hl2 hI2
 obtain⟨k2,l2,v11,xs4,rfl,rfl,hd,hq4⟩:=hI2
 obtain⟨m4,nx2,rfl,hn2,hd⟩:=A9 hd
 replace hd:Db fu a0 k2 l2 nx2=some r:=hd
 unfold Db at hd
 refine Wp.block<|Wp.sr<|Aa.makeMap (Ku u9) (I7 u3) rf fun B2=>Aa.op (Ab.assign rf) rf<|Aa.Af<|Wp.seq ?_
 obtain⟨ha2,hd⟩:=Al hd
 refine Wp.region<|Aa.op (Ab.move rf) rf<|Aa.op (Ab.nilCheck rf) rf<|Aa.op (Ab.AV (o':=1) GU rf rf) rf<|Aa.op (Ab.Am (i:=2) (v:=v2) Ey rf rf rf rf) rf ?_
 have hb5:=hv2.le
 refine Aa.op (Ab.len Ey rf (hv2.mono (hl1.trans hl2)).sl) rf<|Aa.JL (c:=Ao) (z:=0) (m:=a0.2.1.length) BF Cp rf rf ha2 (rf) rf rf rf fun v12 xs5 hq5=>Aa.op (Ab.assign rf) rf<|Aa.Af<|Wp.seq<|Wp.sr<|Aa.op (Ab.move rf) rf<|Aa.op (Ab.nilCheck rf) rf ?_
 refine Aa.op (Ab.AV (o':=1) GU rf rf) rf<|Aa.op (Ab.Am (i:=3) (v:=v2) Ey rf rf rf rf) rf ?_
 have hb6:=hv2.le
 refine Aa.op (Ab.len Ey rf (hv2.mono (hl1.trans hl2)).sl) rf<|Aa.op (Ab.move rf) rf<|Aa.Af<|Wp.block ?_
 refine Wp.A7 (i:=2) rf fun hb7=>?_
 refine Wp.freeze (i:=2) rf fun H3 hl3 hs1=>?_
 have hv5:=AW.of (c:=Ao) hs1 rfl (hq4.mono hl3) hb7
 refine Wp.A_ (fun m LL HH OO=> ∃(l3:List Int),∃(l4:List Int),∃(m5:List (Cb×Int)),∃(k3:Nat),∃(v13:Value),∃(v14:Value),∃(xs6:List Value),[(0,(ptr B0 0)),(4,(.int .i64 (k2:Int))),(5,(.func (.func 49) #[(ptr B0 0)] #[])),(6,(.map (some B2))),(7,v14),(52,(.int .i64 (a0.2.1.length:Int))),(53,(.int .i64 (k3:Int)))]=LL∧ .row v14 3 1 l4.length xs6::Es (Ku u9) (I7 u3) B2 m5:: .AM B0 (.cells #[v1,v2,v3,v13] 84 (0,0))::O=OO∧Ax m (fun p nx=>CA fu a0 k2 nx2 p.1 p.2.1 p.2.2.1 p.2.2.2 nx) (l3,l4,m5,k3)=some r∧AW Ao HH l3 v13∧Au Ao HH l4 xs6) fu ⟨l2,(List.replicate a0.2.1.length 0:List Int),([]:List (Cb×Int)),0,v11,v12,xs5,rf,rf,hd,hv5,(hq5.mono hl3)⟩ (Sub.of rf) ?_
 intro m6 L3 H4 O3 hl4 hI3
 obtain⟨l3,l4,m5,k3,v13,v14,xs6,rfl,rfl,hd,hv6,hq6⟩:=hI3
 obtain⟨m7,nx3,rfl,hn3,hd⟩:=A9 hd
 replace hd:CA fu a0 k2 nx2 l3 l4 m5 k3 nx3=some r:=hd
 unfold CA at hd
 refine Wp.sr<|Aa.op (Ab.lss rf rf) rf<|Aa.Af<|Wp.seq ?_
 refine Wp.cond rf (fun hb8=>?_) (fun hb8=>?_)
 ·
  obtain⟨hb8,hd⟩:=bT hb8 hd
  refine Wp.skip<|At.Ad<|Wp.seq<|Wp.block<|Wp.sr<|Aa.op (Ab.move rf) rf<|Aa.op (Ab.assign rf) rf<|Aa.Af ?_
  refine Wp.seq ?_
  obtain⟨x3,hx3,hd⟩:=Ae hd
  refine Wp.region<|Aa.op (Ab.move rf) rf<|Aa.op (Ab.move rf) rf<|Aa.op (Ab.Xe (first:=[(ptr B0 0)]) Y9 rf rf (Ca.at 2 rf (Jj (a0:=(a0.1,a0.2.1,a0.2.2.1,l3)) (hv1.mono (((hl1.trans hl2).trans hl3).trans hl4)) (hv2.mono (((hl1.trans hl2).trans hl3).trans hl4)) (hv3.mono (((hl1.trans hl2).trans hl3).trans hl4)) hv6 (hG.mono (((hl1.trans hl2).trans hl3).trans hl4)) hx3))) rf<|Aa.op (Ab.assign rf) rf<|Aa.Af<|Wp.seq ?_
  obtain⟨ha3,hd⟩:=Al hd
  refine Wp.region<|Aa.op (Ab.move rf) rf<|Aa.op (Ab.move rf) rf<|Aa.op (Ab.MN (K:=(Ku u9)) (M:=(I7 u3)) (i:=1) (k:=x3) (z:=0) VF Cp (show C0 0 by decide) rf rf ha3 rf) rf<|Aa.op (Ab.move rf) rf<|Aa.op (Ab.extract rf rf) rf<|Aa.op (Ab.extract rf rf) rf<|Aa.op (Ab.assign rf) rf ?_
  refine Aa.op (Ab.assign rf) rf<|Aa.Af<|Wp.seq<|Wp.sr<|Aa.op (Ab.move rf) rf<|Aa.op (Ab.not rf) rf<|Aa.Af ?_
  refine Wp.Fp (fun LL HH OO=> ∃(m8:List (Cb×Int)),∃(i1:Int),[(0,(ptr B0 0)),(4,(.int .i64 (k2:Int))),(5,(.func (.func 49) #[(ptr B0 0)] #[])),(6,(.map (some B2))),(7,v14),(8,(.int .i64 (k3:Int))),(10,(.int .i64 i1)),(52,(.int .i64 (a0.2.1.length:Int))),(53,(.int .i64 (k3:Int)))]=LL∧ .row v14 3 1 l4.length xs6::Es (Ku u9) (I7 u3) B2 m8:: .AM B0 (.cells #[v1,v2,v3,v13] 84 (0,0))::O=OO∧Cz fu l3 l4 k3 nx3 m8 i1=some r) ?_ ?_
  ·
   refine Wp.cond rf (fun hb9=>?_) (fun hb9=>?_)
   ·
    replace hd:=Fs hb9 hd
    refine Wp.sr<|Aa.op (Ab.move rf) rf<|Aa.op (Ab.OW (K:=(Ku u9)) (M:=(I7 u3)) (i:=1) VF rf rf) rf<|Aa.op (Ab.assign rf) rf<|Aa.Af ?_
    obtain⟨ha4,hd⟩:=Al hd
    obtain⟨ha5,hd⟩:=Al hd
    obtain⟨ha6,hd⟩:=Al hd
    refine Wp.region<|Aa.op (Ab.move rf) rf<|Aa.op (Ab.move rf) rf<|Aa.op (Ab.move rf) rf<|Aa.mapUpdate (K:=(Ku u9)) (M:=(I7 u3)) (k:=x3) (v:=(m5.length:Int)) 1 VF rf rf rf ha4 ha5 ha6 rf<|Aa.nil ?_
    refine At.Cn (Hp.le.refl _) ⟨(DY m5 x3 (m5.length:Int)),(m5.length:Int),rf,rf,hd⟩ (Sub.of rf)
   replace hd:=Ft hb9 hd
   refine Wp.skip ?_
   refine At.Cn (Hp.le.refl _) ⟨m5,((AQ m5 x3).getD 0),rf,rf,hd⟩ (Sub.of rf)
  intro L4 H5 O4 hl5 hI4
  obtain⟨m8,i1,rfl,rfl,hd⟩:=hI4
  unfold Cz at hd
  obtain⟨x4,hx4,hd⟩:=Ae hd
  have hx4_:=Ah hx4
  refine Wp.region<|Aa.op (Ab.move rf) rf<|Aa.op (Ab.move rf) rf<|Aa.op (Ab.move rf) rf ?_
  obtain⟨_,rfl,hc3,hc3_⟩:=Au.get (hq6.mono hl5) (AG hx4).2
  refine Aa.op (Ab.Bu (j:=0) BF Cp rf rf rf (Ah hx4)) rf ?_
  refine Aa.Pw (q:=0) (off:=0) (vs:=[(.int .i64 i1)]) (y:=i1) (cs:=[(.int .i64 x4)]) (hq6.mono hl5) hx4 hc3_ rf rf rf Cp rf rf (Ac rf (As)) rf (rf) rf (fun xs7 hq7=>?_)
  refine Aa.nil<|At.AE<|At.Ad<|Wp.region<|Aa.op (Ab.add rf rf (Aq (by omega))) rf<|Aa.op (Ab.move rf) rf<|Aa.nil ?_
  refine At.AO hl5 ⟨l3,(l4.set k3 i1),m8,(k3+1),v13,v14,xs7,rf,rf,(by rw[←hn3];exact hd),(hv6.mono hl5),hq7⟩ (Sub.of rf)
 obtain⟨hb8,hd⟩:=bF hb8 hd
 refine Wp.exit<|At.An<|At.An<|At.Az<|At.Ad<|Wp.sr<|Aa.op (Ab.move rf) rf<|Aa.op (Ab.move rf) rf ?_
 refine Aa.op (Ab.nilCheck rf) rf<|Aa.op (Ab.AV (o':=3) Hv rf rf) rf<|Aa.Bm (i:=0) rf fun ho2=>Aa.Cc (i:=2) rf rf ho2 Dx rf (Nat.le_of_ble_eq_true rf) ?_
 refine Aa.own (O:=_::_::_::_) ?_ rf
 refine Aa.Af<|Wp.seq<|Wp.sr<|Aa.op (Ab.move rf) rf<|Aa.op (Ab.OW (K:=(Ku u9)) (M:=(I7 u3)) (i:=1) VF rf rf) rf<|Aa.op (Ab.move rf) rf<|Aa.op (Ab.eql rf rf) rf<|Aa.Af ?_
 refine Wp.cond rf (fun hb10=>?_) (fun hb10=>?_)
 ·
  obtain⟨hb10,hd⟩:=bT hb10 hd
  refine Wp.exit<|At.An<|At.KP rf<|At.An<|At.Az<|At.ZU ?_
  refine At.A7 (i:=0) rf fun hb11=>?_
  refine At.freeze (i:=0) rf fun H6 hl6 hs2=>?_
  have hv7:=AW.of (c:=Ao) hs2 rfl (hq6.mono hl6) hb11
  obtain rfl:=si hd
  exact At.Km rf (fun w hs=>⟨_,_,_,rf,((((hl1.trans hl2).trans hl3).trans hl4).trans hl6),(hs.AR [1] 2 rf rf rf),⟨_,⟨v1,v2,v3,v14,rf,(hv1.mono ((((hl1.trans hl2).trans hl3).trans hl4).trans hl6)),(hv2.mono ((((hl1.trans hl2).trans hl3).trans hl4).trans hl6)),(hv3.mono ((((hl1.trans hl2).trans hl3).trans hl4).trans hl6)),hv7,rf⟩,rf⟩⟩)
 obtain⟨hb10,hd⟩:=bF hb10 hd
 refine Wp.skip<|At.Ad<|Wp.region<|Aa.op (Ab.move rf) rf<|Aa.op (Ab.OW (K:=(Ku u9)) (M:=(I7 u3)) (i:=1) VF rf rf) rf<|Aa.op (Ab.assign rf) rf<|Aa.nil<|At.AE ?_
 refine At.AR [0,2] 3 rf rf rf ?_
 refine At.AO (hl3.trans hl4) ⟨m5.length,l4,v14,xs6,rf,rf,(by rw[←hn2];exact hd),hq6⟩ (Sub.of rf)
theorem G'{fu:Nat}{a0:List (Bool×(List (Int×Int×Int)))}{v1:Value}{r:(List (Bool×(List (Int×Int×Int))))×Int}(hv1:AW (cP cB (cL (cP AZ (cP AZ Ao)))) H a0 v1)(hG:E1 Tryz.prog H)(hd:EC fu a0=some r):
   ED Tryz.prog 8 [v1] H O (fun v H' O'=>(∃v2:Value,(.tuple #[(.agg #[v2]),(.int .i64 r.2)])=v∧AW (cP cB (cL (cP AZ (cP AZ Ao)))) H' r.1 v2)∧O=O'):=by
 intro w hs
 refine Bz Tryz.func8 rf rf rf ?_ hs
 clear hs w
 unfold EC at hd
 refine Wp.sr<|Aa.alloc (cs:= #[(.slice none 0 0)]) A5 rf rf fun B2=>Aa.op (Ab.assign rf) rf<|Aa.Af<|Wp.seq<|Wp.seq ?_
 obtain⟨x1,hx1,hd⟩:=Ae hd
 refine Wp.region<|Aa.op (Ab.move rf) rf<|Aa.op (Ab.call Xc rf (I2 hv1 hx1)) rf<|Aa.op (Ab.not rf) rf<|Aa.Af ?_
 refine Wp.cond rf (fun hb1=>?_) (fun hb1=>?_)
 ·
  replace hd:=Fs hb1 hd
  refine Wp.sr<|Aa.op (Ab.Bi (vs:=[]) (cs:= #[(.slice none 0 0)]) FQ A5 rf rf (Bd) rf) rf<|Aa.AP (i:=0) (cs':= #[(.slice none 0 0)]) rf rf A5 rf rf (Bc (Ac rf (As))) rf ?_
  refine Aa.own (O:=_::_) ?_ rf
  refine Aa.op (Ab.assign rf) rf<|Aa.Af<|Wp.ret<|At.Av ?_
  obtain rfl:=si hd
  exact At.I5 rf (RV.C' (i:=0) rf Eo rf A5 rf rf) (RV.tmp (v:=(.int .i64 11)) rf) (fun w hs=>⟨_,_,_,rf,(Hp.le.refl _),(hs.Cg 1),⟨⟨(.slice none 0 0),rf,AW.nil⟩,rf⟩⟩)
 replace hd:=Ft hb1 hd
 refine Wp.skip<|At.Ad<|Wp.seq<|Wp.sr<|Aa.op (Ab.move rf) rf ?_
 have hb2:=hv1.le
 refine Aa.op (Ab.len CG rf hv1.sl) rf<|Aa.op (Ab.eql rf rf) rf<|Aa.Af ?_
 refine Wp.cond rf (fun hb3=>?_) (fun hb3=>?_)
 ·
  obtain⟨hb3,hd⟩:=bT hb3 hd
  refine Wp.sr<|Aa.op (Ab.Bi (vs:=[]) (cs:= #[(.slice none 0 0)]) FQ A5 rf rf (Bd) rf) rf<|Aa.AP (i:=0) (cs':= #[(.slice none 0 0)]) rf rf A5 rf rf (Bc (Ac rf (As))) rf ?_
  refine Aa.own (O:=_::_) ?_ rf
  refine Aa.op (Ab.assign rf) rf<|Aa.Af<|Wp.ret<|At.Av ?_
  obtain rfl:=si hd
  exact At.I5 rf (RV.C' (i:=0) rf Eo rf A5 rf rf) (RV.tmp (v:=(.int .i64 0)) rf) (fun w hs=>⟨_,_,_,rf,(Hp.le.refl _),(hs.Cg 1),⟨⟨(.slice none 0 0),rf,AW.nil⟩,rf⟩⟩)
 obtain⟨hb3,hd⟩:=bF hb3 hd
 refine Wp.skip<|At.Ad<|Wp.seq ?_
 obtain⟨x2,hx2,hd⟩:=Ae hd
 refine Wp.region<|Aa.op (Ab.move rf) rf<|Aa.E8 (BC.call Zq rf (Nw hv1 hx2)) rf ?_
 rintro _ H1 _ hl1 ⟨B3,v3,v4,v5,v6,rfl,hv2,hv3,hv4,hv5,rfl⟩
 refine Aa.op (Ab.assign rf) rf<|Aa.Af<|Wp.seq ?_
 obtain⟨x3,hx3,hd⟩:=Ae hd
 refine Wp.region<|Aa.op (Ab.move rf) rf<|Aa.E8 (BC.call Zp rf (ED.at 0 rf (KQ hv2 hv3 hv4 hv5 (hG.mono hl1) hx3))) rf ?_
 rintro _ H2 _ hl2 ⟨_,⟨v7,v8,v9,v10,rfl,hv6,hv7,hv8,hv9,rfl⟩,rfl⟩
 refine Aa.Af<|Wp.seq ?_
 obtain⟨x4,hx4,hd⟩:=Ae hd
 refine Wp.region<|Aa.op (Ab.move rf) rf<|Aa.E8 (BC.call Zo rf (ED.atR 0 rf (Jk hv6 hv7 hv8 hv9 hx4))) rf ?_
 rintro _ H3 _ hl3 ⟨⟨v11,rfl,hv10⟩,rfl⟩
 refine Aa.AP (i:=1) (cs':= #[v11]) rf rf A5 rf rf (Bc (Ac hv10.one (As))) rf ?_
 refine Aa.own (O:=_::_::_) ?_ rf
 refine Aa.op (Ab.assign rf) rf<|Aa.Af<|Wp.ret ?_
 obtain rfl:=si hd
 exact At.I5 rf (RV.C' (i:=1) rf Eo rf A5 rf rf) (RV.tmp (v:=(.int .i64 0)) rf) (fun w hs=>⟨_,_,_,rf,((hl1.trans hl2).trans hl3),(hs.Cg 2),⟨⟨v11,rf,hv10⟩,rf⟩⟩)
theorem Gg{fu:Nat}{a0:List (Bool×(List (Int×Int×Int)))}{v1:Value}{r:Bool}(hv1:AW (cP cB (cL (cP AZ (cP AZ Ao)))) H a0 v1)(hG:E1 Tryz.prog H)(hd:Jl fu a0=some r):
   Ca Tryz.prog 11 [(.agg #[v1])] H O (.bool r):=by
 intro w hs
 refine Bz Tryz.func11 rf rf rf ?_ hs
 clear hs w
 unfold Jl at hd
 refine Wp.sr<|Aa.box (cs:= #[v1]) rf rf rf fun B2=>Aa.op (Ab.assign rf) rf<|Aa.Af<|Wp.seq ?_
 obtain⟨x1,hx1,hd⟩:=Ae hd
 refine Wp.region<|Aa.op (Ab.AV (o':=0) Ck rf rf) rf<|Aa.op (Ab.Am (i:=0) (v:=v1) CG rf rf rf rf) rf<|Aa.E8 (BC.call Wr rf (G' hv1 hG hx1)) rf ?_
 rintro _ H1 _ hl1 ⟨⟨v2,rfl,hv2⟩,rfl⟩
 refine Aa.op (Ab.move rf) rf<|Aa.op (Ab.extract rf rf) rf<|Aa.op (Ab.extract rf rf) rf<|Aa.alloc (cs:= #[(.slice none 0 0)]) A5 rf rf fun B3=>Aa.AP (i:=0) (cs':= #[v2]) rf rf A5 rf rf (Bc (Ac hv2.one (As))) rf ?_
 refine Aa.own (O:=_::_::_) ?_ rf
 refine Aa.op (Ab.assign rf) rf<|Aa.Af<|Wp.seq ?_
 rcases Bool.eq_false_or_eq_true (decide (x1.2=0))with hg1|hg1
 ·
  obtain⟨hg1_,hd⟩:=bT hg1 hd
  obtain⟨x2,hx2,hd⟩:=Ae hd
  refine Wp.region<|Aa.op (Ab.move rf) rf<|Aa.op (Ab.Bg (b:=decide (x1.2=0)) (c:=true) (Ab.eql rf rf) hg1) rf<|Aa.op (Ab.move rf) rf<|Aa.Ay rf rf (Ab.AF (i:=1) Eo rf A5 rf rf rf) rf<|Aa.Ay rf rf (Ab.AF (i:=0) Eo rf A5 rf rf rf) rf<|Aa.Ay rf rf (Ab.call Zr rf (Ts (hv1.mono hl1) hv2 hx2)) rf<|Aa.op (Ab.AK rf rf) rf ?_
  refine Aa.op (Ab.assign rf) rf<|Aa.Af<|Wp.ret ?_
  obtain rfl:=si hd
  exact At.q1 2 hl1 rf (RV.tmp rf) rf
 obtain⟨hg1_,hd⟩:=bF hg1 hd
 refine Wp.region<|Aa.op (Ab.move rf) rf<|Aa.op (Ab.Bg (b:=decide (x1.2=0)) (c:=false) (Ab.eql rf rf) hg1) rf<|Aa.op (Ab.move rf) rf<|Aa.Ai rf rf rf rf<|Aa.Ai rf rf rf rf<|Aa.Ai rf rf rf rf<|Aa.op (Ab.AA rf rf) rf ?_
 refine Aa.op (Ab.assign rf) rf<|Aa.Af<|Wp.ret ?_
 obtain rfl:=si hd
 exact At.q1 2 hl1 rf (RV.tmp rf) rf
theorem JR{fu:Nat}{a0:(List (List Int))×(List (List (AD×Int×Int)))×Int}{v1 v2:Value}{B0:Nat}{r:List AD}(hv1:AW (cL Ao) H a0.1 v1)(hv2:AW (cL (cP IG (cP Ao Ao))) H a0.2.1 v2)(hd:Fv fu a0=some r):
    ED Tryz.prog 55 [(ptr B0 0)] H (.AM B0 (.cells #[v1,v2,(.int .i64 a0.2.2)] 66 (0,0))::O) (fun v H' O'=>(∃v3:Value,v3=v∧AW IG H' r v3)∧ .AM B0 (.cells #[v1,v2,(.int .i64 a0.2.2)] 66 (0,0))::O=O'):=by
 intro w hs
 refine Bz Tryz.func55 rf rf rf ?_ hs
 clear hs w
 unfold Fv at hd
 refine Wp.sr<|Aa.op (Ab.assign rf) rf<|Aa.Af<|Wp.sr<|Aa.op (Ab.assign rf) rf<|Aa.Af<|Wp.seq<|Wp.sr ?_
 refine Aa.op (Ab.move rf) rf<|Aa.op (Ab.nilCheck rf) rf<|Aa.op (Ab.AV (o':=1) IU rf rf) rf<|Aa.op (Ab.Am (i:=0) (v:=v2) u64 rf rf rf rf) rf ?_
 have hb1:=hv2.le
 refine Aa.op (Ab.len u64 rf hv2.sl) rf<|Aa.op (Ab.move rf) rf<|Aa.Af<|Wp.block<|Wp.BG 34 4<|Wp.A_ (fun m LL HH OO=> ∃(l1:List AD),∃(k1:Nat),∃(v4:Value),∃(xs1:List Value),[(3,v4),(11,v2),(12,(.int .i64 (a0.2.1.length:Int))),(13,(.int .i64 (k1:Int)))]=LL∧ .row v4 34 4 l1.length xs1:: .AM B0 (.cells #[v1,v2,(.int .i64 a0.2.2)] 66 (0,0))::O=OO∧Ax m (fun p nx=>D2 fu a0 p.1 p.2 nx) (l1,k1)=some r∧Au IG HH l1 xs1) fu ⟨([]:List AD),0,(.slice none 0 0),[],rf,rf,hd,(Au.nil (c:=IG) (H:=H))⟩ (Sub.of rf) ?_
 intro m1 L1 H1 O1 hl1 hI1
 obtain⟨l1,k1,v4,xs1,rfl,rfl,hd,hq1⟩:=hI1
 obtain⟨m2,nx1,rfl,hn1,hd⟩:=A9 hd
 replace hd:D2 fu a0 l1 k1 nx1=some r:=hd
 unfold D2 at hd
 refine Wp.sr<|Aa.op (Ab.lss rf rf) rf<|Aa.Af<|Wp.seq ?_
 refine Wp.cond rf (fun hb2=>?_) (fun hb2=>?_)
 ·
  obtain⟨hb2,hd⟩:=bT hb2 hd
  refine Wp.skip<|At.Ad<|Wp.seq<|Wp.block<|Wp.seq ?_
  obtain⟨x1,hx1,hd⟩:=Ae hd
  have hx1_:=Ah hx1
  refine Wp.region ?_
  obtain⟨_,⟨v5,rfl,hv3⟩,hc1⟩:=AW.get (hv2.mono hl1) hx1
  refine Aa.op (Ab.Bo u64 PG rf (hv2.mono hl1).sl rf (Ah hx1)) rf<|Aa.op (Ab.FJ TA rf rf (hc1 0 _ rf)) rf<|Aa.op (Ab.assign rf) rf<|Aa.Af<|Wp.sr<|Aa.op (Ab.move rf) rf ?_
  have hb3:=hv3.le
  refine Aa.op (Ab.len TA rf hv3.sl) rf<|Aa.op (Ab.move rf) rf<|Aa.Af<|Wp.block<|Wp.A_ (fun m LL HH OO=> ∃(l2:List AD),∃(k2:Nat),∃(v6:Value),∃(xs2:List Value),[(3,v6),(11,v2),(12,(.int .i64 (a0.2.1.length:Int))),(13,(.int .i64 (k1:Int))),(17,v5),(18,(.int .i64 (x1.length:Int))),(19,(.int .i64 (k2:Int)))]=LL∧ .row v6 34 4 l2.length xs2:: .AM B0 (.cells #[v1,v2,(.int .i64 a0.2.2)] 66 (0,0))::O=OO∧Ax m (fun p nx=>D1 fu k1 nx1 x1 p.1 p.2 nx) (l2,k2)=some r∧Au IG HH l2 xs2) fu ⟨l1,0,v4,xs1,rf,rf,hd,hq1⟩ (Sub.of rf) ?_
  intro m3 L2 H2 O2 hl2 hI2
  obtain⟨l2,k2,v6,xs2,rfl,rfl,hd,hq2⟩:=hI2
  obtain⟨m4,nx2,rfl,hn2,hd⟩:=A9 hd
  replace hd:D1 fu k1 nx1 x1 l2 k2 nx2=some r:=hd
  unfold D1 at hd
  refine Wp.sr<|Aa.op (Ab.lss rf rf) rf<|Aa.Af<|Wp.seq ?_
  refine Wp.cond rf (fun hb4=>?_) (fun hb4=>?_)
  ·
   obtain⟨hb4,hd⟩:=bT hb4 hd
   refine Wp.skip<|At.Ad<|Wp.seq<|Wp.block<|Wp.seq ?_
   obtain⟨x2,hx2,hd⟩:=Ae hd
   have hx2_:=Ah hx2
   refine Wp.region ?_
   obtain⟨_,⟨_,_,rfl,rfl,⟨_,_,rfl,rfl,rfl⟩⟩,hc2⟩:=AW.get (hv3.mono hl2) hx2
   refine Aa.op (Ab.Bo TA JU rf (hv3.mono hl2).sl rf (Ah hx2)) rf<|Aa.op (Ab.C9 (vs:=[(Ak (word x2.1 0)),(Ak (word x2.1 1)),(Ak (word x2.1 2)),(Ak (word x2.1 3)),(.int .i64 x2.2.1),(.int .i64 x2.2.2)]) ZF rf JU rf rf (fun j u hj=>(hc2 j u hj))) rf<|Aa.alloc (cs:= #[(Ak (word (fun _=>false) 0)),(Ak (word (fun _=>false) 1)),(Ak (word (fun _=>false) 2)),(Ak (word (fun _=>false) 3)),(.int .i64 0),(.int .i64 0)]) JU (by simp only[zw];rfl) rf fun B2=>Aa.AP (i:=0) (cs':= #[(Ak (word x2.1 0)),(Ak (word x2.1 1)),(Ak (word x2.1 2)),(Ak (word x2.1 3)),(.int .i64 x2.2.1),(.int .i64 x2.2.2)]) rf rf JU rf rf (Bc (Ac rf (Ac rf (Ac rf (Ac rf (Ac rf (Ac rf (As)))))))) rf ?_
   refine Aa.own (O:=_::_::_::_) ?_ rf
   refine Aa.Af ?_
   obtain⟨ha1,hd⟩:=Al hd
   refine Wp.region<|Aa.op (Ab.move rf) rf<|Aa.op (Ab.AV (o':=0) Rq rf rf) rf<|Aa.op (Ab.GS (i:=0) (vs:=[(Ak (word x2.1 0)),(Ak (word x2.1 1)),(Ak (word x2.1 2)),(Ak (word x2.1 3))]) LS rf BJ rf rf rf) rf<|Aa.A1 (c:=IG) (y:=x2.1) (cs:=[(Ak (word x2.1 0)),(Ak (word x2.1 1)),(Ak (word x2.1 2)),(Ak (word x2.1 3))]) Yd BJ rf rf rf rf (rf) rf fun v7 xs3 hq3=>Aa.Df (i:=2) (j:=0) hq2 hq3 Yd BJ rf (by decide) rf rf rf rf (by decide) ha1 rf fun v8 xs4 hq4=>Aa.drop (i:=0)<|Aa.op (Ab.assign rf) rf ?_
   refine Aa.nil<|At.AE<|At.Ad<|Wp.region<|Aa.op (Ab.add rf rf (Aq (by omega))) rf<|Aa.op (Ab.move rf) rf<|Aa.nil<|At.AR [1,2] 3 rf rf rf ?_
   refine At.AO (Hp.le.refl _) ⟨(l2++([x2.1]:List AD)),(k2+1),v8,xs4,rf,rf,(by rw[←hn2];exact hd),hq4⟩ (Sub.of rf)
  obtain⟨hb4,hd⟩:=bF hb4 hd
  refine Wp.exit<|At.An<|At.An<|At.Az<|At.AE<|At.Ad<|Wp.region<|Aa.op (Ab.add rf rf (Aq (by omega))) rf ?_
  refine Aa.op (Ab.move rf) rf<|Aa.nil ?_
  refine At.AO hl2 ⟨l2,(k1+1),v6,xs2,rf,rf,(by rw[←hn1];exact hd),hq2⟩ (Sub.of rf)
 obtain⟨hb2,hd⟩:=bF hb2 hd
 refine Wp.exit<|At.An<|At.An<|At.Az<|At.Ad<|Wp.sr<|Aa.op (Ab.move rf) rf<|Aa.op (Ab.assign rf) rf ?_
 refine Aa.Af<|Wp.ret ?_
 refine At.A7 (i:=0) rf fun hb5=>?_
 refine At.freeze (i:=0) rf fun H3 hl3 hs1=>?_
 have hv4:=AW.of (c:=IG) hs1 rfl (hq1.mono hl3) hb5
 obtain rfl:=si hd
 exact At.DB rf (RV.tmp (v:=v4) rf) (fun w hs=>⟨_,_,_,rf,(hl1.trans hl3),(hs.AR [0] 1 rf rf rf),⟨⟨v4,rf,hv4⟩,rf⟩⟩)
theorem EP{fu:Nat}{a0:(List (List Int))×(List (List (AD×Int×Int)))×Int}{a1:List Int}{v1 v2 v3:Value}{xs1:List Value}{B0:Nat}{r:List Int}(hv1:AW (cL Ao) H a0.1 v1)(hv2:AW (cL (cP IG (cP Ao Ao))) H a0.2.1 v2)(hq1:Au Ao H a1 xs1)(hd:CP fu a0 a1=some r):
    ED Tryz.prog 56 [(ptr B0 0),v3] H (.AM B0 (.cells #[v1,v2,(.int .i64 a0.2.2)] 66 (0,0)):: .row v3 3 1 a1.length xs1::O) (fun v H' O'=>(∃v4:Value,v4=v∧AW Ao H' r v4)∧ .AM B0 (.cells #[v1,v2,(.int .i64 a0.2.2)] 66 (0,0))::O=O'):=by
 intro w hs
 refine Bz Tryz.func56 rf rf rf ?_ hs
 clear hs w
 unfold CP at hd
 refine Wp.sr<|Aa.op (Ab.assign rf) rf<|Aa.Af<|Wp.seq ?_
 obtain⟨ha1,hd⟩:=Al hd
 refine Wp.region<|Aa.op (Ab.move rf) rf<|Aa.op (Ab.nilCheck rf) rf<|Aa.op (Ab.AV (o':=1) IU rf rf) rf<|Aa.op (Ab.Am (i:=0) (v:=v2) u64 rf rf rf rf) rf ?_
 have hb1:=hv2.le
 refine Aa.op (Ab.len u64 rf hv2.sl) rf<|Aa.JL (c:=cB) (z:=false) (m:=a0.2.1.length) GX ES rf rf ha1 (rf) rf rf rf fun v5 xs2 hq2=>Aa.op (Ab.assign rf) rf<|Aa.Af<|Wp.seq<|Wp.block<|Wp.A_ (fun m LL HH OO=> ∃(l1:List Int),∃(l2:List Bool),∃(v6:Value),∃(xs3:List Value),∃(v7:Value),∃(xs4:List Value),[(0,(ptr B0 0)),(1,v6),(5,v7)]=LL∧ .row v7 4 1 l2.length xs4:: .AM B0 (.cells #[v1,v2,(.int .i64 a0.2.2)] 66 (0,0)):: .row v6 3 1 l1.length xs3::O=OO∧Ax m (fun p nx=>DG fu a0 p.1 p.2 nx) (l1,l2)=some r∧Au Ao HH l1 xs3∧Au cB HH l2 xs4) fu ⟨a1,(List.replicate a0.2.1.length false:List Bool),v3,xs1,v5,xs2,rf,rf,hd,hq1,hq2⟩ (Sub.of rf) ?_
 intro m1 L1 H1 O1 hl1 hI1
 obtain⟨l1,l2,v6,xs3,v7,xs4,rfl,rfl,hd,hq3,hq4⟩:=hI1
 obtain⟨m2,nx1,rfl,hn1,hd⟩:=A9 hd
 replace hd:DG fu a0 l1 l2 nx1=some r:=hd
 unfold DG at hd
 refine Wp.seq<|Wp.sr<|Aa.op (Ab.move rf) rf ?_
 refine Aa.A7 (i:=2) rf fun hb2=>?_
 refine Aa.op (Ab.BR (i:=2) BF rf rf) rf<|Aa.op (Ab.gtr rf rf) rf<|Aa.Af ?_
 refine Wp.cond rf (fun hb3=>?_) (fun hb3=>?_)
 ·
  obtain⟨hb3,hd⟩:=bT hb3 hd
  refine Wp.skip<|At.Ad<|Wp.block<|Wp.seq ?_
  obtain⟨ha2,hd⟩:=Al hd
  obtain⟨x1,hx1,hd⟩:=Ae hd
  have hx1_:=Ah hx1
  refine Wp.region<|Aa.op (Ab.move rf) rf<|Aa.op (Ab.move rf) rf ?_
  refine Aa.A7 (i:=2) rf fun hb4=>?_
  refine Aa.op (Ab.BR (i:=2) BF rf rf) rf<|Aa.op (Ab.sub rf rf (Aq ha2)) rf ?_
  obtain⟨_,rfl,hc1,hc1_⟩:=Au.get hq3 (AG hx1).2
  refine Aa.op (Ab.Bu (j:=2) BF Cp rf rf rf (Ah hx1)) rf<|Aa.op (Ab.Ch (i:=2) (k:=(((l1.length:Int)-1).toNat)*1+0) u3 rf rf rf (hc1 0 _ rf)) rf<|Aa.op (Ab.assign rf) rf<|Aa.Af<|Wp.seq ?_
  obtain⟨ha3,hd⟩:=Al hd
  obtain⟨ha4,hd⟩:=Al hd
  refine Wp.region<|Aa.op (Ab.move rf) rf<|Aa.op (Ab.move rf) rf ?_
  refine Aa.A7 (i:=2) rf fun hb5=>?_
  refine Aa.op (Ab.BR (i:=2) BF rf rf) rf<|Aa.op (Ab.sub rf rf (Aq ha3)) rf<|Aa.Q7 (c:=Ao) 2 hq3 BF Cp rf rf rf ha4 rf fun v8 xs5 hq5=>Aa.op (Ab.assign rf) rf<|Aa.Af<|Wp.seq ?_
  obtain⟨x2,hx2,hd⟩:=Ae hd
  have hx2_:=Ah hx2
  refine Wp.region<|Aa.op (Ab.move rf) rf<|Aa.op (Ab.move rf) rf ?_
  obtain⟨_,rfl,hc2,hc2_⟩:=Au.get hq4 (AG hx2).2
  refine Aa.op (Ab.Bu (j:=0) GX ES rf rf rf (Ah hx2)) rf<|Aa.op (Ab.Ch (i:=0) (k:=x1.toNat*1+0) u4 rf rf rf (hc2 0 _ rf)) rf<|Aa.op (Ab.not rf) rf<|Aa.Af ?_
  refine Wp.cond rf (fun hb6=>?_) (fun hb6=>?_)
  ·
   replace hd:=Fs hb6 hd
   refine Wp.seq ?_
   obtain⟨x3,hx3,hd⟩:=Ae hd
   have hx3_:=Ah hx3
   refine Wp.region<|Aa.op (Ab.move rf) rf<|Aa.op (Ab.move rf) rf ?_
   obtain⟨_,rfl,hc3,hc3_⟩:=Au.get hq4 (AG hx3).2
   refine Aa.op (Ab.Bu (j:=0) GX ES rf rf rf (Ah hx3)) rf ?_
   refine Aa.Pw (q:=0) (off:=0) (vs:=[(.bool true)]) (y:=true) (cs:=[(.bool x3)]) hq4 hx3 hc3_ rf rf rf ES rf rf (Ac rf (As)) rf (rf) rf (fun xs6 hq6=>?_)
   refine Aa.Af ?_
   obtain⟨x4,hx4,hd⟩:=Ae hd
   have hx4_:=Ah hx4
   obtain⟨ha5,hd⟩:=Al hd
   refine Wp.region<|Aa.op (Ab.move rf) rf<|Aa.op (Ab.move rf) rf<|Aa.op (Ab.nilCheck rf) rf<|Aa.op (Ab.AV (o':=0) IV rf rf) rf<|Aa.op (Ab.Am (i:=1) (v:=v1) Ey rf rf rf rf) rf<|Aa.op (Ab.move rf) rf ?_
   obtain⟨_,⟨v9,rfl,hv3⟩,hc4⟩:=AW.get (hv1.mono hl1) hx4
   refine Aa.op (Ab.Bo Ey Dx rf (hv1.mono hl1).sl rf (Ah hx4)) rf<|Aa.op (Ab.FJ BF rf rf (hc4 0 _ rf)) rf<|Aa.Z1 (i:=2) hq5 hv3 BF Cp rf (by decide) rf rf rf (by decide) ha5 rf fun v10 xs7 hq7=>Aa.op (Ab.assign rf) rf<|Aa.nil<|At.AE ?_
   refine At.AO (Hp.le.refl _) ⟨((l1.take ((l1.length:Int)-1).toNat)++x4),(l2.set x1.toNat true),v10,xs7,v7,xs6,rf,rf,(by rw[←hn1];exact hd),hq7,hq6⟩ (Sub.of rf)
  replace hd:=Ft hb6 hd
  refine Wp.skip<|At.AE ?_
  refine At.AO (Hp.le.refl _) ⟨(l1.take ((l1.length:Int)-1).toNat),l2,v8,xs5,v7,xs4,rf,rf,(by rw[←hn1];exact hd),hq5,hq4⟩ (Sub.of rf)
 obtain⟨hb3,hd⟩:=bF hb3 hd
 refine Wp.exit<|At.An<|At.An<|At.Az<|At.Ad<|Wp.sr<|Aa.op (Ab.assign rf) rf<|Aa.Af ?_
 refine Wp.seq<|Wp.sr<|Aa.op (Ab.move rf) rf ?_
 refine Aa.A7 (i:=0) rf fun hb7=>?_
 refine Aa.op (Ab.BR (i:=0) GX rf rf) rf<|Aa.op (Ab.move rf) rf<|Aa.Af<|Wp.block<|Wp.BG 3 1<|Wp.A_ (fun m LL HH OO=> ∃(l3:List Int),∃(k1:Nat),∃(v11:Value),∃(xs8:List Value),[(7,v11),(47,v7),(48,(.int .i64 (l2.length:Int))),(49,(.int .i64 (k1:Int)))]=LL∧ .row v11 3 1 l3.length xs8:: .row v7 4 1 l2.length xs4:: .AM B0 (.cells #[v1,v2,(.int .i64 a0.2.2)] 66 (0,0)):: .row v6 3 1 l1.length xs3::O=OO∧Ax m (fun p nx=>CR fu l2 p.1 p.2 nx) (l3,k1)=some r∧Au Ao HH l3 xs8) fu ⟨([]:List Int),0,(.slice none 0 0),[],rf,rf,hd,(Au.nil (c:=Ao) (H:=H1))⟩ (Sub.of rf) ?_
 intro m3 L2 H2 O2 hl2 hI2
 obtain⟨l3,k1,v11,xs8,rfl,rfl,hd,hq8⟩:=hI2
 obtain⟨m4,nx2,rfl,hn2,hd⟩:=A9 hd
 replace hd:CR fu l2 l3 k1 nx2=some r:=hd
 unfold CR at hd
 refine Wp.sr<|Aa.op (Ab.lss rf rf) rf<|Aa.Af<|Wp.seq ?_
 refine Wp.cond rf (fun hb8=>?_) (fun hb8=>?_)
 ·
  obtain⟨hb8,hd⟩:=bT hb8 hd
  refine Wp.skip<|At.Ad<|Wp.seq<|Wp.block<|Wp.seq ?_
  obtain⟨x5,hx5,hd⟩:=Ae hd
  have hx5_:=Ah hx5
  refine Wp.region<|Aa.op (Ab.move rf) rf ?_
  obtain⟨_,rfl,hc5,hc5_⟩:=Au.get (hq4.mono hl2) (AG hx5).2
  refine Aa.op (Ab.Bu (j:=1) GX ES rf rf rf (Ah hx5)) rf<|Aa.op (Ab.Ch (i:=1) (k:=k1*1+0) u4 rf rf rf (hc5 0 _ rf)) rf<|Aa.op (Ab.assign rf) rf<|Aa.op (Ab.assign rf) rf<|Aa.Af<|Wp.sr<|Aa.op (Ab.move rf) rf<|Aa.Af ?_
  refine Wp.cond rf (fun hb9=>?_) (fun hb9=>?_)
  ·
   replace hd:=Fs hb9 hd
   obtain⟨ha6,hd⟩:=Al hd
   refine Wp.region<|Aa.op (Ab.move rf) rf<|Aa.op (Ab.move rf) rf<|Aa.A1 (c:=Ao) (y:=(k1:Int)) (cs:=[(.int .i64 (k1:Int))]) BF Cp rf rf rf rf (rf) rf fun v12 xs9 hq9=>Aa.Df (i:=1) (j:=0) hq8 hq9 BF Cp rf (by decide) rf rf rf rf (by decide) ha6 rf fun v13 xs10 hq10=>Aa.drop (i:=0)<|Aa.op (Ab.assign rf) rf<|Aa.nil ?_
   refine At.AE<|At.Ad<|Wp.region<|Aa.op (Ab.add rf rf (Aq (by omega))) rf<|Aa.op (Ab.move rf) rf<|Aa.nil ?_
   refine At.AO (Hp.le.refl _) ⟨(l3++([(k1:Int)]:List Int)),(k1+1),v13,xs10,rf,rf,(by rw[←hn2];exact hd),hq10⟩ (Sub.of rf)
  replace hd:=Ft hb9 hd
  refine Wp.skip<|At.AE<|At.Ad<|Wp.region<|Aa.op (Ab.add rf rf (Aq (by omega))) rf<|Aa.op (Ab.move rf) rf<|Aa.nil ?_
  refine At.AO (Hp.le.refl _) ⟨l3,(k1+1),v11,xs8,rf,rf,(by rw[←hn2];exact hd),hq8⟩ (Sub.of rf)
 obtain⟨hb8,hd⟩:=bF hb8 hd
 refine Wp.exit<|At.An<|At.An<|At.Az<|At.Ad<|Wp.sr<|Aa.op (Ab.move rf) rf<|Aa.op (Ab.assign rf) rf ?_
 refine Aa.Af<|Wp.ret ?_
 refine At.A7 (i:=0) rf fun hb10=>?_
 refine At.freeze (i:=0) rf fun H3 hl3 hs1=>?_
 have hv4:=AW.of (c:=Ao) hs1 rfl (hq8.mono hl3) hb10
 obtain rfl:=si hd
 exact At.DB rf (RV.tmp (v:=v11) rf) (fun w hs=>⟨_,_,_,rf,((hl1.trans hl2).trans hl3),(hs.AR [1] 3 rf rf rf),⟨⟨v11,rf,hv4⟩,rf⟩⟩)
theorem M_{fu:Nat}{a0:List Int}{v1:Value}{r:Cb}(hv1:AW Ao H a0 v1)(hG:E1 Tryz.prog H)(hd:Kf fu a0=some r):
   Ca Tryz.prog 60 [v1] H O (sv r):=by
 intro w hs
 refine Bz Tryz.func60 rf rf rf ?_ hs
 clear hs w
 unfold Kf at hd
 refine Wp.sr<|Aa.op (Ab.assign rf) rf<|Aa.Af<|Wp.sr<|Aa.alloc (cs:= #[.pointer none, .slice none 0 0]) WU rf rf fun B2=>Aa.BG 5 1 ?_
 have hB4:Jn H B2 (.pointer none) (.slice none 0 0) [] []:=Jn.new
 refine Aa.Af<|Wp.seq<|Wp.sr<|Aa.op (Ab.move rf) rf ?_
 have hb1:=hv1.le
 refine Aa.op (Ab.len BF rf hv1.sl) rf<|Aa.op (Ab.move rf) rf<|Aa.Af<|Wp.block<|Wp.A_ (fun m LL HH OO=> ∃(l1:Cb),∃(k1:Nat),∃(a30:Value),∃(v2:Value),∃(xs1:List Value),[(3,(ptr B2 0)),(6,v1),(7,(.int .i64 (a0.length:Int))),(8,(.int .i64 (k1:Int)))]=LL∧ .row v2 5 1 l1.length xs1:: .AM B2 (.cells #[a30,v2] 123 (0,0))::O=OO∧Ax m (fun p nx=>Hf fu a0 p.1 p.2 nx) (l1,k1)=some r∧Jn HH B2 a30 v2 l1 xs1) fu ⟨([]:Cb),0,(.pointer none),(.slice none 0 0),[],rf,rf,hd,hB4⟩ (Sub.of rf) ?_
 intro m1 L1 H1 O1 hl1 hI1
 obtain⟨l1,k1,a30,v2,xs1,rfl,rfl,hd,hB42⟩:=hI1
 obtain⟨m2,nx1,rfl,hn1,hd⟩:=A9 hd
 replace hd:Hf fu a0 l1 k1 nx1=some r:=hd
 unfold Hf at hd
 refine Wp.sr<|Aa.op (Ab.lss rf rf) rf<|Aa.Af<|Wp.seq ?_
 refine Wp.cond rf (fun hb2=>?_) (fun hb2=>?_)
 ·
  obtain⟨hb2,hd⟩:=bT hb2 hd
  refine Wp.skip<|At.Ad<|Wp.seq<|Wp.block<|Wp.seq ?_
  obtain⟨x1,hx1,hd⟩:=Ae hd
  have hx1_:=Ah hx1
  refine Wp.region ?_
  obtain⟨_,rfl,hc1⟩:=AW.get (hv1.mono hl1) hx1
  refine Aa.op (Ab.Bo BF Cp rf (hv1.mono hl1).sl rf (Ah hx1)) rf<|Aa.op (Ab.FJ u3 rf rf (hc1 0 _ rf)) rf<|Aa.op (Ab.assign rf) rf<|Aa.Af ?_
  obtain⟨ha1,hd⟩:=Al hd
  obtain⟨ha2,hd⟩:=Al hd
  obtain⟨ha3,hd⟩:=Al hd
  refine Wp.region<|Aa.op (Ab.move rf) rf<|Aa.op (Ab.call US rf (UB (hG.mono hl1) ha1)) rf<|Aa.op (Ab.Vd rf rf ha2) rf<|Aa.AR [1,0] 2 rf rf rf<|Aa.E8 (BC.call UT rf (Vg hB42 ha3)) rf ?_
  rintro _ H2 _ hl2 ⟨v3,xs2,rfl,hB63,rfl⟩
  refine Aa.nil<|At.AE<|At.Ad<|Wp.region<|Aa.op (Ab.add rf rf (Aq (by omega))) rf<|Aa.op (Ab.move rf) rf<|Aa.nil<|At.AR [1,0] 2 rf rf rf ?_
  refine At.AO hl2 ⟨(l1++((Lib.itoa x1)++([44]:Cb))),(k1+1),(ptr B2 0),v3,xs2,rf,rf,(by rw[←hn1];exact hd),hB63⟩ (Sub.of rf)
 obtain⟨hb2,hd⟩:=bF hb2 hd
 refine Wp.exit<|At.An<|At.An<|At.Az<|At.Ad<|Wp.sr<|Aa.AR [1,0] 2 rf rf rf<|Aa.E8 (BC.call W4 rf (Xf hB42)) rf ?_
 rintro _ H3 _ hl3 ⟨rfl,rfl⟩
 refine Aa.op (Ab.assign rf) rf<|Aa.Af<|Wp.ret ?_
 obtain rfl:=si hd
 exact At.q1 0 (hl1.trans hl3) rf (RV.tmp rf) rf
theorem Nv{fu:Nat}{a0:(List (List Int))×(List (List (AD×Int×Int)))×Int}{a1:Int}{v1 v2:Value}{B0:Nat}{r:Bool}(hv1:AW (cL Ao) H a0.1 v1)(hv2:AW (cL (cP IG (cP Ao Ao))) H a0.2.1 v2)(hG:E1 Tryz.prog H)(hd:Ea fu a0 a1=some r):
    Ca Tryz.prog 38 [(ptr B0 0),(.int .i64 a1)] H (.AM B0 (.cells #[v1,v2,(.int .i64 a0.2.2)] 66 (0,0))::O) (.bool r):=by
 intro w hs
 refine Bz Tryz.func38 rf rf rf ?_ hs
 clear hs w
 unfold Ea at hd
 refine Wp.sr<|Aa.op (Ab.assign rf) rf<|Aa.Af<|Wp.seq ?_
 obtain⟨x1,hx1,hd⟩:=Ae hd
 obtain⟨ha1,hd⟩:=Al hd
 refine Wp.region<|Aa.op (Ab.move rf) rf<|Aa.E8 (BC.call W8 rf (ED.atR 0 rf (JR hv1 hv2 hx1))) rf ?_
 rintro _ H1 _ hl1 ⟨⟨v3,rfl,hv3⟩,rfl⟩
 refine Aa.E8 (BC.call W9 rf (OL hv3 ha1)) rf ?_
 rintro _ H2 _ hl2 ⟨⟨v4,rfl,hv4⟩,rfl⟩
 refine Aa.op (Ab.assign rf) rf<|Aa.Af<|Wp.sr<|Aa.makeMap (Ku u9) (Wc u4) rf fun B2=>Aa.op (Ab.assign rf) rf<|Aa.Af<|Wp.seq ?_
 obtain⟨x2,hx2,hd⟩:=Ae hd
 refine Wp.region<|Aa.op (Ab.move rf) rf<|Aa.op (Ab.move rf) rf<|Aa.A1 (c:=Ao) (y:=a1) (cs:=[(.int .i64 a1)]) BF Cp rf rf rf rf (rf) rf fun v5 xs1 hq1=>Aa.AR [2,0,1] 3 rf rf rf<|Aa.E8 (BC.call Sn rf (EP (hv1.mono (hl1.trans hl2)) (hv2.mono (hl1.trans hl2)) hq1 hx2)) rf ?_
 rintro _ H3 _ hl3 ⟨⟨v6,rfl,hv5⟩,rfl⟩
 refine Aa.A1 (c:=(cL Ao)) (y:=x2) (cs:=[v6]) Ey Dx rf rf rf (DZ hv5.one) (⟨_,rf,hv5⟩) rf fun v7 xs2 hq2=>Aa.op (Ab.assign rf) rf<|Aa.Af<|Wp.seq<|Wp.sr<|Aa.op (Ab.assign rf) rf<|Aa.Af<|Wp.block ?_
 refine Wp.A_ (fun m LL HH OO=> ∃(l1:List (List Int)),∃(m1:List (Cb×Bool)),∃(k1:Nat),∃(v8:Value),∃(xs3:List Value),[(0,(ptr B0 0)),(5,v4),(6,(.map (some B2))),(7,v8),(8,(.int .i64 (k1:Int)))]=LL∧ .row v8 55 1 l1.length xs3:: .AM B0 (.cells #[v1,v2,(.int .i64 a0.2.2)] 66 (0,0))::Es (Ku u9) (Wc u4) B2 m1::O=OO∧Ax m (fun p nx=>D3 fu a0 x1 p.1 p.2.1 p.2.2 nx) (l1,m1,k1)=some r∧Au (cL Ao) HH l1 xs3) fu ⟨([x2]:List (List Int)),([]:List (Cb×Bool)),0,v7,xs2,rf,rf,hd,hq2⟩ (Sub.of rf) ?_
 intro m2 L1 H4 O1 hl4 hI1
 obtain⟨l1,m1,k1,v8,xs3,rfl,rfl,hd,hq3⟩:=hI1
 obtain⟨m3,nx1,rfl,hn1,hd⟩:=A9 hd
 replace hd:D3 fu a0 x1 l1 m1 k1 nx1=some r:=hd
 unfold D3 at hd
 refine Wp.seq<|Wp.sr<|Aa.op (Ab.move rf) rf<|Aa.op (Ab.move rf) rf ?_
 refine Aa.A7 (i:=0) rf fun hb1=>?_
 refine Aa.op (Ab.BR (i:=0) Ey rf rf) rf<|Aa.op (Ab.lss rf rf) rf<|Aa.Af ?_
 refine Wp.cond rf (fun hb2=>?_) (fun hb2=>?_)
 ·
  obtain⟨hb2,hd⟩:=bT hb2 hd
  refine Wp.skip<|At.Ad<|Wp.seq<|Wp.block<|Wp.sr<|Aa.op (Ab.move rf) rf ?_
  have hb3:=hv4.le
  refine Aa.op (Ab.len Yd rf (hv4.mono (hl3.trans hl4)).sl) rf<|Aa.op (Ab.move rf) rf<|Aa.Af<|Wp.block<|Wp.A_ (fun m LL HH OO=> ∃(l2:List (List Int)),∃(m4:List (Cb×Bool)),∃(k2:Nat),∃(v9:Value),∃(xs4:List Value),[(0,(ptr B0 0)),(5,v4),(6,(.map (some B2))),(7,v9),(8,(.int .i64 (k1:Int))),(35,v4),(36,(.int .i64 (((BH x1).length:Nat):Int))),(37,(.int .i64 (k2:Int)))]=LL∧ .row v9 55 1 l2.length xs4:: .AM B0 (.cells #[v1,v2,(.int .i64 a0.2.2)] 66 (0,0))::Es (Ku u9) (Wc u4) B2 m4::O=OO∧Ax m (fun p nx=>CO fu a0 x1 k1 nx1 p.1 p.2.1 p.2.2 nx) (l2,m4,k2)=some r∧Au (cL Ao) HH l2 xs4) fu ⟨l1,m1,0,v8,xs3,rf,rf,hd,hq3⟩ (Sub.of rf) ?_
  intro m5 L2 H5 O2 hl5 hI2
  obtain⟨l2,m4,k2,v9,xs4,rfl,rfl,hd,hq4⟩:=hI2
  obtain⟨m6,nx2,rfl,hn2,hd⟩:=A9 hd
  replace hd:CO fu a0 x1 k1 nx1 l2 m4 k2 nx2=some r:=hd
  unfold CO at hd
  refine Wp.sr<|Aa.op (Ab.lss rf rf) rf<|Aa.Af<|Wp.seq ?_
  refine Wp.cond rf (fun hb4=>?_) (fun hb4=>?_)
  ·
   obtain⟨hb4,hd⟩:=bT hb4 hd
   refine Wp.skip<|At.Ad<|Wp.seq<|Wp.block<|Wp.seq ?_
   obtain⟨x3,hx3,hd⟩:=Ae hd
   have hx3_:=Ah hx3
   refine Wp.region ?_
   obtain⟨_,rfl,hc1⟩:=AW.get (hv4.mono ((hl3.trans hl4).trans hl5)) hx3
   refine Aa.op (Ab.Bo Yd BJ rf (hv4.mono ((hl3.trans hl4).trans hl5)).sl rf (Ah hx3)) rf<|Aa.op (Ab.C9 (vs:=[(Ak (word x3 0)),(Ak (word x3 1)),(Ak (word x3 2)),(Ak (word x3 3))]) LS rf BJ rf rf (fun j u hj=>(hc1 j u hj))) rf<|Aa.alloc (cs:=BV (fun _=>false)) BJ CQ rf fun B3=>Aa.AP (i:=0) (cs':= #[(Ak (word x3 0)),(Ak (word x3 1)),(Ak (word x3 2)),(Ak (word x3 3))]) rf rf BJ rf rf (Bc (Ac rf (Ac rf (Ac rf (Ac rf (As)))))) rf ?_
   refine Aa.own (O:=_::_::_::_::_) ?_ rf
   refine Aa.Af<|Wp.seq ?_
   have:=HT x3
   refine Wp.region<|Aa.op (Ab.AF (i:=0) LS rf BJ rf rf rf) rf<|Aa.op (Ab.call W7 rf (@Se _ _ x3)) rf<|Aa.op (Ab.move rf) rf<|Aa.op (Ab.extract rf rf) rf<|Aa.op (Ab.extract rf rf) rf<|Aa.op (Ab.assign rf) rf<|Aa.op (Ab.assign rf) rf ?_
   refine Aa.Af<|Wp.sr<|Aa.op (Ab.assign rf) rf<|Aa.op (Ab.assign rf) rf<|Aa.Af<|Wp.seq<|Wp.seq ?_
   obtain⟨x4,hx4,hd⟩:=Ae hd
   have hx4_:=Ah hx4
   refine Wp.region<|Aa.op (Ab.move rf) rf<|Aa.op (Ab.move rf) rf ?_
   obtain⟨_,⟨v10,rfl,hv6⟩,hc2,hc2_⟩:=Au.get hq4 (AG hx4).2
   refine Aa.op (Ab.Bu (j:=1) Ey Dx rf rf rf (Ah hx4)) rf<|Aa.op (Ab.Ch (i:=1) (k:=k1*1+0) BF rf rf rf (hc2 0 _ rf)) rf ?_
   have hb5:=hv6.le
   refine Aa.op (Ab.len BF rf hv6.sl) rf<|Aa.op (Ab.move rf) rf<|Aa.Af<|Wp.block<|Wp.BG 3 1<|Wp.BG 3 1<|Wp.A_ (fun m LL HH OO=> ∃(l3:List Int),∃(l4:List Int),∃(k3:Nat),∃(v11:Value),∃(xs5:List Value),∃(v12:Value),∃(xs6:List Value),[(0,(ptr B0 0)),(5,v4),(6,(.map (some B2))),(7,v9),(8,(.int .i64 (k1:Int))),(11,(.int .u8 ((De x3:Nat):Int))),(13,v11),(14,v12),(35,v4),(36,(.int .i64 (((BH x1).length:Nat):Int))),(37,(.int .i64 (k2:Int))),(49,v10),(50,(.int .i64 (x4.length:Int))),(51,(.int .i64 (k3:Int)))]=LL∧ .row v12 3 1 l4.length xs6:: .row v11 3 1 l3.length xs5:: .AM B3 (.cells #[(Ak (word x3 0)),(Ak (word x3 1)),(Ak (word x3 2)),(Ak (word x3 3))] 34 (0,0)):: .row v9 55 1 l2.length xs4:: .AM B0 (.cells #[v1,v2,(.int .i64 a0.2.2)] 66 (0,0))::Es (Ku u9) (Wc u4) B2 m4::O=OO∧Ax m (fun p nx=>CN fu a0 l2 m4 k2 nx2 x3 x4 p.1 p.2.1 p.2.2 nx) (l3,l4,k3)=some r∧Au Ao HH l3 xs5∧Au Ao HH l4 xs6) fu ⟨([]:List Int),([]:List Int),0,(.slice none 0 0),[],(.slice none 0 0),[],rf,rf,hd,(Au.nil (c:=Ao) (H:=H5)),(Au.nil (c:=Ao) (H:=H5))⟩ (Sub.of rf) ?_
   intro m7 L3 H6 O3 hl6 hI3
   obtain⟨l3,l4,k3,v11,xs5,v12,xs6,rfl,rfl,hd,hq5,hq6⟩:=hI3
   obtain⟨m8,nx3,rfl,hn3,hd⟩:=A9 hd
   replace hd:CN fu a0 l2 m4 k2 nx2 x3 x4 l3 l4 k3 nx3=some r:=hd
   unfold CN at hd
   refine Wp.sr<|Aa.op (Ab.lss rf rf) rf<|Aa.Af<|Wp.seq ?_
   refine Wp.cond rf (fun hb6=>?_) (fun hb6=>?_)
   ·
    obtain⟨hb6,hd⟩:=bT hb6 hd
    refine Wp.skip<|At.Ad<|Wp.seq<|Wp.block<|Wp.seq ?_
    obtain⟨x5,hx5,hd⟩:=Ae hd
    have hx5_:=Ah hx5
    refine Wp.region ?_
    obtain⟨_,rfl,hc3⟩:=AW.get (hv6.mono hl6) hx5
    refine Aa.op (Ab.Bo BF Cp rf (hv6.mono hl6).sl rf (Ah hx5)) rf<|Aa.op (Ab.FJ u3 rf rf (hc3 0 _ rf)) rf<|Aa.op (Ab.assign rf) rf<|Aa.Af<|Wp.seq ?_
    obtain⟨x6,hx6,hd⟩:=Ae hd
    have hx6_:=Ah hx6
    refine Wp.region<|Aa.op (Ab.move rf) rf<|Aa.op (Ab.nilCheck rf) rf<|Aa.op (Ab.AV (o':=1) IU rf rf) rf<|Aa.op (Ab.Am (i:=4) (v:=v2) u64 rf rf rf rf) rf<|Aa.op (Ab.move rf) rf ?_
    obtain⟨_,⟨v13,rfl,hv7⟩,hc4⟩:=AW.get (hv2.mono (((((hl1.trans hl2).trans hl3).trans hl4).trans hl5).trans hl6)) hx6
    refine Aa.op (Ab.Bo u64 PG rf (hv2.mono (((((hl1.trans hl2).trans hl3).trans hl4).trans hl5).trans hl6)).sl rf (Ah hx6)) rf<|Aa.op (Ab.FJ TA rf rf (hc4 0 _ rf)) rf ?_
    have hb7:=hv7.le
    refine Aa.op (Ab.len TA rf hv7.sl) rf<|Aa.op (Ab.move rf) rf<|Aa.Af<|Wp.block<|Wp.A_ (fun m LL HH OO=> ∃(l5:List Int),∃(l6:List Int),∃(k4:Nat),∃(v14:Value),∃(xs7:List Value),∃(v15:Value),∃(xs8:List Value),[(0,(ptr B0 0)),(5,v4),(6,(.map (some B2))),(7,v9),(8,(.int .i64 (k1:Int))),(11,(.int .u8 ((De x3:Nat):Int))),(13,v14),(14,v15),(35,v4),(36,(.int .i64 (((BH x1).length:Nat):Int))),(37,(.int .i64 (k2:Int))),(49,v10),(50,(.int .i64 (x4.length:Int))),(51,(.int .i64 (k3:Int))),(61,v13),(62,(.int .i64 (x6.length:Int))),(63,(.int .i64 (k4:Int)))]=LL∧ .row v15 3 1 l6.length xs8:: .row v14 3 1 l5.length xs7:: .AM B3 (.cells #[(Ak (word x3 0)),(Ak (word x3 1)),(Ak (word x3 2)),(Ak (word x3 3))] 34 (0,0)):: .row v9 55 1 l2.length xs4:: .AM B0 (.cells #[v1,v2,(.int .i64 a0.2.2)] 66 (0,0))::Es (Ku u9) (Wc u4) B2 m4::O=OO∧Ax m (fun p nx=>Dd fu x3 k3 nx3 x6 p.1 p.2.1 p.2.2 nx) (l5,l6,k4)=some r∧Au Ao HH l5 xs7∧Au Ao HH l6 xs8) fu ⟨l3,l4,0,v11,xs5,v12,xs6,rf,rf,hd,hq5,hq6⟩ (Sub.of rf) ?_
    intro m9 L4 H7 O4 hl7 hI4
    obtain⟨l5,l6,k4,v14,xs7,v15,xs8,rfl,rfl,hd,hq7,hq8⟩:=hI4
    obtain⟨m10,nx4,rfl,hn4,hd⟩:=A9 hd
    replace hd:Dd fu x3 k3 nx3 x6 l5 l6 k4 nx4=some r:=hd
    unfold Dd at hd
    refine Wp.sr<|Aa.op (Ab.lss rf rf) rf<|Aa.Af<|Wp.seq ?_
    refine Wp.cond rf (fun hb8=>?_) (fun hb8=>?_)
    ·
     obtain⟨hb8,hd⟩:=bT hb8 hd
     refine Wp.skip<|At.Ad<|Wp.seq<|Wp.block<|Wp.seq ?_
     obtain⟨x7,hx7,hd⟩:=Ae hd
     have hx7_:=Ah hx7
     refine Wp.region ?_
     obtain⟨_,⟨_,_,rfl,rfl,⟨_,_,rfl,rfl,rfl⟩⟩,hc5⟩:=AW.get (hv7.mono hl7) hx7
     refine Aa.op (Ab.Bo TA JU rf (hv7.mono hl7).sl rf (Ah hx7)) rf<|Aa.op (Ab.C9 (vs:=[(Ak (word x7.1 0)),(Ak (word x7.1 1)),(Ak (word x7.1 2)),(Ak (word x7.1 3)),(.int .i64 x7.2.1),(.int .i64 x7.2.2)]) ZF rf JU rf rf (fun j u hj=>(hc5 j u hj))) rf<|Aa.alloc (cs:= #[(Ak (word (fun _=>false) 0)),(Ak (word (fun _=>false) 1)),(Ak (word (fun _=>false) 2)),(Ak (word (fun _=>false) 3)),(.int .i64 0),(.int .i64 0)]) JU (by simp only[zw];rfl) rf fun B4=>Aa.AP (i:=0) (cs':= #[(Ak (word x7.1 0)),(Ak (word x7.1 1)),(Ak (word x7.1 2)),(Ak (word x7.1 3)),(.int .i64 x7.2.1),(.int .i64 x7.2.2)]) rf rf JU rf rf (Bc (Ac rf (Ac rf (Ac rf (Ac rf (Ac rf (Ac rf (As)))))))) rf ?_
     refine Aa.own (O:=_::_::_::_::_::_::_::_) ?_ rf
     refine Aa.Af<|Wp.sr<|Aa.op (Ab.AV (o':=0) Rq rf rf) rf<|Aa.op (Ab.GS (i:=0) (vs:=[(Ak (word x7.1 0)),(Ak (word x7.1 1)),(Ak (word x7.1 2)),(Ak (word x7.1 3))]) LS rf BJ rf rf rf) rf<|Aa.op (Ab.move rf) rf<|Aa.op (Ab.call M0 rf (@Qt _ _ x7.1 ((De x3:Nat):Int) (by omega) (by omega))) rf<|Aa.Af ?_
     refine Wp.cond rf (fun hb9=>?_) (fun hb9=>?_)
     ·
      replace hd:=Fs hb9 hd
      obtain⟨ha2,hd⟩:=Al hd
      obtain⟨ha3,hd⟩:=Al hd
      refine Wp.emp<|Wp.emp<|Aj.runK 9 [AU,AU,⟨[2],[],[]⟩,⟨[0],[0],[3]⟩,⟨[0,4],[4],[4]⟩,AU,AU,⟨[2],[],[]⟩,⟨[1],[1],[8]⟩,⟨[1,3],[3],[9]⟩,⟨[],[],[4]⟩,⟨[],[],[9]⟩] follows rf (by kernel_rfl)<|Aj.op (val:=fun p1=>v14) rf rf (fun _=>rfl) (fun _ p1 _ hx hf hy=>Ab.move rf) rf<|Aj.op (val:=fun p1=>(ptr B4 5)) rf rf (fun _=>rfl) (fun _ p1 _ hx hf hy=>Ab.AV (o':=5) XS rf rf) rf<|Aj.op (val:=fun p1=>(.int .i64 x7.2.2)) rf rf (fun _=>rfl) (fun _ p1 _ hx hf hy=>Ab.Am (i:=2) (v:=(.int .i64 x7.2.2)) u3 rf rf (hy 2 _ rf rf) rf) rf<|Aj.Hs (res:=fun p1=> .row (p1 3) 3 1 1 [(.int .i64 x7.2.2)]) 0 rf rf rf (fun _=>rfl) (fun _ p1 _ hx hf hy=>BC.EO (v:=(.int .i64 x7.2.2)) (cs:=[(.int .i64 x7.2.2)]) 0 BF Cp rf rf rf rf rf (hy 0 _ rf rf)) rf (fun _=>⟨_,_,_,_,rf⟩)<|Aj.Hs (res:=fun p1=> .row (p1 4) 3 1 (l5.length+1) (xs7++[(.int .i64 x7.2.2)])) 4 rf rf rf (fun _=>rfl) (fun _ p1 _ hx hf hy=>BC.M' 4 0 BF Cp rf rf rf rf (hy 4 _ rf rf) (hy 0 _ rf rf) (Ac rf (As)) rf ha2) rf (fun _=>⟨_,_,_,_,rf⟩) ?_
      refine Aj.op (val:=fun p1=>v15) rf rf (fun _=>rfl) (fun _ p1 _ hx hf hy=>Ab.move rf) rf<|Aj.op (val:=fun p1=>(ptr B4 4)) rf rf (fun _=>rfl) (fun _ p1 _ hx hf hy=>Ab.AV (o':=4) UI rf rf) rf<|Aj.op (val:=fun p1=>(.int .i64 x7.2.1)) rf rf (fun _=>rfl) (fun _ p1 _ hx hf hy=>Ab.Am (i:=2) (v:=(.int .i64 x7.2.1)) u3 rf rf (hy 2 _ rf rf) rf) rf<|Aj.Hs (res:=fun p1=> .row (p1 8) 3 1 1 [(.int .i64 x7.2.1)]) 1 rf rf rf (fun _=>rfl) (fun _ p1 _ hx hf hy=>BC.EO (v:=(.int .i64 x7.2.1)) (cs:=[(.int .i64 x7.2.1)]) 1 BF Cp rf rf rf rf rf (hy 1 _ rf rf)) rf (fun _=>⟨_,_,_,_,rf⟩)<|Aj.Hs (res:=fun p1=> .row (p1 9) 3 1 (l6.length+1) (xs8++[(.int .i64 x7.2.1)])) 3 rf rf rf (fun _=>rfl) (fun _ p1 _ hx hf hy=>BC.M' 3 1 BF Cp rf rf rf rf (hy 3 _ rf rf) (hy 1 _ rf rf) (Ac rf (As)) rf ha3) rf (fun _=>⟨_,_,_,_,rf⟩)<|Aj.op (val:=fun p1=>(p1 4)) rf rf (fun _=>rfl) (fun _ p1 _ hx hf hy=>Ab.assign rf) rf<|Aj.op (val:=fun p1=>(p1 9)) rf rf (fun _=>rfl) (fun _ p1 _ hx hf hy=>Ab.assign rf) rf<|Aj.done fun H8 p1 hl8 hF1=>?_
      refine At.sub (L':=[(0,(ptr B0 0)),(5,v4),(6,(.map (some B2))),(7,v9),(8,(.int .i64 (k1:Int))),(11,(.int .u8 ((De x3:Nat):Int))),(13,(p1 4)),(14,(p1 9)),(35,v4),(36,(.int .i64 (((BH x1).length:Nat):Int))),(37,(.int .i64 (k2:Int))),(49,v10),(50,(.int .i64 (x4.length:Int))),(51,(.int .i64 (k3:Int))),(61,v13),(62,(.int .i64 (x6.length:Int))),(63,(.int .i64 (k4:Int)))]) (Sub.of rf) ?_
      refine At.own (O:= .row (p1 3) 3 1 ([x7.2.2]:List Int).length [(.int .i64 x7.2.2)]:: .row (p1 8) 3 1 ([x7.2.1]:List Int).length [(.int .i64 x7.2.1)]:: .AM B4 (.cells #[(Ak (word x7.1 0)),(Ak (word x7.1 1)),(Ak (word x7.1 2)),(Ak (word x7.1 3)),(.int .i64 x7.2.1),(.int .i64 x7.2.2)] 96 (0,0)):: .row (p1 9) 3 1 (l6++([x7.2.1]:List Int)).length (xs8++[(.int .i64 x7.2.1)]):: .row (p1 4) 3 1 (l5++([x7.2.2]:List Int)).length (xs7++[(.int .i64 x7.2.2)]):: .AM B3 (.cells #[(Ak (word x3 0)),(Ak (word x3 1)),(Ak (word x3 2)),(Ak (word x3 3))] 34 (0,0)):: .row v9 55 1 l2.length xs4:: .AM B0 (.cells #[v1,v2,(.int .i64 a0.2.2)] 66 (0,0))::Es (Ku u9) (Wc u4) B2 m4::O) ?_ (by first|rfl|(simp only[List.length_append,List.length_set];rfl)|simp)
      have hq9:Au Ao H8 (l6++([x7.2.1]:List Int)) (xs8++[(.int .i64 x7.2.1)]):=(Au.app (hq8.mono hl8) (Au.Kj (c:=Ao) (a:=x7.2.1) (cs:=[(.int .i64 x7.2.1)]) rfl))
      have hq10:Au Ao H8 (l5++([x7.2.2]:List Int)) (xs7++[(.int .i64 x7.2.2)]):=(Au.app (hq7.mono hl8) (Au.Kj (c:=Ao) (a:=x7.2.2) (cs:=[(.int .i64 x7.2.2)]) rfl))
      refine At.AR [2,3,4,5,6,7,8] 9 rf rf rf<|At.AE<|At.Ad<|Wp.region<|Aa.op (Ab.add rf rf (Aq (by omega))) rf<|Aa.op (Ab.move rf) rf<|Aa.nil<|At.AR [1,2,3,4,5,6] 7 rf rf rf ?_
      refine At.AO hl8 ⟨(l5++([x7.2.2]:List Int)),(l6++([x7.2.1]:List Int)),(k4+1),(p1 4),xs7++[(.int .i64 x7.2.2)],(p1 9),xs8++[(.int .i64 x7.2.1)],rf,rf,(by rw[←hn4];exact hd),hq10,hq9⟩ (Sub.of rf)
     replace hd:=Ft hb9 hd
     refine Wp.skip<|At.AE<|At.Ad<|Wp.region<|Aa.op (Ab.add rf rf (Aq (by omega))) rf<|Aa.op (Ab.move rf) rf<|Aa.nil<|At.AR [1,2,3,4,5,6] 7 rf rf rf ?_
     refine At.AO (Hp.le.refl _) ⟨l5,l6,(k4+1),v14,xs7,v15,xs8,rf,rf,(by rw[←hn4];exact hd),hq7,hq8⟩ (Sub.of rf)
    obtain⟨hb8,hd⟩:=bF hb8 hd
    refine Wp.exit<|At.An<|At.An<|At.Az<|At.AE<|At.Ad<|Wp.region<|Aa.op (Ab.add rf rf (Aq (by omega))) rf ?_
    refine Aa.op (Ab.move rf) rf<|Aa.nil ?_
    refine At.AO hl7 ⟨l5,l6,(k3+1),v14,xs7,v15,xs8,rf,rf,(by rw[←hn3];exact hd),hq7,hq8⟩ (Sub.of rf)
   obtain⟨hb6,hd⟩:=bF hb6 hd
   refine Wp.exit<|At.An<|At.An<|At.Az<|At.Ad<|Wp.seq ?_
   obtain⟨ha4,hd⟩:=Al hd
   refine Wp.region<|Aa.op (Ab.move rf) rf<|Aa.AR [1,0,2,3,4,5] 6 rf rf rf<|Aa.E8 (BC.call Y7 rf (Yr hq5 ha4)) rf ?_
   rintro _ H9 _ hl9 ⟨xs9,rfl,hq11,rfl⟩
   refine Aa.Af<|Wp.seq ?_
   obtain⟨x8,hx8,hd⟩:=Ae hd
   refine Wp.region<|Aa.op (Ab.move rf) rf ?_
   refine Aa.A7 (i:=0) rf fun hb10=>?_
   refine Aa.freeze (i:=0) rf fun H10 hl10 hs1=>?_
   have hv8:=AW.of (c:=Ao) hs1 rfl (hq11.mono hl10) hb10
   refine Aa.op (Ab.call UW rf (M_ hv8 (hG.mono (((((((hl1.trans hl2).trans hl3).trans hl4).trans hl5).trans hl6).trans hl9).trans hl10)) hx8)) rf<|Aa.op (Ab.assign rf) rf<|Aa.Af<|Wp.seq<|Wp.seq ?_
   rcases Bool.eq_false_or_eq_true (decide ((((CD l3).length:Nat):Int)=0))with hg1|hg1
   ·
    obtain⟨hg1_,hd⟩:=bT hg1 hd
    refine Wp.region<|Aa.op (Ab.move rf) rf ?_
    have hb11:=hv8.le
    refine Aa.op (Ab.len BF rf hv8.sl) rf<|Aa.op (Ab.Bg (b:=decide ((((CD l3).length:Nat):Int)=0)) (c:=true) (Ab.eql rf rf) hg1) rf<|Aa.op (Ab.move rf) rf<|Aa.Ai rf rf rf rf<|Aa.Ai rf rf rf rf<|Aa.Ai rf rf rf rf<|Aa.op (Ab.AK rf rf) rf<|Aa.Af ?_
    refine Wp.D_ rf<|Wp.exit<|At.An<|At.Az<|At.Ad<|Wp.region<|Aa.op (Ab.add rf rf (Aq (by omega))) rf<|Aa.op (Ab.move rf) rf ?_
    refine Aa.nil<|At.AR [2,3,4] 5 rf rf rf ?_
    refine At.AO ((hl6.trans hl9).trans hl10) ⟨l2,m4,(k2+1),v9,xs4,rf,rf,(by rw[←hn2];exact hd),(hq4.mono ((hl6.trans hl9).trans hl10))⟩ (Sub.of rf)
   obtain⟨hg1_,hd⟩:=bF hg1 hd
   obtain⟨ha5,hd⟩:=Al hd
   refine Wp.region<|Aa.op (Ab.move rf) rf ?_
   have hb11:=hv8.le
   refine Aa.op (Ab.len BF rf hv8.sl) rf<|Aa.op (Ab.Bg (b:=decide ((((CD l3).length:Nat):Int)=0)) (c:=false) (Ab.eql rf rf) hg1) rf<|Aa.op (Ab.move rf) rf<|Aa.Ay rf rf (Ab.move rf) rf<|Aa.Ay rf rf (Ab.move rf) rf<|Aa.Ay rf rf (Ab.lookup (K:=(Ku u9)) (M:=(Wc u4)) (i:=4) (k:=x8) (z:=false) Xm ES trivial rf rf ha5 rf) rf<|Aa.op (Ab.AA rf rf) rf<|Aa.Af ?_
   refine Wp.cond rf (fun hb12=>?_) (fun hb12=>?_)
   ·
    replace hd:=Fs hb12 hd
    refine Wp.exit<|At.An<|At.Az<|At.Ad<|Wp.region<|Aa.op (Ab.add rf rf (Aq (by omega))) rf<|Aa.op (Ab.move rf) rf<|Aa.nil ?_
    refine At.AR [2,3,4] 5 rf rf rf ?_
    refine At.AO ((hl6.trans hl9).trans hl10) ⟨l2,m4,(k2+1),v9,xs4,rf,rf,(by rw[←hn2];exact hd),(hq4.mono ((hl6.trans hl9).trans hl10))⟩ (Sub.of rf)
   replace hd:=Ft hb12 hd
   refine Wp.skip<|At.Ad<|Wp.seq<|Wp.sr<|Aa.op (Ab.move rf) rf<|Aa.op (Ab.OW (K:=(Ku u9)) (M:=(Wc u4)) (i:=4) Xm rf rf) rf<|Aa.op (Ab.eql rf rf) rf<|Aa.Af ?_
   refine Wp.cond rf (fun hb13=>?_) (fun hb13=>?_)
   ·
    obtain⟨hb13,hd⟩:=bT hb13 hd
    refine Wp.sr<|Aa.op (Ab.assign rf) rf<|Aa.Af<|Wp.ret<|At.Av<|At.Be<|At.Av<|At.Av ?_
    refine At.Be<|At.Be<|At.Av<|At.Av<|At.Be<|At.Av ?_
    obtain rfl:=si hd
    exact At.DB rf (RV.tmp (v:=(.bool true)) rf) (fun w hs=>⟨rf,(hs.AR [3] 5 rf rf rf).weaken (((((((hl1.trans hl2).trans hl3).trans hl4).trans hl5).trans hl6).trans hl9).trans hl10)⟩)
   obtain⟨hb13,hd⟩:=bF hb13 hd
   refine Wp.skip<|At.Ad<|Wp.seq ?_
   obtain⟨ha6,hd⟩:=Al hd
   obtain⟨ha7,hd⟩:=Al hd
   refine Wp.region<|Aa.op (Ab.move rf) rf<|Aa.op (Ab.move rf) rf<|Aa.mapUpdate (K:=(Ku u9)) (M:=(Wc u4)) (k:=x8) (v:=true) 4 Xm rf rf rf ha6 trivial ha7 rf<|Aa.Af ?_
   obtain⟨x9,hx9,hd⟩:=Ae hd
   obtain⟨ha8,hd⟩:=Al hd
   refine Wp.region<|Aa.op (Ab.move rf) rf<|Aa.op (Ab.move rf) rf<|Aa.op (Ab.move rf) rf<|Aa.AR [3,0,1,2,4] 5 rf rf rf<|Aa.E8 (BC.call Sn rf (EP (hv1.mono (((((((hl1.trans hl2).trans hl3).trans hl4).trans hl5).trans hl6).trans hl9).trans hl10)) (hv2.mono (((((((hl1.trans hl2).trans hl3).trans hl4).trans hl5).trans hl6).trans hl9).trans hl10)) (hq6.mono (hl9.trans hl10)) hx9)) rf ?_
   rintro _ H11 _ hl11 ⟨⟨v16,rfl,hv9⟩,rfl⟩
   refine Aa.A1 (c:=(cL Ao)) (y:=x9) (cs:=[v16]) Ey Dx rf rf rf (DZ hv9.one) (⟨_,rf,hv9⟩) rf fun v17 xs10 hq12=>Aa.Df (i:=3) (j:=0) (hq4.mono (((hl6.trans hl9).trans hl10).trans hl11)) hq12 Ey Dx rf (by decide) rf rf rf rf (by decide) ha8 rf fun v18 xs11 hq13=>Aa.drop (i:=0)<|Aa.op (Ab.assign rf) rf<|Aa.nil<|At.AE<|At.Ad<|Wp.region ?_
   refine Aa.op (Ab.add rf rf (Aq (by omega))) rf<|Aa.op (Ab.move rf) rf<|Aa.nil<|At.AR [2,0,3] 4 rf rf rf ?_
   refine At.AO (((hl6.trans hl9).trans hl10).trans hl11) ⟨(l2++([x9]:List (List Int))),(DY m4 x8 true),(k2+1),v18,xs11,rf,rf,(by rw[←hn2];exact hd),hq13⟩ (Sub.of rf)
  obtain⟨hb4,hd⟩:=bF hb4 hd
  refine Wp.exit<|At.An<|At.An<|At.Az<|At.AE<|At.Ad<|Wp.region<|Aa.op (Ab.move rf) rf ?_
  refine Aa.op (Ab.add rf rf (Aq (by omega))) rf<|Aa.op (Ab.assign rf) rf<|Aa.nil ?_
  refine At.AO hl5 ⟨l2,m4,(k1+1),v9,xs4,rf,rf,(by rw[←hn1];exact hd),hq4⟩ (Sub.of rf)
 obtain⟨hb2,hd⟩:=bF hb2 hd
 refine Wp.exit<|At.An<|At.An<|At.Az<|At.Ad<|Wp.sr<|Aa.op (Ab.assign rf) rf<|Aa.Af ?_
 refine Wp.ret ?_
 obtain rfl:=si hd
 exact At.DB rf (RV.tmp (v:=(.bool false)) rf) (fun w hs=>⟨rf,(hs.AR [1] 3 rf rf rf).weaken (((hl1.trans hl2).trans hl3).trans hl4)⟩)
theorem Mm{fu:Nat}{a0:List Int}{a1:Int}{v1:Value}{r:Int}(hv1:AW Ao H a0 v1)(hd:GZ fu a0 a1=some r):
    Ca Tryz.prog 80 [v1,(.int .i64 a1)] H O (.int .i64 r):=by
 intro w hs
 refine Bz Tryz.func80 rf rf rf ?_ hs
 clear hs w
 unfold GZ at hd
 refine Wp.sr<|Aa.op (Ab.assign rf) rf<|Aa.Af<|Wp.seq<|Wp.sr<|Aa.op (Ab.move rf) rf ?_
 have hb1:=hv1.le
 refine Aa.op (Ab.len BF rf hv1.sl) rf<|Aa.op (Ab.move rf) rf<|Aa.Af<|Wp.block<|Wp.A_ (fun m LL HH OO=> ∃(k1:Nat),[(0,v1),(1,(.int .i64 a1)),(7,(.int .i64 (a0.length:Int))),(8,(.int .i64 (k1:Int)))]=LL∧O=OO∧Ax m (Dh fu a0 a1) k1=some r) fu ⟨0,rf,rf,hd⟩ (Sub.of rf) ?_
 intro m1 L1 H1 O1 hl1 hI1
 obtain⟨k1,rfl,rfl,hd⟩:=hI1
 obtain⟨m2,nx1,rfl,hn1,hd⟩:=A9 hd
 replace hd:Dh fu a0 a1 k1 nx1=some r:=hd
 unfold Dh at hd
 refine Wp.sr<|Aa.op (Ab.lss rf rf) rf<|Aa.Af<|Wp.seq ?_
 refine Wp.cond rf (fun hb2=>?_) (fun hb2=>?_)
 ·
  obtain⟨hb2,hd⟩:=bT hb2 hd
  refine Wp.skip<|At.Ad<|Wp.seq<|Wp.block<|Wp.sr<|Aa.op (Ab.move rf) rf<|Aa.op (Ab.assign rf) rf<|Aa.Af ?_
  refine Wp.seq ?_
  obtain⟨x1,hx1,hd⟩:=Ae hd
  have hx1_:=Ah hx1
  refine Wp.region<|Aa.op (Ab.move rf) rf<|Aa.op (Ab.move rf) rf<|Aa.op (Ab.move rf) rf ?_
  obtain⟨_,rfl,hc1⟩:=AW.get (hv1.mono hl1) hx1
  refine Aa.op (Ab.Bo BF Cp rf (hv1.mono hl1).sl rf (Ah hx1)) rf<|Aa.op (Ab.FJ u3 rf rf (hc1 0 _ rf)) rf<|Aa.op (Ab.eql rf rf) rf<|Aa.Af ?_
  refine Wp.cond rf (fun hb3=>?_) (fun hb3=>?_)
  ·
   obtain⟨hb3,hd⟩:=bT hb3 hd
   refine Wp.sr<|Aa.op (Ab.move rf) rf<|Aa.op (Ab.assign rf) rf<|Aa.Af<|Wp.ret<|At.Be<|At.Av<|At.Av ?_
   refine At.Be<|At.Av ?_
   obtain rfl:=si hd
   exact At.q1 0 hl1 rf (RV.tmp rf) rf
  obtain⟨hb3,hd⟩:=bF hb3 hd
  refine Wp.skip<|At.AE<|At.Ad<|Wp.region<|Aa.op (Ab.add rf rf (Aq (by omega))) rf<|Aa.op (Ab.move rf) rf<|Aa.nil ?_
  refine At.AO (Hp.le.refl _) ⟨(k1+1),rf,rf,(by rw[←hn1];exact hd)⟩ (Sub.of rf)
 obtain⟨hb2,hd⟩:=bF hb2 hd
 refine Wp.exit<|At.An<|At.An<|At.Az<|At.Ad<|Wp.sr<|Aa.op (Ab.assign rf) rf<|Aa.Af ?_
 refine Wp.ret ?_
 obtain rfl:=si hd
 exact At.q1 0 hl1 rf (RV.tmp rf) rf
theorem Ki{fu:Nat}{a0:List Int}{a1:Int}{v1:Value}{r:Bool}(hv1:AW Ao H a0 v1)(hd:Ef fu a0 a1=some r):
  Ca Tryz.prog 61 [v1,(.int .i64 a1)] H O (.bool r):=by
 intro w hs
 refine Bz Tryz.func61 rf rf rf ?_ hs
 clear hs w
 unfold Ef at hd
 refine Wp.sr<|Aa.op (Ab.assign rf) rf<|Aa.Af<|Wp.seq ?_
 obtain⟨x1,hx1,hd⟩:=Ae hd
 refine Wp.region<|Aa.op (Ab.move rf) rf<|Aa.op (Ab.move rf) rf<|Aa.op (Ab.call YY rf (Mm hv1 hx1)) rf<|Aa.op (Ab.geq rf rf) rf<|Aa.op (Ab.assign rf) rf<|Aa.Af<|Wp.ret ?_
 obtain rfl:=si hd
 exact At.q1 0 (Hp.le.refl _) rf (RV.tmp rf) rf
end Go.Proofs.YtjmbmodmepdmjaaGreatDoor
