/- Part 4 of the texts of this claim: what its theorem leans on. -/
import Derived.Test.YtjmbmodmepdmjabGreatDoorZAutomatonMatches3
set_option maxRecDepth 100000
set_option maxHeartbeats 4000000
namespace Go.Proofs.YtjmbmodmepdmjabGreatDoor
open Go.GK
variable {H : Hp} {O : List A2}
theorem HD{fu:Nat}{a0:List (Bool×(List (Int×Int×Int)))}{v1:Value}{r:Bool}(hv1:AL (cP cB (cL (cP A0 (cP A0 Ar)))) H a0 v1)(hd:DH fu a0=some r):
    CB Tryz.prog 22 [v1] H O (.bool r):=by
 intro w hs
 refine Bo Tryz.func22 rf rf rf ?_ hs
 clear hs w
 unfold DH at hd
 refine Wp.sr<|Aa.op (Ab.assign rf) rf<|Aa.Ah<|Wp.seq<|Wp.sr<|Aa.op (Ab.move rf) rf ?_
 have hb1:=hv1.le
 refine Aa.op (Ab.len C9 rf hv1.sl) rf<|Aa.op (Ab.move rf) rf<|Aa.Ah<|Wp.block<|Wp.Bt (fun m LL HH OO=> ∃(k1:Nat),[(0,v1),(7,v1),(8,(.int .i64 (a0.length:Int))),(9,(.int .i64 (k1:Int)))]=LL∧O=OO∧Ax m (CL fu a0) k1=some r) fu ⟨0,rf,rf,hd⟩ (Sub.of rf) ?_
 intro m1 L1 H1 O1 hl1 hI1
 obtain⟨k1,rfl,rfl,hd⟩:=hI1
 obtain⟨m2,nx1,rfl,hn1,hd⟩:=Bm hd
 replace hd:CL fu a0 k1 nx1=some r:=hd
 unfold CL at hd
 refine Wp.sr<|Aa.op (Ab.lss rf rf) rf<|Aa.Ah<|Wp.seq ?_
 refine Wp.cond rf (fun hb2=>?_) (fun hb2=>?_)
 ·
  obtain⟨hb2,hd⟩:=bT hb2 hd
  refine Wp.skip<|At.Ae<|Wp.seq<|Wp.block<|Wp.seq ?_
  obtain⟨x1,hx1,hd⟩:=Ag hd
  have hx1_:=Aj hx1
  refine Wp.region ?_
  obtain⟨_,⟨_,_,rfl,rfl,⟨v2,rfl,hv2⟩⟩,hc1⟩:=AL.get (hv1.mono hl1) hx1
  refine Aa.op (Ab.Bz C9 BX rf (hv1.mono hl1).sl rf (Aj hx1)) rf<|Aa.op (Ab.DA (vs:=[(.bool x1.1),v2]) Sq rf BX rf rf (fun j u hj=>(hc1 j u hj))) rf<|Aa.alloc (cs:= #[(.bool false),(.slice none 0 0)]) BX rf rf fun B2=>Aa.AM (i:=0) (cs':= #[(.bool x1.1),v2]) rf rf BX rf rf (Bd (Ac rf (Ac hv2.one (An)))) rf ?_
  refine Aa.own (O:=_::_) ?_ rf
  refine Aa.Ah<|Wp.sr<|Aa.op (Ab.A6 (o':=1) Ct rf rf) rf<|Aa.op (Ab.Am (i:=0) (v:=v2) EL rf rf rf rf) rf ?_
  have hb3:=hv2.le
  refine Aa.op (Ab.len EL rf hv2.sl) rf<|Aa.op (Ab.move rf) rf<|Aa.Ah<|Wp.block<|Wp.Bt (fun m LL HH OO=> ∃(k2:Nat),[(0,v1),(4,(ptr B2 0)),(7,v1),(8,(.int .i64 (a0.length:Int))),(9,(.int .i64 (k1:Int))),(14,v2),(15,(.int .i64 (x1.2.length:Int))),(16,(.int .i64 (k2:Int)))]=LL∧ .Az B2 (.cells #[(.bool x1.1),v2] 45 (0,0))::O=OO∧Ax m (CK fu a0 k1 nx1 x1) k2=some r) fu ⟨0,rf,rf,hd⟩ (Sub.of rf) ?_
  intro m3 L2 H2 O2 hl2 hI2
  obtain⟨k2,rfl,rfl,hd⟩:=hI2
  obtain⟨m4,nx2,rfl,hn2,hd⟩:=Bm hd
  replace hd:CK fu a0 k1 nx1 x1 k2 nx2=some r:=hd
  unfold CK at hd
  refine Wp.sr<|Aa.op (Ab.lss rf rf) rf<|Aa.Ah<|Wp.seq ?_
  refine Wp.cond rf (fun hb4=>?_) (fun hb4=>?_)
  ·
   obtain⟨hb4,hd⟩:=bT hb4 hd
   refine Wp.skip<|At.Ae<|Wp.seq<|Wp.block<|Wp.seq ?_
   obtain⟨x2,hx2,hd⟩:=Ag hd
   have hx2_:=Aj hx2
   refine Wp.region<|Aa.op (Ab.move rf) rf ?_
   obtain⟨_,⟨_,_,rfl,⟨rfl,hr1,hr2⟩,⟨_,_,rfl,⟨rfl,hr3,hr4⟩,rfl⟩⟩,hc2⟩:=AL.get (hv2.mono hl2) hx2
   refine Aa.op (Ab.Bz EL Cz rf (hv2.mono hl2).sl rf (Aj hx2)) rf<|Aa.op (Ab.DA (vs:=[(.int .u8 x2.1),(.int .u8 x2.2.1),(.int .i64 x2.2.2)]) V4 rf Cz rf rf (fun j u hj=>(hc2 j u hj))) rf<|Aa.alloc (cs:= #[(.int .u8 0),(.int .u8 0),(.int .i64 0)]) Cz rf rf fun B3=>Aa.op (Ab.assign rf) rf<|Aa.AM (i:=0) (cs':= #[(.int .u8 x2.1),(.int .u8 x2.2.1),(.int .i64 x2.2.2)]) rf rf Cz rf rf (Bd (Ac rf (Ac rf (Ac rf (An))))) rf ?_
   refine Aa.own (O:=_::_::_) ?_ rf
   refine Aa.Ah<|Wp.seq ?_
   rcases Bool.eq_false_or_eq_true (decide (x2.2.1<x2.1))with hg1|hg1
   ·
    obtain⟨hg1_,hd⟩:=bT hg1 hd
    refine Wp.Ea 33 follows rf (by kernel_rfl)<|Ai.A7 (Ab.A6 (o':=0) Gh rf rf) rf<|Ai.A7 (Ab.Am (i:=0) (v:=(.int .u8 x2.1)) u5 rf rf rf rf) rf<|Ai.A7 (Ab.A6 (o':=1) Gg rf rf) rf<|Ai.A7 (Ab.Am (i:=0) (v:=(.int .u8 x2.2.1)) u5 rf rf rf rf) rf<|Ai.A7 (Ab.BR (b:=decide (x2.2.1<x2.1)) (c:=true) (Ab.gtr rf rf) hg1) rf<|Ai.A7 (Ab.move rf) rf<|Ai.AE rf rf rf rf ?_
    refine Ai.AE rf rf rf rf<|Ai.AE rf rf rf rf<|Ai.A7 (Ab.AU rf rf) rf<|Ai.A7 (Ab.move rf) rf<|Ai.AE rf rf rf rf<|Ai.AE rf rf rf rf<|Ai.AE rf rf rf rf<|Ai.AE rf rf rf rf ?_
    refine Ai.AE rf rf rf rf<|Ai.A7 (Ab.AU rf rf) rf<|Ai.A7 (Ab.move rf) rf<|Ai.AE rf rf rf rf<|Ai.AE rf rf rf rf<|Ai.AE rf rf rf rf<|Ai.B9 rf rf rf<|Ai.B9 rf rf rf ?_
    refine Ai.B9 rf rf rf<|Ai.B9 rf rf rf<|Ai.B9 rf rf rf<|Ai.B9 rf rf rf<|Ai.B9 rf rf rf<|Ai.B9 rf rf rf<|Ai.B9 rf rf rf<|Ai.B9 rf rf rf ?_
    refine Ai.AE rf rf rf rf<|Ai.A7 (Ab.AU rf rf) rf<|Ai.Eb<|As.is (t:=0) rf<|As.is (t:=4) rf<|As.is (t:=7) rf<|As.is (t:=8) rf<|As.is (t:=9) rf ?_
    refine As.is (t:=14) rf<|As.is (t:=15) rf<|As.is (t:=16) rf<|As.is (t:=53) rf<|As.Me<|Aa.Ah<|Wp.EY rf<|Wp.sr ?_
    refine Aa.op (Ab.assign rf) rf<|Aa.Ah<|Wp.ret<|At.A9<|At.Au<|At.Au<|At.A9<|At.A9 ?_
    refine At.Au<|At.Au<|At.A9<|At.Au ?_
    obtain rfl:=si hd
    exact At.q1 2 (hl1.trans hl2) rf (RV.tmp rf) rf
   obtain⟨hg1_,hd⟩:=bF hg1 hd
   rcases Bool.eq_false_or_eq_true (decide (x2.2.2<0))with hg2|hg2
   ·
    obtain⟨hg2_,hd⟩:=bT hg2 hd
    refine Wp.Ea 33 follows rf (by kernel_rfl)<|Ai.A7 (Ab.A6 (o':=0) Gh rf rf) rf<|Ai.A7 (Ab.Am (i:=0) (v:=(.int .u8 x2.1)) u5 rf rf rf rf) rf<|Ai.A7 (Ab.A6 (o':=1) Gg rf rf) rf<|Ai.A7 (Ab.Am (i:=0) (v:=(.int .u8 x2.2.1)) u5 rf rf rf rf) rf<|Ai.A7 (Ab.BR (b:=decide (x2.2.1<x2.1)) (c:=false) (Ab.gtr rf rf) hg1) rf<|Ai.A7 (Ab.move rf) rf<|Ai.Be rf rf (Ab.A6 (o':=2) Gf rf rf) rf ?_
    refine Ai.Be rf rf (Ab.Am (i:=0) (v:=(.int .i64 x2.2.2)) u3 rf rf rf rf) rf<|Ai.Be rf rf (Ab.BR (b:=decide (x2.2.2<0)) (c:=true) (Ab.lss rf rf) hg2) rf<|Ai.A7 (Ab.AP rf rf) rf<|Ai.A7 (Ab.move rf) rf<|Ai.AE rf rf rf rf<|Ai.AE rf rf rf rf<|Ai.AE rf rf rf rf<|Ai.AE rf rf rf rf ?_
    refine Ai.AE rf rf rf rf<|Ai.A7 (Ab.AU rf rf) rf<|Ai.A7 (Ab.move rf) rf<|Ai.AE rf rf rf rf<|Ai.AE rf rf rf rf<|Ai.AE rf rf rf rf<|Ai.B9 rf rf rf<|Ai.B9 rf rf rf ?_
    refine Ai.B9 rf rf rf<|Ai.B9 rf rf rf<|Ai.B9 rf rf rf<|Ai.B9 rf rf rf<|Ai.B9 rf rf rf<|Ai.B9 rf rf rf<|Ai.B9 rf rf rf<|Ai.B9 rf rf rf ?_
    refine Ai.AE rf rf rf rf<|Ai.A7 (Ab.AU rf rf) rf<|Ai.Eb<|As.is (t:=0) rf<|As.is (t:=4) rf<|As.is (t:=7) rf<|As.is (t:=8) rf<|As.is (t:=9) rf ?_
    refine As.is (t:=14) rf<|As.is (t:=15) rf<|As.is (t:=16) rf<|As.is (t:=53) rf<|As.Me<|Aa.Ah<|Wp.EY rf<|Wp.sr ?_
    refine Aa.op (Ab.assign rf) rf<|Aa.Ah<|Wp.ret<|At.A9<|At.Au<|At.Au<|At.A9<|At.A9 ?_
    refine At.Au<|At.Au<|At.A9<|At.Au ?_
    obtain rfl:=si hd
    exact At.q1 2 (hl1.trans hl2) rf (RV.tmp rf) rf
   obtain⟨hg2_,hd⟩:=bF hg2 hd
   rcases Bool.eq_false_or_eq_true (decide ((a0.length:Int)≤x2.2.2))with hg3|hg3
   ·
    obtain⟨hg3_,hd⟩:=bT hg3 hd
    have hb5:=hv1.le
    refine Wp.Ea 33 follows rf (by kernel_rfl)<|Ai.A7 (Ab.A6 (o':=0) Gh rf rf) rf<|Ai.A7 (Ab.Am (i:=0) (v:=(.int .u8 x2.1)) u5 rf rf rf rf) rf<|Ai.A7 (Ab.A6 (o':=1) Gg rf rf) rf<|Ai.A7 (Ab.Am (i:=0) (v:=(.int .u8 x2.2.1)) u5 rf rf rf rf) rf<|Ai.A7 (Ab.BR (b:=decide (x2.2.1<x2.1)) (c:=false) (Ab.gtr rf rf) hg1) rf<|Ai.A7 (Ab.move rf) rf<|Ai.Be rf rf (Ab.A6 (o':=2) Gf rf rf) rf ?_
    refine Ai.Be rf rf (Ab.Am (i:=0) (v:=(.int .i64 x2.2.2)) u3 rf rf rf rf) rf<|Ai.Be rf rf (Ab.BR (b:=decide (x2.2.2<0)) (c:=false) (Ab.lss rf rf) hg2) rf<|Ai.A7 (Ab.AP rf rf) rf<|Ai.A7 (Ab.move rf) rf<|Ai.Be rf rf (Ab.A6 (o':=2) Gf rf rf) rf<|Ai.Be rf rf (Ab.Am (i:=0) (v:=(.int .i64 x2.2.2)) u3 rf rf rf rf) rf<|Ai.Be rf rf (Ab.move rf) rf<|Ai.Be rf rf (Ab.len C9 rf (hv1.mono (hl1.trans hl2)).sl) rf ?_
    refine Ai.Be rf rf (Ab.BR (b:=decide ((a0.length:Int)≤x2.2.2)) (c:=true) (Ab.geq rf rf) hg3) rf<|Ai.A7 (Ab.AP rf rf) rf<|Ai.A7 (Ab.move rf) rf<|Ai.AE rf rf rf rf<|Ai.AE rf rf rf rf<|Ai.AE rf rf rf rf<|Ai.B9 rf rf rf<|Ai.B9 rf rf rf ?_
    refine Ai.B9 rf rf rf<|Ai.B9 rf rf rf<|Ai.B9 rf rf rf<|Ai.B9 rf rf rf<|Ai.B9 rf rf rf<|Ai.B9 rf rf rf<|Ai.B9 rf rf rf<|Ai.B9 rf rf rf ?_
    refine Ai.AE rf rf rf rf<|Ai.A7 (Ab.AU rf rf) rf<|Ai.Eb<|As.is (t:=0) rf<|As.is (t:=4) rf<|As.is (t:=7) rf<|As.is (t:=8) rf<|As.is (t:=9) rf ?_
    refine As.is (t:=14) rf<|As.is (t:=15) rf<|As.is (t:=16) rf<|As.is (t:=53) rf<|As.Me<|Aa.Ah<|Wp.EY rf<|Wp.sr ?_
    refine Aa.op (Ab.assign rf) rf<|Aa.Ah<|Wp.ret<|At.A9<|At.Au<|At.Au<|At.A9<|At.A9 ?_
    refine At.Au<|At.Au<|At.A9<|At.Au ?_
    obtain rfl:=si hd
    exact At.q1 2 (hl1.trans hl2) rf (RV.tmp rf) rf
   obtain⟨hg3_,hd⟩:=bF hg3 hd
   rcases Bool.eq_false_or_eq_true (decide (0<(k2:Int)))with hg4|hg4
   ·
    obtain⟨hg4_,hd⟩:=bT hg4 hd
    obtain⟨ha1,hd⟩:=Al hd
    obtain⟨x3,hx3,hd⟩:=Ag hd
    have hx3_:=Aj hx3
    have hb5:=hv1.le
    obtain⟨_,⟨_,_,rfl,⟨rfl,hr5,hr6⟩,⟨_,_,rfl,⟨rfl,hr7,hr8⟩,rfl⟩⟩,hc3⟩:=AL.get (hv2.mono hl2) hx3
    refine Wp.Ea 33 follows rf (by kernel_rfl)<|Ai.A7 (Ab.A6 (o':=0) Gh rf rf) rf<|Ai.A7 (Ab.Am (i:=0) (v:=(.int .u8 x2.1)) u5 rf rf rf rf) rf<|Ai.A7 (Ab.A6 (o':=1) Gg rf rf) rf<|Ai.A7 (Ab.Am (i:=0) (v:=(.int .u8 x2.2.1)) u5 rf rf rf rf) rf<|Ai.A7 (Ab.BR (b:=decide (x2.2.1<x2.1)) (c:=false) (Ab.gtr rf rf) hg1) rf<|Ai.A7 (Ab.move rf) rf<|Ai.Be rf rf (Ab.A6 (o':=2) Gf rf rf) rf ?_
    refine Ai.Be rf rf (Ab.Am (i:=0) (v:=(.int .i64 x2.2.2)) u3 rf rf rf rf) rf<|Ai.Be rf rf (Ab.BR (b:=decide (x2.2.2<0)) (c:=false) (Ab.lss rf rf) hg2) rf<|Ai.A7 (Ab.AP rf rf) rf<|Ai.A7 (Ab.move rf) rf<|Ai.Be rf rf (Ab.A6 (o':=2) Gf rf rf) rf<|Ai.Be rf rf (Ab.Am (i:=0) (v:=(.int .i64 x2.2.2)) u3 rf rf rf rf) rf<|Ai.Be rf rf (Ab.move rf) rf<|Ai.Be rf rf (Ab.len C9 rf (hv1.mono (hl1.trans hl2)).sl) rf ?_
    refine Ai.Be rf rf (Ab.BR (b:=decide ((a0.length:Int)≤x2.2.2)) (c:=false) (Ab.geq rf rf) hg3) rf<|Ai.A7 (Ab.AP rf rf) rf<|Ai.A7 (Ab.move rf) rf<|Ai.Be rf rf (Ab.move rf) rf<|Ai.Be rf rf (Ab.BR (b:=decide (0<(k2:Int))) (c:=true) (Ab.gtr rf rf) hg4) rf<|Ai.Be rf rf (Ab.move rf) rf<|Ai.Be rf rf (Ab.A6 (o':=1) Ct rf rf) rf<|Ai.Be rf rf (Ab.Am (i:=1) (v:=v2) EL rf rf rf rf) rf ?_
    refine Ai.Be rf rf (Ab.move rf) rf<|Ai.Be rf rf (Ab.sub rf rf (Av ha1)) rf<|Ai.Be rf rf (Ab.Bz EL Cz rf (hv2.mono hl2).sl rf (Aj hx3)) rf<|Ai.Be rf rf (Ab.Vu Gg rf (hv2.mono hl2).sl (by omega)) rf<|Ai.Be rf rf (Ab.HN u5 rf rf (hc3 1 _ rf)) rf<|Ai.Be rf rf (Ab.A6 (o':=0) Gh rf rf) rf<|Ai.Be rf rf (Ab.Am (i:=0) (v:=(.int .u8 x2.1)) u5 rf rf rf rf) rf<|Ai.Be rf rf (Ab.geq rf rf) rf ?_
    refine Ai.Be rf rf (Ab.AU rf rf) rf<|Ai.A7 (Ab.AP rf rf) rf<|Ai.Eb<|As.is (t:=0) rf<|As.is (t:=4) rf<|As.is (t:=7) rf<|As.is (t:=8) rf<|As.is (t:=9) rf ?_
    refine As.is (t:=14) rf<|As.is (t:=15) rf<|As.is (t:=16) rf<|As.is (t:=53) rf<|As.Me<|Aa.Ah ?_
    refine Wp.cond rf (fun hb6=>?_) (fun hb6=>?_)
    ·
     obtain⟨hb6,hd⟩:=bT hb6 hd
     refine Wp.sr<|Aa.op (Ab.assign rf) rf<|Aa.Ah<|Wp.ret<|At.A9<|At.Au<|At.Au<|At.A9 ?_
     refine At.A9<|At.Au<|At.Au<|At.A9<|At.Au ?_
     obtain rfl:=si hd
     exact At.q1 2 (hl1.trans hl2) rf (RV.tmp rf) rf
    obtain⟨hb6,hd⟩:=bF hb6 hd
    refine Wp.skip<|At.AF<|At.Ae<|Wp.region<|Aa.op (Ab.add rf rf (Av (by omega))) rf<|Aa.op (Ab.move rf) rf<|Aa.nil<|At.AW [1] 2 rf rf rf ?_
    refine At.AZ (Hp.le.refl _) ⟨(k2+1),rf,rf,(by rw[←hn2];exact hd)⟩ (Sub.of rf)
   obtain⟨hg4_,hd⟩:=bF hg4 hd
   have hb5:=hv1.le
   refine Wp.Ea 33 follows rf (by kernel_rfl)<|Ai.A7 (Ab.A6 (o':=0) Gh rf rf) rf<|Ai.A7 (Ab.Am (i:=0) (v:=(.int .u8 x2.1)) u5 rf rf rf rf) rf<|Ai.A7 (Ab.A6 (o':=1) Gg rf rf) rf<|Ai.A7 (Ab.Am (i:=0) (v:=(.int .u8 x2.2.1)) u5 rf rf rf rf) rf<|Ai.A7 (Ab.BR (b:=decide (x2.2.1<x2.1)) (c:=false) (Ab.gtr rf rf) hg1) rf<|Ai.A7 (Ab.move rf) rf<|Ai.Be rf rf (Ab.A6 (o':=2) Gf rf rf) rf ?_
   refine Ai.Be rf rf (Ab.Am (i:=0) (v:=(.int .i64 x2.2.2)) u3 rf rf rf rf) rf<|Ai.Be rf rf (Ab.BR (b:=decide (x2.2.2<0)) (c:=false) (Ab.lss rf rf) hg2) rf<|Ai.A7 (Ab.AP rf rf) rf<|Ai.A7 (Ab.move rf) rf<|Ai.Be rf rf (Ab.A6 (o':=2) Gf rf rf) rf<|Ai.Be rf rf (Ab.Am (i:=0) (v:=(.int .i64 x2.2.2)) u3 rf rf rf rf) rf<|Ai.Be rf rf (Ab.move rf) rf<|Ai.Be rf rf (Ab.len C9 rf (hv1.mono (hl1.trans hl2)).sl) rf ?_
   refine Ai.Be rf rf (Ab.BR (b:=decide ((a0.length:Int)≤x2.2.2)) (c:=false) (Ab.geq rf rf) hg3) rf<|Ai.A7 (Ab.AP rf rf) rf<|Ai.A7 (Ab.move rf) rf<|Ai.Be rf rf (Ab.move rf) rf<|Ai.Be rf rf (Ab.BR (b:=decide (0<(k2:Int))) (c:=false) (Ab.gtr rf rf) hg4) rf<|Ai.Be rf rf (Ab.move rf) rf<|Ai.AE rf rf rf rf<|Ai.AE rf rf rf rf ?_
   refine Ai.AE rf rf rf rf<|Ai.AE rf rf rf rf<|Ai.AE rf rf rf rf<|Ai.AE rf rf rf rf<|Ai.AE rf rf rf rf<|Ai.AE rf rf rf rf<|Ai.AE rf rf rf rf<|Ai.AE rf rf rf rf ?_
   refine Ai.Be rf rf (Ab.AP rf rf) rf<|Ai.A7 (Ab.AP rf rf) rf<|Ai.Eb<|As.is (t:=0) rf<|As.is (t:=4) rf<|As.is (t:=7) rf<|As.is (t:=8) rf<|As.is (t:=9) rf ?_
   refine As.is (t:=14) rf<|As.is (t:=15) rf<|As.is (t:=16) rf<|As.is (t:=53) rf<|As.Me<|Aa.Ah<|Wp.Hd rf<|Wp.skip ?_
   refine At.AF<|At.Ae<|Wp.region<|Aa.op (Ab.add rf rf (Av (by omega))) rf<|Aa.op (Ab.move rf) rf<|Aa.nil<|At.AW [1] 2 rf rf rf ?_
   refine At.AZ (Hp.le.refl _) ⟨(k2+1),rf,rf,(by rw[←hn2];exact hd)⟩ (Sub.of rf)
  obtain⟨hb4,hd⟩:=bF hb4 hd
  refine Wp.exit<|At.Ao<|At.Ao<|At.AB<|At.AF<|At.Ae<|Wp.region<|Aa.op (Ab.add rf rf (Av (by omega))) rf ?_
  refine Aa.op (Ab.move rf) rf<|Aa.nil<|At.AW [] 1 rf rf rf ?_
  refine At.AZ hl2 ⟨(k1+1),rf,rf,(by rw[←hn1];exact hd)⟩ (Sub.of rf)
 obtain⟨hb2,hd⟩:=bF hb2 hd
 refine Wp.exit<|At.Ao<|At.Ao<|At.AB<|At.Ae<|Wp.sr<|Aa.op (Ab.assign rf) rf<|Aa.Ah ?_
 refine Wp.ret ?_
 obtain rfl:=si hd
 exact At.q1 0 hl1 rf (RV.tmp rf) rf
theorem Bf{fu:Nat}{a0:List (Bool×(List (Int×Int×Int)))}{a1:BF}{v1:Value}{r:Bool}(hv1:AL (cP cB (cL (cP A0 (cP A0 Ar)))) H a0 v1)(hd:D0 fu a0 a1=some r):
    CB Tryz.prog 8 [(.agg #[v1]),(sv a1)] H O (.bool r):=by
 intro w hs
 refine Bo Tryz.func8 rf rf rf ?_ hs
 clear hs w
 unfold D0 at hd
 refine Wp.sr<|Aa.box (cs:= #[v1]) rf rf rf fun B2=>Aa.op (Ab.assign rf) rf<|Aa.Ah<|Wp.scope<|Wp.seq<|Wp.seq ?_
 rcases Bool.eq_false_or_eq_true (decide ((a0.length:Int)=0))with hg1|hg1
 ·
  obtain⟨hg1_,hd⟩:=bT hg1 hd
  refine Wp.region<|Aa.op (Ab.A6 (o':=0) BO rf rf) rf<|Aa.op (Ab.Am (i:=0) (v:=v1) C9 rf rf rf rf) rf ?_
  have hb1:=hv1.le
  refine Aa.op (Ab.len C9 rf hv1.sl) rf<|Aa.op (Ab.BR (b:=decide ((a0.length:Int)=0)) (c:=true) (Ab.eql rf rf) hg1) rf<|Aa.op (Ab.move rf) rf<|Aa.Ak rf rf rf rf<|Aa.Ak rf rf rf rf<|Aa.Ak rf rf rf rf<|Aa.Ak rf rf rf rf<|Aa.op (Ab.AU rf rf) rf ?_
  refine Aa.Ah<|Wp.EY rf<|Wp.sr<|Aa.op (Ab.assign rf) rf<|Aa.Ah<|Wp.ret<|At.Au<|At.Vb ?_
  obtain rfl:=si hd
  exact At.q1 1 (Hp.le.refl _) rf (RV.tmp rf) rf
 obtain⟨hg1_,hd⟩:=bF hg1 hd
 obtain⟨x1,hx1,hd⟩:=Ag hd
 refine Wp.region<|Aa.op (Ab.A6 (o':=0) BO rf rf) rf<|Aa.op (Ab.Am (i:=0) (v:=v1) C9 rf rf rf rf) rf ?_
 have hb1:=hv1.le
 refine Aa.op (Ab.len C9 rf hv1.sl) rf<|Aa.op (Ab.BR (b:=decide ((a0.length:Int)=0)) (c:=false) (Ab.eql rf rf) hg1) rf<|Aa.op (Ab.move rf) rf<|Aa.AQ rf rf (Ab.A6 (o':=0) BO rf rf) rf<|Aa.AQ rf rf (Ab.Am (i:=0) (v:=v1) C9 rf rf rf rf) rf<|Aa.AQ rf rf (Ab.call Wk rf (HD hv1 hx1)) rf<|Aa.AQ rf rf (Ab.not rf) rf<|Aa.op (Ab.AP rf rf) rf ?_
 refine Aa.Ah ?_
 refine Wp.cond rf (fun hb2=>?_) (fun hb2=>?_)
 ·
  replace hd:=Gl hb2 hd
  refine Wp.sr<|Aa.op (Ab.assign rf) rf<|Aa.Ah<|Wp.ret<|At.Au<|At.Vb ?_
  obtain rfl:=si hd
  exact At.q1 1 (Hp.le.refl _) rf (RV.tmp rf) rf
 replace hd:=Gm hb2 hd
 refine Wp.skip<|At.Ae<|Wp.sr<|Aa.op (Ab.assign rf) rf<|Aa.Ah<|Wp.seq<|Wp.label<|At.Ae ?_
 refine Wp.seq<|Wp.sr<|Aa.op (Ab.move rf) rf<|Aa.op (Ab.Tu u9 rf) rf<|Aa.op (Ab.move rf) rf<|Aa.Ah<|Wp.block<|Wp.Bt (fun m LL HH OO=> ∃(i1:Int),∃(i2:Int),[(1,(sv a1)),(2,(ptr B2 0)),(5,(.int .i64 i1)),(20,(.int .i64 (a1.length:Int))),(21,(.int .i64 i2))]=LL∧ .Az B2 (.cells #[v1] 32 (0,0))::O=OO∧Ax m (fun p nx=>Ek fu a0 a1 p.1 p.2 nx) (i1,i2)=some r) fu ⟨0,0,rf,rf,hd⟩ (Sub.of rf) ?_
 intro m1 L1 H1 O1 hl1 hI1
 obtain⟨i1,i2,rfl,rfl,hd⟩:=hI1
 obtain⟨m2,nx1,rfl,hn1,hd⟩:=Bm hd
 replace hd:Ek fu a0 a1 i1 i2 nx1=some r:=hd
 unfold Ek at hd
 refine Wp.sr<|Aa.op (Ab.lss rf rf) rf<|Aa.Ah<|Wp.seq ?_
 refine Wp.cond rf (fun hb3=>?_) (fun hb3=>?_)
 ·
  obtain⟨hb3,hd⟩:=bT hb3 hd
  refine Wp.skip<|At.Ae<|Wp.seq<|Wp.block<|Wp.sr<|Aa.op (Ab.move rf) rf<|Aa.op (Ab.assign rf) rf<|Aa.Ah ?_
  refine Wp.seq<|Wp.seq ?_
  obtain⟨x2,hx2,hd⟩:=Ag hd
  have hx2_:=Aj hx2
  refine Wp.region<|Aa.op (Ab.A6 (o':=0) BO rf rf) rf<|Aa.op (Ab.Am (i:=0) (v:=v1) C9 rf rf rf rf) rf<|Aa.op (Ab.move rf) rf ?_
  obtain⟨_,⟨_,_,rfl,rfl,⟨v2,rfl,hv2⟩⟩,hc1⟩:=AL.get (hv1.mono hl1) hx2
  refine Aa.op (Ab.Bz C9 BX rf (hv1.mono hl1).sl rf (Aj hx2)) rf<|Aa.op (Ab.Vu Ct rf (hv1.mono hl1).sl (by omega)) rf<|Aa.op (Ab.HN EL rf rf (hc1 1 _ rf)) rf ?_
  have hb4:=hv2.le
  refine Aa.op (Ab.len EL rf hv2.sl) rf<|Aa.op (Ab.move rf) rf<|Aa.Ah<|Wp.block<|Wp.Bt (fun m LL HH OO=> ∃(k1:Nat),[(1,(sv a1)),(2,(ptr B2 0)),(6,(.int .i64 i2)),(20,(.int .i64 (a1.length:Int))),(21,(.int .i64 i2)),(29,v2),(30,(.int .i64 (x2.2.length:Int))),(31,(.int .i64 (k1:Int)))]=LL∧ .Az B2 (.cells #[v1] 32 (0,0))::O=OO∧Ax m (DI fu a1 i2 nx1 x2) k1=some r) fu ⟨0,rf,rf,hd⟩ (Sub.of rf) ?_
  intro m3 L2 H2 O2 hl2 hI2
  obtain⟨k1,rfl,rfl,hd⟩:=hI2
  obtain⟨m4,nx2,rfl,hn2,hd⟩:=Bm hd
  replace hd:DI fu a1 i2 nx1 x2 k1 nx2=some r:=hd
  unfold DI at hd
  refine Wp.sr<|Aa.op (Ab.lss rf rf) rf<|Aa.Ah<|Wp.seq ?_
  refine Wp.cond rf (fun hb5=>?_) (fun hb5=>?_)
  ·
   obtain⟨hb5,hd⟩:=bT hb5 hd
   refine Wp.skip<|At.Ae<|Wp.seq<|Wp.block<|Wp.seq ?_
   obtain⟨x3,hx3,hd⟩:=Ag hd
   have hx3_:=Aj hx3
   refine Wp.region ?_
   obtain⟨_,⟨_,_,rfl,⟨rfl,hr1,hr2⟩,⟨_,_,rfl,⟨rfl,hr3,hr4⟩,rfl⟩⟩,hc2⟩:=AL.get (hv2.mono hl2) hx3
   refine Aa.op (Ab.Bz EL Cz rf (hv2.mono hl2).sl rf (Aj hx3)) rf<|Aa.op (Ab.DA (vs:=[(.int .u8 x3.1),(.int .u8 x3.2.1),(.int .i64 x3.2.2)]) V4 rf Cz rf rf (fun j u hj=>(hc2 j u hj))) rf<|Aa.alloc (cs:= #[(.int .u8 0),(.int .u8 0),(.int .i64 0)]) Cz rf rf fun B3=>Aa.AM (i:=0) (cs':= #[(.int .u8 x3.1),(.int .u8 x3.2.1),(.int .i64 x3.2.2)]) rf rf Cz rf rf (Bd (Ac rf (Ac rf (Ac rf (An))))) rf ?_
   refine Aa.own (O:=_::_::_) ?_ rf
   refine Aa.Ah<|Wp.seq ?_
   obtain⟨x4,hx4,hd⟩:=Ag hd
   have hx4_:=JB hx4
   rcases Bool.eq_false_or_eq_true (decide (x3.1≤x4))with hg2|hg2
   ·
    obtain⟨hg2_,hd⟩:=bT hg2 hd
    obtain⟨x5,hx5,hd⟩:=Ag hd
    have hx5_:=JB hx5
    refine Wp.Ea 14 follows rf (by kernel_rfl)<|Ai.A7 (Ab.A6 (o':=0) Gh rf rf) rf<|Ai.A7 (Ab.Am (i:=0) (v:=(.int .u8 x3.1)) u5 rf rf rf rf) rf<|Ai.A7 (Ab.move rf) rf<|Ai.A7 (Ab.move rf) rf<|Ai.A7 (Ab.MU u9 rf rf hx4) rf<|Ai.A7 (Ab.BR (b:=decide (x3.1≤x4)) (c:=true) (Ab.leq rf rf) hg2) rf<|Ai.A7 (Ab.move rf) rf ?_
    refine Ai.Be rf rf (Ab.move rf) rf<|Ai.Be rf rf (Ab.move rf) rf<|Ai.Be rf rf (Ab.MU u9 rf rf hx5) rf<|Ai.Be rf rf (Ab.A6 (o':=1) Gg rf rf) rf<|Ai.Be rf rf (Ab.Am (i:=0) (v:=(.int .u8 x3.2.1)) u5 rf rf rf rf) rf<|Ai.Be rf rf (Ab.leq rf rf) rf<|Ai.A7 (Ab.AU rf rf) rf<|Ai.Eb ?_
    refine As.is (t:=1) rf<|As.is (t:=2) rf<|As.is (t:=6) rf<|As.is (t:=8) rf<|As.is (t:=20) rf<|As.is (t:=21) rf<|As.is (t:=29) rf<|As.is (t:=30) rf ?_
    refine As.is (t:=31) rf<|As.is (t:=48) rf<|As.Me<|Aa.Ah ?_
    refine Wp.cond rf (fun hb6=>?_) (fun hb6=>?_)
    ·
     obtain⟨hb6,hd⟩:=bT hb6 hd
     refine Wp.sr<|Aa.op (Ab.A6 (o':=2) Gf rf rf) rf<|Aa.op (Ab.Am (i:=0) (v:=(.int .i64 x3.2.2)) u3 rf rf rf rf) rf<|Aa.op (Ab.assign rf) rf<|Aa.Ah<|Wp.exit<|At.L8 rf<|At.Ao ?_
     refine At.Ao<|At.L8 rf<|At.Ao<|At.AB<|At.Ae ?_
     obtain⟨ha1,hd⟩:=Al hd
     refine Wp.region<|Aa.op (Ab.add rf rf (Av ha1)) rf<|Aa.op (Ab.move rf) rf<|Aa.nil<|At.AW [1] 2 rf rf rf ?_
     refine At.AZ hl2 ⟨x3.2.2,(i2+1),rf,rf,(by rw[←hn1];exact hd)⟩ (Sub.of rf)
    obtain⟨hb6,hd⟩:=bF hb6 hd
    refine Wp.skip<|At.AF<|At.Ae<|Wp.region<|Aa.op (Ab.add rf rf (Av (by omega))) rf<|Aa.op (Ab.move rf) rf<|Aa.nil<|At.AW [1] 2 rf rf rf ?_
    refine At.AZ (Hp.le.refl _) ⟨(k1+1),rf,rf,(by rw[←hn2];exact hd)⟩ (Sub.of rf)
   obtain⟨hg2_,hd⟩:=bF hg2 hd
   refine Wp.Ea 14 follows rf (by kernel_rfl)<|Ai.A7 (Ab.A6 (o':=0) Gh rf rf) rf<|Ai.A7 (Ab.Am (i:=0) (v:=(.int .u8 x3.1)) u5 rf rf rf rf) rf<|Ai.A7 (Ab.move rf) rf<|Ai.A7 (Ab.move rf) rf<|Ai.A7 (Ab.MU u9 rf rf hx4) rf<|Ai.A7 (Ab.BR (b:=decide (x3.1≤x4)) (c:=false) (Ab.leq rf rf) hg2) rf<|Ai.A7 (Ab.move rf) rf ?_
   refine Ai.AE rf rf rf rf<|Ai.AE rf rf rf rf<|Ai.AE rf rf rf rf<|Ai.AE rf rf rf rf<|Ai.AE rf rf rf rf<|Ai.AE rf rf rf rf<|Ai.A7 (Ab.AP rf rf) rf<|Ai.Eb ?_
   refine As.is (t:=1) rf<|As.is (t:=2) rf<|As.is (t:=6) rf<|As.is (t:=8) rf<|As.is (t:=20) rf<|As.is (t:=21) rf<|As.is (t:=29) rf<|As.is (t:=30) rf ?_
   refine As.is (t:=31) rf<|As.is (t:=48) rf<|As.Me<|Aa.Ah<|Wp.Hd rf<|Wp.skip<|At.AF<|At.Ae ?_
   refine Wp.region<|Aa.op (Ab.add rf rf (Av (by omega))) rf<|Aa.op (Ab.move rf) rf<|Aa.nil<|At.AW [1] 2 rf rf rf ?_
   refine At.AZ (Hp.le.refl _) ⟨(k1+1),rf,rf,(by rw[←hn2];exact hd)⟩ (Sub.of rf)
  obtain⟨hb5,hd⟩:=bF hb5 hd
  refine Wp.exit<|At.Ao<|At.Ao<|At.AB<|At.Ae<|Wp.sr<|Aa.op (Ab.assign rf) rf<|Aa.Ah ?_
  refine Wp.ret<|At.A9<|At.Au<|At.Au<|At.A9<|At.Au<|At.Vb ?_
  obtain rfl:=si hd
  exact At.q1 1 (hl1.trans hl2) rf (RV.tmp rf) rf
 obtain⟨hb3,hd⟩:=bF hb3 hd
 refine Wp.exit<|At.Ao<|At.Ao<|At.AB<|At.Ae<|Wp.seq ?_
 obtain⟨x6,hx6,hd⟩:=Ag hd
 have hx6_:=Aj hx6
 refine Wp.region<|Aa.op (Ab.A6 (o':=0) BO rf rf) rf<|Aa.op (Ab.Am (i:=0) (v:=v1) C9 rf rf rf rf) rf<|Aa.op (Ab.move rf) rf ?_
 obtain⟨_,⟨_,_,rfl,rfl,⟨v3,rfl,hv3⟩⟩,hc3⟩:=AL.get (hv1.mono hl1) hx6
 refine Aa.op (Ab.Bz C9 BX rf (hv1.mono hl1).sl rf (Aj hx6)) rf<|Aa.op (Ab.Vu GF rf (hv1.mono hl1).sl (by omega)) rf<|Aa.op (Ab.HN u4 rf rf (hc3 0 _ rf)) rf<|Aa.op (Ab.assign rf) rf<|Aa.Ah<|Wp.ret<|At.Vb ?_
 obtain rfl:=si hd
 exact At.q1 1 hl1 rf (RV.tmp rf) rf
theorem La{fu:Nat}{a0:List (Int×Int×Int)}{a1:List (Int×Int×Int)}{v1 v2:Value}{r:Bool}(hv1:AL (cP A0 (cP A0 Ar)) H a0 v1)(hv2:AL (cP A0 (cP A0 Ar)) H a1 v2)(hd:EM fu a0 a1=some r):
    CB Tryz.prog 44 [v1,v2] H O (.bool r):=by
 intro w hs
 refine Bo Tryz.func44 rf rf rf ?_ hs
 clear hs w
 unfold EM at hd
 refine Wp.sr<|Aa.op (Ab.assign rf) rf<|Aa.Ah<|Wp.seq<|Wp.sr<|Aa.op (Ab.move rf) rf ?_
 have hb1:=hv1.le
 refine Aa.op (Ab.len EL rf hv1.sl) rf<|Aa.op (Ab.move rf) rf ?_
 have hb2:=hv2.le
 refine Aa.op (Ab.len EL rf hv2.sl) rf<|Aa.op (Ab.neq rf rf) rf<|Aa.Ah ?_
 refine Wp.cond rf (fun hb3=>?_) (fun hb3=>?_)
 ·
  obtain⟨hb3,hd⟩:=bT hb3 hd
  refine Wp.sr<|Aa.op (Ab.assign rf) rf<|Aa.Ah<|Wp.ret<|At.Au ?_
  obtain rfl:=si hd
  exact At.q1 0 (Hp.le.refl _) rf (RV.tmp rf) rf
 obtain⟨hb3,hd⟩:=bF hb3 hd
 refine Wp.skip<|At.Ae<|Wp.seq<|Wp.sr<|Aa.op (Ab.move rf) rf ?_
 have hb4:=hv1.le
 refine Aa.op (Ab.len EL rf hv1.sl) rf<|Aa.op (Ab.move rf) rf<|Aa.Ah<|Wp.block<|Wp.Bt (fun m LL HH OO=> ∃(k1:Nat),[(0,v1),(1,v2),(12,(.int .i64 (a0.length:Int))),(13,(.int .i64 (k1:Int)))]=LL∧O=OO∧Ax m (CZ fu a0 a1) k1=some r) fu ⟨0,rf,rf,hd⟩ (Sub.of rf) ?_
 intro m1 L1 H1 O1 hl1 hI1
 obtain⟨k1,rfl,rfl,hd⟩:=hI1
 obtain⟨m2,nx1,rfl,hn1,hd⟩:=Bm hd
 replace hd:CZ fu a0 a1 k1 nx1=some r:=hd
 unfold CZ at hd
 refine Wp.sr<|Aa.op (Ab.lss rf rf) rf<|Aa.Ah<|Wp.seq ?_
 refine Wp.cond rf (fun hb5=>?_) (fun hb5=>?_)
 ·
  obtain⟨hb5,hd⟩:=bT hb5 hd
  refine Wp.skip<|At.Ae<|Wp.seq<|Wp.block<|Wp.sr<|Aa.op (Ab.move rf) rf<|Aa.op (Ab.assign rf) rf<|Aa.Ah ?_
  refine Wp.seq ?_
  obtain⟨x1,hx1,hd⟩:=Ag hd
  have hx1_:=Aj hx1
  obtain⟨x2,hx2,hd⟩:=Ag hd
  have hx2_:=Aj hx2
  obtain⟨_,⟨_,_,rfl,⟨rfl,hr1,hr2⟩,⟨_,_,rfl,⟨rfl,hr3,hr4⟩,rfl⟩⟩,hc1⟩:=AL.get (hv1.mono hl1) hx1
  obtain⟨_,⟨_,_,rfl,⟨rfl,hr5,hr6⟩,⟨_,_,rfl,⟨rfl,hr7,hr8⟩,rfl⟩⟩,hc2⟩:=AL.get (hv2.mono hl1) hx2
  refine Wp.Ea 9 follows rf (by kernel_rfl)<|Ai.A7 (Ab.move rf) rf<|Ai.A7 (Ab.move rf) rf<|Ai.A7 (Ab.Bz EL Cz rf (hv1.mono hl1).sl rf (Aj hx1)) rf<|Ai.A7 (Ab.DA (vs:=[(.int .u8 x1.1),(.int .u8 x1.2.1),(.int .i64 x1.2.2)]) V4 rf Cz rf rf (fun j u hj=>(hc1 j u hj))) rf<|Ai.A7 (Ab.move rf) rf<|Ai.A7 (Ab.move rf) rf<|Ai.A7 (Ab.Bz EL Cz rf (hv2.mono hl1).sl rf (Aj hx2)) rf ?_
  refine Ai.A7 (Ab.DA (vs:=[(.int .u8 x2.1),(.int .u8 x2.2.1),(.int .i64 x2.2.2)]) V4 rf Cz rf rf (fun j u hj=>(hc2 j u hj))) rf<|Ai.A7 (Ab.Tf (xs:=[x1.1,x1.2.1,x1.2.2]) (ys:=[x2.1,x2.2.1,x2.2.2]) TH rf rf rf rf) rf<|Ai.Eb<|As.is (t:=0) rf<|As.is (t:=1) rf<|As.is (t:=12) rf<|As.is (t:=13) rf<|As.is (t:=24) rf ?_
  refine As.Me<|Aa.Ah ?_
  refine Wp.cond rf (fun hb6=>?_) (fun hb6=>?_)
  ·
   replace hd:=Gl hb6 hd
   refine Wp.sr<|Aa.op (Ab.assign rf) rf<|Aa.Ah<|Wp.ret<|At.A9<|At.Au<|At.Au<|At.A9 ?_
   refine At.Au ?_
   obtain rfl:=si hd
   exact At.q1 0 hl1 rf (RV.tmp rf) rf
  replace hd:=Gm hb6 hd
  refine Wp.skip<|At.AF<|At.Ae<|Wp.region<|Aa.op (Ab.add rf rf (Av (by omega))) rf<|Aa.op (Ab.move rf) rf<|Aa.nil ?_
  refine At.AZ (Hp.le.refl _) ⟨(k1+1),rf,rf,(by rw[←hn1];exact hd)⟩ (Sub.of rf)
 obtain⟨hb5,hd⟩:=bF hb5 hd
 refine Wp.exit<|At.Ao<|At.Ao<|At.AB<|At.Ae<|Wp.sr<|Aa.op (Ab.assign rf) rf<|Aa.Ah ?_
 refine Wp.ret ?_
 obtain rfl:=si hd
 exact At.q1 0 hl1 rf (RV.tmp rf) rf
theorem BG{fu:Nat}{a0:List (Bool×(List (Int×Int×Int)))}{a1:List (Bool×(List (Int×Int×Int)))}{v1 v2:Value}{r:Bool}(hv1:AL (cP cB (cL (cP A0 (cP A0 Ar)))) H a0 v1)(hv2:AL (cP cB (cL (cP A0 (cP A0 Ar)))) H a1 v2)(hd:HU fu a0 a1=some r):
    CB Tryz.prog 14 [(.agg #[v1]),(.agg #[v2])] H O (.bool r):=by
 intro w hs
 refine Bo Tryz.func14 rf rf rf ?_ hs
 clear hs w
 unfold HU at hd
 refine Wp.sr<|Aa.box (cs:= #[v1]) rf rf rf fun B2=>Aa.box (cs:= #[v2]) rf rf rf fun B3=>Aa.op (Ab.assign rf) rf<|Aa.Ah<|Wp.seq<|Wp.sr<|Aa.op (Ab.A6 (o':=0) BO rf rf) rf ?_
 refine Aa.op (Ab.Am (i:=1) (v:=v1) C9 rf rf rf rf) rf ?_
 have hb1:=hv1.le
 refine Aa.op (Ab.len C9 rf hv1.sl) rf<|Aa.op (Ab.A6 (o':=0) BO rf rf) rf<|Aa.op (Ab.Am (i:=0) (v:=v2) C9 rf rf rf rf) rf ?_
 have hb2:=hv2.le
 refine Aa.op (Ab.len C9 rf hv2.sl) rf<|Aa.op (Ab.neq rf rf) rf<|Aa.Ah ?_
 refine Wp.cond rf (fun hb3=>?_) (fun hb3=>?_)
 ·
  obtain⟨hb3,hd⟩:=bT hb3 hd
  refine Wp.sr<|Aa.op (Ab.assign rf) rf<|Aa.Ah<|Wp.ret<|At.Au ?_
  obtain rfl:=si hd
  exact At.q1 2 (Hp.le.refl _) rf (RV.tmp rf) rf
 obtain⟨hb3,hd⟩:=bF hb3 hd
 refine Wp.skip<|At.Ae<|Wp.seq<|Wp.sr<|Aa.op (Ab.A6 (o':=0) BO rf rf) rf<|Aa.op (Ab.Am (i:=1) (v:=v1) C9 rf rf rf rf) rf ?_
 have hb4:=hv1.le
 refine Aa.op (Ab.len C9 rf hv1.sl) rf<|Aa.op (Ab.move rf) rf<|Aa.Ah<|Wp.block<|Wp.Bt (fun m LL HH OO=> ∃(k1:Nat),[(2,(ptr B2 0)),(3,(ptr B3 0)),(18,(.int .i64 (a0.length:Int))),(19,(.int .i64 (k1:Int)))]=LL∧ .Az B3 (.cells #[v2] 32 (0,0)):: .Az B2 (.cells #[v1] 32 (0,0))::O=OO∧Ax m (Gy fu a0 a1) k1=some r) fu ⟨0,rf,rf,hd⟩ (Sub.of rf) ?_
 intro m1 L1 H1 O1 hl1 hI1
 obtain⟨k1,rfl,rfl,hd⟩:=hI1
 obtain⟨m2,nx1,rfl,hn1,hd⟩:=Bm hd
 replace hd:Gy fu a0 a1 k1 nx1=some r:=hd
 unfold Gy at hd
 refine Wp.sr<|Aa.op (Ab.lss rf rf) rf<|Aa.Ah<|Wp.seq ?_
 refine Wp.cond rf (fun hb5=>?_) (fun hb5=>?_)
 ·
  obtain⟨hb5,hd⟩:=bT hb5 hd
  refine Wp.skip<|At.Ae<|Wp.seq<|Wp.block<|Wp.sr<|Aa.op (Ab.move rf) rf<|Aa.op (Ab.assign rf) rf<|Aa.Ah ?_
  refine Wp.seq ?_
  obtain⟨x1,hx1,hd⟩:=Ag hd
  have hx1_:=Aj hx1
  obtain⟨x2,hx2,hd⟩:=Ag hd
  have hx2_:=Aj hx2
  obtain⟨_,⟨_,_,rfl,rfl,⟨v3,rfl,hv3⟩⟩,hc1⟩:=AL.get (hv1.mono hl1) hx1
  obtain⟨_,⟨_,_,rfl,rfl,⟨v4,rfl,hv4⟩⟩,hc2⟩:=AL.get (hv2.mono hl1) hx2
  refine Wp.emp<|Wp.emp<|Af.runK 4 [Ay,⟨[3],[],[]⟩,Ay,Ay,Ay,Ay,⟨[2],[],[]⟩,Ay,Ay,Ay,⟨[0],[0],[10]⟩,⟨[1],[1],[11]⟩,⟨[0],[0],[10]⟩,⟨[1],[1],[11]⟩] follows rf (by kernel_rfl)<|Af.op (val:=fun p1=>(ptr B2 0)) rf rf (fun _=>rfl) (fun _ p1 _ hx hf hy=>Ab.A6 (o':=0) BO rf rf) rf<|Af.op (val:=fun p1=>v1) rf rf (fun _=>rfl) (fun _ p1 _ hx hf hy=>Ab.Am (i:=3) (v:=v1) C9 rf rf (hy 3 _ rf rf) rf) rf<|Af.op (val:=fun p1=>(.int .i64 (k1:Int))) rf rf (fun _=>rfl) (fun _ p1 _ hx hf hy=>Ab.move rf) rf<|Af.op (val:=fun p1=>(AG v1 (k1*2))) rf rf (fun _=>rfl) (fun _ p1 _ hx hf hy=>Ab.Bz C9 BX rf (hv1.mono (hl1.trans hx)).sl rf (Aj hx1)) rf<|Af.op (val:=fun p1=>(.agg #[(.bool x1.1),v3])) rf rf (fun _=>rfl) (fun _ p1 _ hx hf hy=>Ab.DA (vs:=[(.bool x1.1),v3]) Sq rf BX rf rf (fun j u hj=>((hc1 j u hj).mono hx))) rf ?_
  refine Af.op (val:=fun p1=>(ptr B3 0)) rf rf (fun _=>rfl) (fun _ p1 _ hx hf hy=>Ab.A6 (o':=0) BO rf rf) rf<|Af.op (val:=fun p1=>v2) rf rf (fun _=>rfl) (fun _ p1 _ hx hf hy=>Ab.Am (i:=2) (v:=v2) C9 rf rf (hy 2 _ rf rf) rf) rf<|Af.op (val:=fun p1=>(.int .i64 (k1:Int))) rf rf (fun _=>rfl) (fun _ p1 _ hx hf hy=>Ab.move rf) rf<|Af.op (val:=fun p1=>(AG v2 (k1*2))) rf rf (fun _=>rfl) (fun _ p1 _ hx hf hy=>Ab.Bz C9 BX rf (hv2.mono (hl1.trans hx)).sl rf (Aj hx2)) rf<|Af.op (val:=fun p1=>(.agg #[(.bool x2.1),v4])) rf rf (fun _=>rfl) (fun _ p1 _ hx hf hy=>Ab.DA (vs:=[(.bool x2.1),v4]) Sq rf BX rf rf (fun j u hj=>((hc2 j u hj).mono hx))) rf<|Af.Xy (val:=fun p1=>ptr (Bh (p1 10)) 0) (res:=fun p1=> .Az (Bh (p1 10)) (.cells #[(.bool false),(.slice none 0 0)] 45 (0,0))) 0 rf rf (fun _=>rfl) (fun _=>rfl) (fun _ p1 _ hx hf hy=>Bc.Mb 0 BX rf (hy 0 _ rf rf)) rf<|Af.Xy (val:=fun p1=>ptr (Bh (p1 11)) 0) (res:=fun p1=> .Az (Bh (p1 11)) (.cells #[(.bool false),(.slice none 0 0)] 45 (0,0))) 1 rf rf (fun _=>rfl) (fun _=>rfl) (fun _ p1 _ hx hf hy=>Bc.Mb 1 BX rf (hy 1 _ rf rf)) rf<|Af.GY (res:=fun p1=> .Az (Bh (p1 10)) (.cells #[(.bool x1.1),v3] 45 (0,0))) 0 rf rf rf (fun _=>rfl) (fun _ p1 _ hx hf hy=>Bc.P' (vs:=[(.bool x1.1),v3]) rf rf rf BX rf (Ac rf (Ac hv3.one (An))) (hy 0 _ rf rf) rf rf) ?_
  refine Af.GY (res:=fun p1=> .Az (Bh (p1 11)) (.cells #[(.bool x2.1),v4] 45 (0,0))) 1 rf rf rf (fun _=>rfl) (fun _ p1 _ hx hf hy=>Bc.P' (vs:=[(.bool x2.1),v4]) rf rf rf BX rf (Ac rf (Ac hv4.one (An))) (hy 1 _ rf rf) rf rf)<|Af.done fun H2 p1 hl2 hF1=>At.sub (L':=[(2,(ptr B2 0)),(3,(ptr B3 0)),(6,(ptr (Bh (p1 10)) 0)),(7,(ptr (Bh (p1 11)) 0)),(18,(.int .i64 (a0.length:Int))),(19,(.int .i64 (k1:Int)))]) (Sub.of rf) ?_
  refine At.own (O:= .Az (Bh (p1 10)) (.cells #[(.bool x1.1),v3] 45 (0,0)):: .Az (Bh (p1 11)) (.cells #[(.bool x2.1),v4] 45 (0,0)):: .Az B3 (.cells #[v2] 32 (0,0)):: .Az B2 (.cells #[v1] 32 (0,0))::O) ?_ (by first|rfl|(simp only[List.length_append,List.length_set];rfl)|simp)
  refine At.Ae<|Wp.seq<|Wp.seq ?_
  rcases Bool.eq_false_or_eq_true (!(x1.1==x2.1))with hg1|hg1
  ·
   replace hd:=Gl hg1 hd
   refine Wp.region<|Aa.op (Ab.A6 (o':=0) GF rf rf) rf<|Aa.op (Ab.Am (i:=0) (v:=(.bool x1.1)) u4 rf rf rf rf) rf<|Aa.op (Ab.A6 (o':=0) GF rf rf) rf<|Aa.op (Ab.Am (i:=1) (v:=(.bool x2.1)) u4 rf rf rf rf) rf<|Aa.op (Ab.BR (b:= !(x1.1==x2.1)) (c:=true) (Ab.ZA u4 rf rf) hg1) rf<|Aa.op (Ab.move rf) rf<|Aa.Ak rf rf rf rf ?_
   refine Aa.Ak rf rf rf rf<|Aa.Ak rf rf rf rf<|Aa.Ak rf rf rf rf<|Aa.Ak rf rf rf rf<|Aa.Ak rf rf rf rf<|Aa.Ak rf rf rf rf<|Aa.op (Ab.AU rf rf) rf<|Aa.Ah ?_
   refine Wp.EY rf<|Wp.sr<|Aa.op (Ab.assign rf) rf<|Aa.Ah<|Wp.ret<|At.Au<|At.A9<|At.Au ?_
   refine At.Au<|At.A9<|At.Au ?_
   obtain rfl:=si hd
   exact At.q1 4 (hl1.trans hl2) rf (RV.tmp rf) rf
  replace hd:=Gm hg1 hd
  refine Wp.region<|Aa.op (Ab.A6 (o':=0) GF rf rf) rf<|Aa.op (Ab.Am (i:=0) (v:=(.bool x1.1)) u4 rf rf rf rf) rf<|Aa.op (Ab.A6 (o':=0) GF rf rf) rf<|Aa.op (Ab.Am (i:=1) (v:=(.bool x2.1)) u4 rf rf rf rf) rf<|Aa.op (Ab.BR (b:= !(x1.1==x2.1)) (c:=false) (Ab.ZA u4 rf rf) hg1) rf<|Aa.op (Ab.move rf) rf<|Aa.AQ rf rf (Ab.A6 (o':=1) Ct rf rf) rf ?_
  refine Aa.AQ rf rf (Ab.Am (i:=0) (v:=v3) EL rf rf rf rf) rf ?_
  have hb6:=hv3.le
  refine Aa.AQ rf rf (Ab.len EL rf (hv3.mono hl2).sl) rf<|Aa.AQ rf rf (Ab.A6 (o':=1) Ct rf rf) rf<|Aa.AQ rf rf (Ab.Am (i:=1) (v:=v4) EL rf rf rf rf) rf ?_
  have hb7:=hv4.le
  refine Aa.AQ rf rf (Ab.len EL rf (hv4.mono hl2).sl) rf<|Aa.AQ rf rf (Ab.neq rf rf) rf<|Aa.op (Ab.AP rf rf) rf<|Aa.Ah ?_
  refine Wp.cond rf (fun hb8=>?_) (fun hb8=>?_)
  ·
   obtain⟨hb8,hd⟩:=bT hb8 hd
   refine Wp.sr<|Aa.op (Ab.assign rf) rf<|Aa.Ah<|Wp.ret<|At.Au<|At.A9<|At.Au<|At.Au ?_
   refine At.A9<|At.Au ?_
   obtain rfl:=si hd
   exact At.q1 4 (hl1.trans hl2) rf (RV.tmp rf) rf
  obtain⟨hb8,hd⟩:=bF hb8 hd
  refine Wp.skip<|At.Ae<|Wp.sr<|Aa.op (Ab.A6 (o':=1) Ct rf rf) rf<|Aa.op (Ab.Am (i:=0) (v:=v3) EL rf rf rf rf) rf ?_
  have hb9:=hv3.le
  refine Aa.op (Ab.len EL rf (hv3.mono hl2).sl) rf<|Aa.op (Ab.move rf) rf<|Aa.Ah<|Wp.block<|Wp.Bt (fun m LL HH OO=> ∃(k2:Nat),[(2,(ptr B2 0)),(3,(ptr B3 0)),(6,(ptr (Bh (p1 10)) 0)),(7,(ptr (Bh (p1 11)) 0)),(18,(.int .i64 (a0.length:Int))),(19,(.int .i64 (k1:Int))),(48,(.int .i64 (x1.2.length:Int))),(49,(.int .i64 (k2:Int)))]=LL∧ .Az (Bh (p1 10)) (.cells #[(.bool x1.1),v3] 45 (0,0)):: .Az (Bh (p1 11)) (.cells #[(.bool x2.1),v4] 45 (0,0)):: .Az B3 (.cells #[v2] 32 (0,0)):: .Az B2 (.cells #[v1] 32 (0,0))::O=OO∧Ax m (Gx fu k1 nx1 x1 x2) k2=some r) fu ⟨0,rf,rf,hd⟩ (Sub.of rf) ?_
  intro m3 L2 H3 O2 hl3 hI2
  obtain⟨k2,rfl,rfl,hd⟩:=hI2
  obtain⟨m4,nx2,rfl,hn2,hd⟩:=Bm hd
  replace hd:Gx fu k1 nx1 x1 x2 k2 nx2=some r:=hd
  unfold Gx at hd
  refine Wp.sr<|Aa.op (Ab.lss rf rf) rf<|Aa.Ah<|Wp.seq ?_
  refine Wp.cond rf (fun hb10=>?_) (fun hb10=>?_)
  ·
   obtain⟨hb10,hd⟩:=bT hb10 hd
   refine Wp.skip<|At.Ae<|Wp.seq<|Wp.block<|Wp.sr<|Aa.op (Ab.move rf) rf<|Aa.op (Ab.assign rf) rf<|Aa.Ah ?_
   refine Wp.seq ?_
   obtain⟨x3,hx3,hd⟩:=Ag hd
   have hx3_:=Aj hx3
   obtain⟨x4,hx4,hd⟩:=Ag hd
   have hx4_:=Aj hx4
   obtain⟨_,⟨_,_,rfl,⟨rfl,hr1,hr2⟩,⟨_,_,rfl,⟨rfl,hr3,hr4⟩,rfl⟩⟩,hc3⟩:=AL.get (hv3.mono (hl2.trans hl3)) hx3
   obtain⟨_,⟨_,_,rfl,⟨rfl,hr5,hr6⟩,⟨_,_,rfl,⟨rfl,hr7,hr8⟩,rfl⟩⟩,hc4⟩:=AL.get (hv4.mono (hl2.trans hl3)) hx4
   refine Wp.Ea 11 follows rf (by kernel_rfl)<|Ai.A7 (Ab.A6 (o':=1) Ct rf rf) rf<|Ai.A7 (Ab.Am (i:=0) (v:=v3) EL rf rf rf rf) rf<|Ai.A7 (Ab.move rf) rf<|Ai.A7 (Ab.Bz EL Cz rf (hv3.mono (hl2.trans hl3)).sl rf (Aj hx3)) rf<|Ai.A7 (Ab.DA (vs:=[(.int .u8 x3.1),(.int .u8 x3.2.1),(.int .i64 x3.2.2)]) V4 rf Cz rf rf (fun j u hj=>(hc3 j u hj))) rf<|Ai.A7 (Ab.A6 (o':=1) Ct rf rf) rf<|Ai.A7 (Ab.Am (i:=1) (v:=v4) EL rf rf rf rf) rf ?_
   refine Ai.A7 (Ab.move rf) rf<|Ai.A7 (Ab.Bz EL Cz rf (hv4.mono (hl2.trans hl3)).sl rf (Aj hx4)) rf<|Ai.A7 (Ab.DA (vs:=[(.int .u8 x4.1),(.int .u8 x4.2.1),(.int .i64 x4.2.2)]) V4 rf Cz rf rf (fun j u hj=>(hc4 j u hj))) rf<|Ai.A7 (Ab.Tf (xs:=[x3.1,x3.2.1,x3.2.2]) (ys:=[x4.1,x4.2.1,x4.2.2]) TH rf rf rf rf) rf<|Ai.Eb<|As.is (t:=2) rf<|As.is (t:=3) rf<|As.is (t:=6) rf ?_
   refine As.is (t:=7) rf<|As.is (t:=18) rf<|As.is (t:=19) rf<|As.is (t:=48) rf<|As.is (t:=49) rf<|As.is (t:=62) rf<|As.Me<|Aa.Ah ?_
   refine Wp.cond rf (fun hb11=>?_) (fun hb11=>?_)
   ·
    replace hd:=Gl hb11 hd
    refine Wp.sr<|Aa.op (Ab.assign rf) rf<|Aa.Ah<|Wp.ret<|At.A9<|At.Au<|At.Au<|At.A9 ?_
    refine At.A9<|At.Au<|At.Au<|At.A9<|At.Au ?_
    obtain rfl:=si hd
    exact At.q1 4 ((hl1.trans hl2).trans hl3) rf (RV.tmp rf) rf
   replace hd:=Gm hb11 hd
   refine Wp.skip<|At.AF<|At.Ae<|Wp.region<|Aa.op (Ab.add rf rf (Av (by omega))) rf<|Aa.op (Ab.move rf) rf<|Aa.nil ?_
   refine At.AZ (Hp.le.refl _) ⟨(k2+1),rf,rf,(by rw[←hn2];exact hd)⟩ (Sub.of rf)
  obtain⟨hb10,hd⟩:=bF hb10 hd
  refine Wp.exit<|At.Ao<|At.Ao<|At.AB<|At.AF<|At.Ae<|Wp.region<|Aa.op (Ab.add rf rf (Av (by omega))) rf ?_
  refine Aa.op (Ab.move rf) rf<|Aa.nil<|At.AW [2,3] 4 rf rf rf ?_
  refine At.AZ (hl2.trans hl3) ⟨(k1+1),rf,rf,(by rw[←hn1];exact hd)⟩ (Sub.of rf)
 obtain⟨hb5,hd⟩:=bF hb5 hd
 refine Wp.exit<|At.Ao<|At.Ao<|At.AB<|At.Ae<|Wp.sr<|Aa.op (Ab.assign rf) rf<|Aa.Ah ?_
 refine Wp.ret ?_
 obtain rfl:=si hd
 exact At.q1 2 hl1 rf (RV.tmp rf) rf
theorem Pa{fu:Nat}{a0:Bool×(List (Int×Int×Int))}{a1:Bool×(List (Int×Int×Int))}{v1 v2:Value}{r:Bool}(hv1:AL (cP A0 (cP A0 Ar)) H a0.2 v1)(hv2:AL (cP A0 (cP A0 Ar)) H a1.2 v2)(hd:Hg fu a0 a1=some r):
   CB Tryz.prog 43 [(.agg #[(.bool a0.1),v1]),(.agg #[(.bool a1.1),v2])] H O (.bool r):=by
 intro w hs
 refine Bo Tryz.func43 rf rf rf ?_ hs
 clear hs w
 unfold Hg at hd
 refine Wp.sr<|Aa.box (cs:= #[(.bool a0.1),v1]) rf rf rf fun B2=>Aa.box (cs:= #[(.bool a1.1),v2]) rf rf rf fun B3=>Aa.op (Ab.assign rf) rf<|Aa.Ah<|Wp.seq ?_
 rcases Bool.eq_false_or_eq_true (a0.1==a1.1)with hg1|hg1
 ·
  replace hd:=Gl hg1 hd
  obtain⟨x1,hx1,hd⟩:=Ag hd
  refine Wp.region<|Aa.op (Ab.A6 (o':=0) GF rf rf) rf<|Aa.op (Ab.Am (i:=1) (v:=(.bool a0.1)) u4 rf rf rf rf) rf<|Aa.op (Ab.A6 (o':=0) GF rf rf) rf<|Aa.op (Ab.Am (i:=0) (v:=(.bool a1.1)) u4 rf rf rf rf) rf<|Aa.op (Ab.BR (b:=a0.1==a1.1) (c:=true) (Ab.Ym u4 rf rf) hg1) rf<|Aa.op (Ab.move rf) rf<|Aa.AQ rf rf (Ab.A6 (o':=1) Ct rf rf) rf ?_
  refine Aa.AQ rf rf (Ab.Am (i:=1) (v:=v1) EL rf rf rf rf) rf<|Aa.AQ rf rf (Ab.A6 (o':=1) Ct rf rf) rf<|Aa.AQ rf rf (Ab.Am (i:=0) (v:=v2) EL rf rf rf rf) rf<|Aa.AQ rf rf (Ab.call Yv rf (La hv1 hv2 hx1)) rf<|Aa.op (Ab.AU rf rf) rf<|Aa.op (Ab.assign rf) rf<|Aa.Ah<|Wp.ret ?_
  obtain rfl:=si hd
  exact At.q1 2 (Hp.le.refl _) rf (RV.tmp rf) rf
 replace hd:=Gm hg1 hd
 refine Wp.region<|Aa.op (Ab.A6 (o':=0) GF rf rf) rf<|Aa.op (Ab.Am (i:=1) (v:=(.bool a0.1)) u4 rf rf rf rf) rf<|Aa.op (Ab.A6 (o':=0) GF rf rf) rf<|Aa.op (Ab.Am (i:=0) (v:=(.bool a1.1)) u4 rf rf rf rf) rf<|Aa.op (Ab.BR (b:=a0.1==a1.1) (c:=false) (Ab.Ym u4 rf rf) hg1) rf<|Aa.op (Ab.move rf) rf<|Aa.Ak rf rf rf rf ?_
 refine Aa.Ak rf rf rf rf<|Aa.Ak rf rf rf rf<|Aa.Ak rf rf rf rf<|Aa.Ak rf rf rf rf<|Aa.op (Ab.AP rf rf) rf<|Aa.op (Ab.assign rf) rf<|Aa.Ah<|Wp.ret ?_
 obtain rfl:=si hd
 exact At.q1 2 (Hp.le.refl _) rf (RV.tmp rf) rf
theorem Fw{fu:Nat}{a0:List (Bool×(List (Int×Int×Int)))}{a1:List (Bool×(List (Int×Int×Int)))}{v1 v2:Value}{r:Bool}(hv1:AL (cP cB (cL (cP A0 (cP A0 Ar)))) H a0 v1)(hv2:AL (cP cB (cL (cP A0 (cP A0 Ar)))) H a1 v2)(hd:B' fu a0 a1=some r):
    CB Tryz.prog 42 [v1,v2,(.func (.func 43) #[] #[])] H O (.bool r):=by
 intro w hs
 refine Bo Tryz.func42 rf rf rf ?_ hs
 clear hs w
 unfold B' at hd
 refine Wp.sr<|Aa.op (Ab.assign rf) rf<|Aa.Ah<|Wp.seq<|Wp.sr<|Aa.op (Ab.move rf) rf ?_
 have hb1:=hv1.le
 refine Aa.op (Ab.len C9 rf hv1.sl) rf<|Aa.op (Ab.move rf) rf ?_
 have hb2:=hv2.le
 refine Aa.op (Ab.len C9 rf hv2.sl) rf<|Aa.op (Ab.neq rf rf) rf<|Aa.Ah ?_
 refine Wp.cond rf (fun hb3=>?_) (fun hb3=>?_)
 ·
  obtain⟨hb3,hd⟩:=bT hb3 hd
  refine Wp.sr<|Aa.op (Ab.assign rf) rf<|Aa.Ah<|Wp.ret<|At.Au ?_
  obtain rfl:=si hd
  exact At.q1 0 (Hp.le.refl _) rf (RV.tmp rf) rf
 obtain⟨hb3,hd⟩:=bF hb3 hd
 refine Wp.skip<|At.Ae<|Wp.seq<|Wp.sr<|Aa.op (Ab.move rf) rf ?_
 have hb4:=hv1.le
 refine Aa.op (Ab.len C9 rf hv1.sl) rf<|Aa.op (Ab.move rf) rf<|Aa.Ah<|Wp.block<|Wp.Bt (fun m LL HH OO=> ∃(k1:Nat),[(1,v2),(2,(.func (.func 43) #[] #[])),(15,v1),(16,(.int .i64 (a0.length:Int))),(17,(.int .i64 (k1:Int)))]=LL∧O=OO∧Ax m (Bg fu a0 a1) k1=some r) fu ⟨0,rf,rf,hd⟩ (Sub.of rf) ?_
 intro m1 L1 H1 O1 hl1 hI1
 obtain⟨k1,rfl,rfl,hd⟩:=hI1
 obtain⟨m2,nx1,rfl,hn1,hd⟩:=Bm hd
 replace hd:Bg fu a0 a1 k1 nx1=some r:=hd
 unfold Bg at hd
 refine Wp.sr<|Aa.op (Ab.lss rf rf) rf<|Aa.Ah<|Wp.seq ?_
 refine Wp.cond rf (fun hb5=>?_) (fun hb5=>?_)
 ·
  obtain⟨hb5,hd⟩:=bT hb5 hd
  refine Wp.skip<|At.Ae<|Wp.seq<|Wp.block<|Wp.seq ?_
  obtain⟨x1,hx1,hd⟩:=Ag hd
  have hx1_:=Aj hx1
  refine Wp.region<|Aa.op (Ab.move rf) rf ?_
  obtain⟨_,⟨_,_,rfl,rfl,⟨v3,rfl,hv3⟩⟩,hc1⟩:=AL.get (hv1.mono hl1) hx1
  refine Aa.op (Ab.Bz C9 BX rf (hv1.mono hl1).sl rf (Aj hx1)) rf<|Aa.op (Ab.DA (vs:=[(.bool x1.1),v3]) Sq rf BX rf rf (fun j u hj=>(hc1 j u hj))) rf<|Aa.alloc (cs:= #[(.bool false),(.slice none 0 0)]) BX rf rf fun B2=>Aa.op (Ab.assign rf) rf<|Aa.AM (i:=0) (cs':= #[(.bool x1.1),v3]) rf rf BX rf rf (Bd (Ac rf (Ac hv3.one (An)))) rf ?_
  refine Aa.own (O:=_::_) ?_ rf
  refine Aa.Ah<|Wp.seq ?_
  obtain⟨x2,hx2,hd⟩:=Ag hd
  have hx2_:=Aj hx2
  refine Wp.region<|Aa.op (Ab.move rf) rf<|Aa.op (Ab.move rf) rf ?_
  obtain⟨_,⟨_,_,rfl,rfl,⟨v4,rfl,hv4⟩⟩,hc2⟩:=AL.get (hv2.mono hl1) hx2
  refine Aa.op (Ab.Bz C9 BX rf (hv2.mono hl1).sl rf (Aj hx2)) rf<|Aa.op (Ab.DA (vs:=[(.bool x2.1),v4]) Sq rf BX rf rf (fun j u hj=>(hc2 j u hj))) rf<|Aa.alloc (cs:= #[(.bool false),(.slice none 0 0)]) BX rf rf fun B3=>Aa.AM (i:=0) (cs':= #[(.bool x2.1),v4]) rf rf BX rf rf (Bd (Ac rf (Ac hv4.one (An)))) rf ?_
  refine Aa.own (O:=_::_::_) ?_ rf
  refine Aa.Ah<|Wp.seq ?_
  obtain⟨x3,hx3,hd⟩:=Ag hd
  refine Wp.region<|Aa.op (Ab.move rf) rf<|Aa.op (Ab.Aw (i:=1) Sq rf BX rf rf rf) rf<|Aa.op (Ab.Aw (i:=0) Sq rf BX rf rf rf) rf<|Aa.op (Ab.Wn (first:=[]) Yw rf rf (Pa hv3 hv4 hx3)) rf<|Aa.op (Ab.not rf) rf<|Aa.Ah ?_
  refine Wp.cond rf (fun hb6=>?_) (fun hb6=>?_)
  ·
   replace hd:=Gl hb6 hd
   refine Wp.sr<|Aa.op (Ab.assign rf) rf<|Aa.Ah<|Wp.ret<|At.A9<|At.Au<|At.Au<|At.A9 ?_
   refine At.Au ?_
   obtain rfl:=si hd
   exact At.q1 2 hl1 rf (RV.tmp rf) rf
  replace hd:=Gm hb6 hd
  refine Wp.skip<|At.AF<|At.Ae<|Wp.region<|Aa.op (Ab.add rf rf (Av (by omega))) rf<|Aa.op (Ab.move rf) rf<|Aa.nil<|At.AW [] 2 rf rf rf ?_
  refine At.AZ (Hp.le.refl _) ⟨(k1+1),rf,rf,(by rw[←hn1];exact hd)⟩ (Sub.of rf)
 obtain⟨hb5,hd⟩:=bF hb5 hd
 refine Wp.exit<|At.Ao<|At.Ao<|At.AB<|At.Ae<|Wp.sr<|Aa.op (Ab.assign rf) rf<|Aa.Ah ?_
 refine Wp.ret ?_
 obtain rfl:=si hd
 exact At.q1 0 hl1 rf (RV.tmp rf) rf
theorem R6{fu:Nat}{a0:List (Bool×(List (Int×Int×Int)))}{a1:List (Bool×(List (Int×Int×Int)))}{v1 v2:Value}{r:Bool}(hv1:AL (cP cB (cL (cP A0 (cP A0 Ar)))) H a0 v1)(hv2:AL (cP cB (cL (cP A0 (cP A0 Ar)))) H a1 v2)(hd:JN fu a0 a1=some r):
  CB Tryz.prog 25 [(.agg #[v1]),(.agg #[v2])] H O (.bool r):=by
 intro w hs
 refine Bo Tryz.func25 rf rf rf ?_ hs
 clear hs w
 unfold JN at hd
 refine Wp.sr<|Aa.box (cs:= #[v1]) rf rf rf fun B2=>Aa.box (cs:= #[v2]) rf rf rf fun B3=>Aa.op (Ab.assign rf) rf<|Aa.Ah<|Wp.seq ?_
 obtain⟨x1,hx1,hd⟩:=Ag hd
 refine Wp.region<|Aa.op (Ab.A6 (o':=0) BO rf rf) rf<|Aa.op (Ab.Am (i:=1) (v:=v1) C9 rf rf rf rf) rf<|Aa.op (Ab.A6 (o':=0) BO rf rf) rf<|Aa.op (Ab.Am (i:=0) (v:=v2) C9 rf rf rf rf) rf<|Aa.op (Ab.call Yx rf (Fw hv1 hv2 hx1)) rf<|Aa.op (Ab.assign rf) rf<|Aa.Ah ?_
 refine Wp.ret ?_
 obtain rfl:=si hd
 exact At.q1 2 (Hp.le.refl _) rf (RV.tmp rf) rf
theorem E9{fu:Nat}{a0:BF}{r:List (Bool×(List (Int×Int×Int)))}(hd:NL fu a0=some r):
   Eg Tryz.prog 16 [(sv a0)] H O (fun v H' O'=>(∃v1:Value,(.agg #[v1])=v∧AL (cP cB (cL (cP A0 (cP A0 Ar)))) H' r v1)∧O=O'):=by
 intro w hs
 refine Bo Tryz.func16 rf rf rf ?_ hs
 clear hs w
 unfold NL at hd
 refine Wp.sr<|Aa.alloc (cs:= #[(.slice none 0 0)]) A5 rf rf fun B1=>Aa.Ah<|Wp.sr<|Aa.alloc (cs:= #[(.slice none 0 0)]) A5 rf rf fun B2=>Aa.Ah<|Wp.seq<|Wp.sr ?_
 refine Aa.op (Ab.move rf) rf<|Aa.op (Ab.Tu u9 rf) rf<|Aa.op (Ab.move rf) rf<|Aa.Ah<|Wp.block<|Wp.Cb 45 2<|Wp.Bt (fun m LL HH OO=> ∃(l1:List (Bool×(List (Int×Int×Int)))),∃(i1:Int),∃(v2:Value),∃(xs1:List Value),[(0,(sv a0)),(2,(ptr B1 0)),(3,(ptr B2 0)),(6,(.int .i64 (a0.length:Int))),(7,(.int .i64 i1))]=LL∧ .row v2 45 2 l1.length xs1:: .Az B2 (.cells #[v2] 32 (0,0)):: .Az B1 (.cells #[(.slice none 0 0)] 32 (0,0))::O=OO∧Ax m (fun p nx=>Hy fu a0 p.1 p.2 nx) (l1,i1)=some r∧Ap (cP cB (cL (cP A0 (cP A0 Ar)))) HH l1 xs1) fu ⟨([]:List (Bool×(List (Int×Int×Int)))),0,(.slice none 0 0),[],rf,rf,hd,(Ap.nil (c:=(cP cB (cL (cP A0 (cP A0 Ar))))) (H:=H))⟩ (Sub.of rf) ?_
 intro m1 L1 H1 O1 hl1 hI1
 obtain⟨l1,i1,v2,xs1,rfl,rfl,hd,hq1⟩:=hI1
 obtain⟨m2,nx1,rfl,hn1,hd⟩:=Bm hd
 replace hd:Hy fu a0 l1 i1 nx1=some r:=hd
 unfold Hy at hd
 refine Wp.sr<|Aa.op (Ab.lss rf rf) rf<|Aa.Ah<|Wp.seq ?_
 refine Wp.cond rf (fun hb1=>?_) (fun hb1=>?_)
 ·
  obtain⟨hb1,hd⟩:=bT hb1 hd
  refine Wp.skip<|At.Ae<|Wp.seq<|Wp.block<|Wp.sr<|Aa.op (Ab.move rf) rf<|Aa.op (Ab.assign rf) rf<|Aa.Ah ?_
  obtain⟨x1,hx1,hd⟩:=Ag hd
  have hx1_:=JB hx1
  obtain⟨x2,hx2,hd⟩:=Ag hd
  have hx2_:=JB hx2
  obtain⟨ha1,hd⟩:=Al hd
  obtain⟨ha2,hd⟩:=Al hd
  refine Wp.emp<|Wp.emp<|Af.runK 5 [Ay,⟨[3],[],[]⟩,Ay,Ay,Ay,Ay,Ay,Ay,Ay,Ay,Ay,⟨[0],[0],[11]⟩,⟨[],[],[11]⟩,⟨[1],[1],[11,13]⟩,⟨[1,2],[2],[11,14]⟩,Ay,⟨[3],[3],[14]⟩] follows rf (by kernel_rfl)<|Af.op (val:=fun p1=>(ptr B2 0)) rf rf (fun _=>rfl) (fun _ p1 _ hx hf hy=>Ab.A6 (o':=0) BO rf rf) rf<|Af.op (val:=fun p1=>v2) rf rf (fun _=>rfl) (fun _ p1 _ hx hf hy=>Ab.Am (i:=3) (v:=v2) C9 rf rf (hy 3 _ rf rf) rf) rf<|Af.op (val:=fun p1=>(sv a0)) rf rf (fun _=>rfl) (fun _ p1 _ hx hf hy=>Ab.move rf) rf<|Af.op (val:=fun p1=>(.int .i64 i1)) rf rf (fun _=>rfl) (fun _ p1 _ hx hf hy=>Ab.move rf) rf<|Af.op (val:=fun p1=>(.int .u8 x1)) rf rf (fun _=>rfl) (fun _ p1 _ hx hf hy=>Ab.MU u9 rf rf hx1) rf ?_
  refine Af.op (val:=fun p1=>(sv a0)) rf rf (fun _=>rfl) (fun _ p1 _ hx hf hy=>Ab.move rf) rf<|Af.op (val:=fun p1=>(.int .i64 i1)) rf rf (fun _=>rfl) (fun _ p1 _ hx hf hy=>Ab.move rf) rf<|Af.op (val:=fun p1=>(.int .u8 x2)) rf rf (fun _=>rfl) (fun _ p1 _ hx hf hy=>Ab.MU u9 rf rf hx2) rf<|Af.op (val:=fun p1=>(.int .i64 i1)) rf rf (fun _=>rfl) (fun _ p1 _ hx hf hy=>Ab.move rf) rf<|Af.op (val:=fun p1=>(.int .i64 (i1+1))) rf rf (fun _=>rfl) (fun _ p1 _ hx hf hy=>Ab.add rf rf (Av ha1)) rf<|Af.op (val:=fun p1=>(.agg #[(.int .u8 x1),(.int .u8 x2),(.int .i64 (i1+1))])) rf rf (fun _=>rfl) (fun _ p1 _ hx hf hy=>Ab.Bj (vs:=[(0,(.int .u8 x1)),(1,(.int .u8 x2)),(2,(.int .i64 (i1+1)))]) (cs:= #[(.int .u8 x1),(.int .u8 x2),(.int .i64 (i1+1))]) Jl Cz rf rf (AK rf (AK rf (AK rf (A8)))) rf) rf<|Af.Fz (res:=fun p1=> .row (p1 11) 47 3 1 [(.int .u8 x1),(.int .u8 x2),(.int .i64 (i1+1))]) 0 rf rf rf (fun _=>rfl) (fun _ p1 _ hx hf hy=>Bc.DM (v:=(.agg #[(.int .u8 x1),(.int .u8 x2),(.int .i64 (i1+1))])) (cs:=[(.int .u8 x1),(.int .u8 x2),(.int .i64 (i1+1))]) 0 EL Cz rf rf rf rf rf (hy 0 _ rf rf)) rf (fun _=>⟨_,_,_,_,rf⟩)<|Af.op (val:=fun p1=>(.agg #[(.bool false),(p1 11)])) rf rf (fun _=>rfl) (fun _ p1 _ hx hf hy=>Ab.Bj (vs:=[(1,(p1 11))]) (cs:= #[(.bool false),(p1 11)]) HV BX rf rf (AK (E8 (hf 11 rf rf)) (A8)) rf) rf ?_
  refine Af.Fz (res:=fun p1=> .row (p1 13) 45 2 1 [(.bool false),(p1 11)]) 1 rf rf rf (fun _=>rfl) (fun _ p1 _ hx hf hy=>Bc.DM (v:=(.agg #[(.bool false),(p1 11)])) (cs:=[(.bool false),(p1 11)]) 1 C9 BX rf rf rf rf rf (hy 1 _ rf rf)) rf (fun _=>⟨_,_,_,_,rf⟩)<|Af.Fz (res:=fun p1=> .row (p1 14) 45 2 (l1.length+1) (xs1++[(.bool false),(p1 11)])) 2 rf rf rf (fun _=>rfl) (fun _ p1 _ hx hf hy=>Bc.KE 2 1 C9 BX rf rf rf rf (hy 2 _ rf rf) (hy 1 _ rf rf) (Ac rf (Ac (hf 11 rf rf) (An))) rf ha2) rf (fun _=>⟨_,_,_,_,rf⟩)<|Af.op (val:=fun p1=>(ptr B2 0)) rf rf (fun _=>rfl) (fun _ p1 _ hx hf hy=>Ab.A6 (o':=0) BO rf rf) rf<|Af.GY (res:=fun p1=> .Az B2 (.cells #[(p1 14)] 32 (0,0))) 3 rf rf rf (fun _=>rfl) (fun _ p1 _ hx hf hy=>Bc.P' (vs:=[(p1 14)]) rf rf (Ef (hf 14 rf rf)) Ww rf (Ac (hf 14 rf rf) (An)) (hy 3 _ rf rf) rf rf)<|Af.done fun H2 p1 hl2 hF1=>At.sub (L':=[(0,(sv a0)),(2,(ptr B1 0)),(3,(ptr B2 0)),(6,(.int .i64 (a0.length:Int))),(7,(.int .i64 i1))]) (Sub.of rf) ?_
  refine At.own (O:= .row (p1 11) 47 3 ([(x1,x2,i1+1)]:List (Int×Int×Int)).length [(.int .u8 x1),(.int .u8 x2),(.int .i64 (i1+1))]:: .row (p1 13) 45 2 ([(false,([(x1,x2,i1+1)]:List (Int×Int×Int)))]:List (Bool×(List (Int×Int×Int)))).length [(.bool false),(p1 11)]:: .row (p1 14) 45 2 (l1++([(false,([(x1,x2,i1+1)]:List (Int×Int×Int)))]:List (Bool×(List (Int×Int×Int))))).length (xs1++[(.bool false),(p1 11)]):: .Az B2 (.cells #[(p1 14)] 32 (0,0)):: .Az B1 (.cells #[(.slice none 0 0)] 32 (0,0))::O) ?_ (by first|rfl|(simp only[List.length_append,List.length_set];rfl)|simp)
  have hq2:Ap (cP A0 (cP A0 Ar)) H2 ([(x1,x2,i1+1)]:List (Int×Int×Int)) [(.int .u8 x1),(.int .u8 x2),(.int .i64 (i1+1))]:=(Ap.Iy (c:=(cP A0 (cP A0 Ar))) (a:=(x1,x2,i1+1)) (cs:=[(.int .u8 x1),(.int .u8 x2),(.int .i64 (i1+1))]) (⟨[(.int .u8 x1)],[(.int .u8 x2),(.int .i64 (i1+1))],rfl,⟨rfl,(show(0:Int)≤x1 by omega),(show x1≤(255:Int) by omega)⟩,⟨[(.int .u8 x2)],[(.int .i64 (i1+1))],rfl,⟨rfl,(show(0:Int)≤x2 by omega),(show x2≤(255:Int) by omega)⟩,rfl⟩⟩))
  refine At.Bk (i:=0) rf fun hb2=>?_
  refine At.freeze (i:=0) rf fun H3 hl3 hs1=>?_
  have hv1:=AL.of (c:=(cP A0 (cP A0 Ar))) hs1 rfl (hq2.mono hl3) hb2
  have hq3:Ap (cP cB (cL (cP A0 (cP A0 Ar)))) H3 (l1++([(false,([(x1,x2,i1+1)]:List (Int×Int×Int)))]:List (Bool×(List (Int×Int×Int))))) (xs1++[(.bool false),(p1 11)]):=(Ap.app (hq1.mono (hl2.trans hl3)) (Ap.Iy (c:=(cP cB (cL (cP A0 (cP A0 Ar))))) (a:=(false,([(x1,x2,i1+1)]:List (Int×Int×Int)))) (cs:=[(.bool false),(p1 11)]) (⟨[(.bool false)],[(p1 11)],rfl,rfl,⟨_,rfl,hv1⟩⟩)))
  refine At.AW [1,2,3] 4 rf rf rf<|At.AF<|At.Ae ?_
  obtain⟨ha3,hd⟩:=Al hd
  refine Wp.region<|Aa.op (Ab.add rf rf (Av ha3)) rf<|Aa.op (Ab.move rf) rf<|Aa.nil ?_
  refine At.AZ (hl2.trans hl3) ⟨(l1++([(false,([(x1,x2,i1+1)]:List (Int×Int×Int)))]:List (Bool×(List (Int×Int×Int))))),(i1+1),(p1 14),xs1++[(.bool false),(p1 11)],rf,rf,(by rw[←hn1];exact hd),hq3⟩ (Sub.of rf)
 obtain⟨hb1,hd⟩:=bF hb1 hd
 refine Wp.exit<|At.Ao<|At.Ao<|At.AB<|At.Ae<|Wp.seq ?_
 obtain⟨ha4,hd⟩:=Al hd
 refine Wp.region<|Aa.op (Ab.A6 (o':=0) BO rf rf) rf<|Aa.op (Ab.Am (i:=1) (v:=v2) C9 rf rf rf rf) rf<|Aa.op (Ab.Bj (vs:=[(0,(.bool true))]) (cs:= #[(.bool true),(.slice none 0 0)]) HV BX rf rf (AK rf (A8)) rf) rf<|Aa.Bv (c:=(cP cB (cL (cP A0 (cP A0 Ar))))) (y:=(true,([]:List (Int×Int×Int)))) (cs:=[(.bool true),(.slice none 0 0)]) C9 BX rf rf rf rf (⟨[(.bool true)],[(.slice none 0 0)],rf,rf,⟨_,rf,AL.nil⟩⟩) rf fun v3 xs2 hq4=>Aa.Hz (i:=1) (j:=0) hq1 hq4 C9 BX rf (by decide) rf rf rf rf (by decide) ha4 rf fun v4 xs3 hq5=>Aa.drop (i:=0)<|Aa.op (Ab.A6 (o':=0) BO rf rf) rf ?_
 refine Aa.BU (i:=0) rf fun ho1=>Aa.Dc (i:=1) rf rf ho1 Ww rf (Nat.le_of_ble_eq_true rf) ?_
 refine Aa.own (O:=_::_::_::_) ?_ rf
 refine Aa.Ah<|Wp.sr<|Aa.op (Ab.Aw (i:=1) u32 rf A5 rf rf rf) rf<|Aa.BU (i:=0) rf fun ho2=>Aa.AM (i:=2) (cs':= #[v4]) rf rf A5 rf rf (Bd (Ac ho2 (An))) rf ?_
 refine Aa.own (O:=_::_::_::_) ?_ rf
 refine Aa.Ah<|Wp.ret ?_
 refine At.Bk (i:=0) rf fun hb3=>?_
 refine At.freeze (i:=0) rf fun H4 hl4 hs2=>?_
 have hv2:=AL.of (c:=(cP cB (cL (cP A0 (cP A0 Ar))))) hs2 rfl (hq5.mono hl4) hb3
 obtain rfl:=si hd
 exact At.C_ rf (RV.CQ (i:=1) rf u32 rf A5 rf rf) (fun w hs=>⟨_,_,_,rf,(hl1.trans hl4),(hs.BW 2),⟨⟨v4,rf,hv2⟩,rf⟩⟩)
theorem Ft{fu:Nat}{r:List (Bool×(List (Int×Int×Int)))}(hd:PX fu=some r):
  Eg Tryz.prog 15 [] H O (fun v H' O'=>(∃v1:Value,(.agg #[v1])=v∧AL (cP cB (cL (cP A0 (cP A0 Ar)))) H' r v1)∧O=O'):=by
 intro w hs
 refine Bo Tryz.func15 rf rf rf ?_ hs
 clear hs w
 unfold PX at hd
 refine Wp.sr<|Aa.alloc (cs:= #[(.slice none 0 0)]) A5 rf rf fun B1=>Aa.Ah<|Wp.sr<|Aa.op (Ab.Bj (vs:=[(0,(.int .u8 0)),(1,(.int .u8 255)),(2,(.int .i64 0))]) (cs:= #[(.int .u8 0),(.int .u8 255),(.int .i64 0)]) Jl Cz rf rf (AK rf (AK rf (AK rf (A8)))) rf) rf<|Aa.Bv (c:=(cP A0 (cP A0 Ar))) (y:=(0,255,0)) (cs:=[(.int .u8 0),(.int .u8 255),(.int .i64 0)]) EL Cz rf rf rf rf (⟨[(.int .u8 0)],[(.int .u8 255),(.int .i64 0)],rf,⟨rf,(show(0:Int)≤0 by omega),(show 0≤(255:Int) by omega)⟩,⟨[(.int .u8 255)],[(.int .i64 0)],rf,⟨rf,(show(0:Int)≤255 by omega),(show 255≤(255:Int) by omega)⟩,rf⟩⟩) rf fun v2 xs1 hq1=>Aa.BU (i:=0) rf fun ho1=>Aa.op (Ab.Bj (vs:=[(0,(.bool true)),(1,v2)]) (cs:= #[(.bool true),v2]) HV BX rf rf (AK rf (AK (E8 ho1) (A8))) rf) rf ?_
 refine Aa.Bk (i:=0) rf fun hb1=>?_
 refine Aa.freeze (i:=0) rf fun H1 hl1 hs1=>?_
 have hv1:=AL.of (c:=(cP A0 (cP A0 Ar))) hs1 rfl (hq1.mono hl1) hb1
 refine Aa.Bv (c:=(cP cB (cL (cP A0 (cP A0 Ar))))) (y:=(true,([(0,255,0)]:List (Int×Int×Int)))) (cs:=[(.bool true),v2]) C9 BX rf rf rf rf (⟨[(.bool true)],[v2],rf,rf,⟨_,rf,hv1⟩⟩) rf fun v3 xs2 hq2=>Aa.BU (i:=0) rf fun ho2=>Aa.op (Ab.Bj (vs:=[(0,v3)]) (cs:= #[v3]) HB A5 rf rf (AK (E8 ho2) (A8)) rf) rf<|Aa.BU (i:=0) rf fun ho3=>Aa.AM (i:=1) (cs':= #[v3]) rf rf A5 rf rf (Bd (Ac ho3 (An))) rf ?_
 refine Aa.own (O:=_::_::_) ?_ rf
 refine Aa.Ah<|Wp.ret ?_
 refine At.Bk (i:=0) rf fun hb2=>?_
 refine At.freeze (i:=0) rf fun H2 hl2 hs2=>?_
 have hv2:=AL.of (c:=(cP cB (cL (cP A0 (cP A0 Ar))))) hs2 rfl (hq2.mono hl2) hb2
 obtain rfl:=si hd
 exact At.C_ rf (RV.CQ (i:=0) rf u32 rf A5 rf rf) (fun w hs=>⟨_,_,_,rf,(hl1.trans hl2),(hs.BW 1),⟨⟨v3,rf,hv2⟩,rf⟩⟩)
theorem Uo{fu:Nat}{a0:List (Bool×(List (Int×Int×Int)))}{v1:Value}{r:List Int}(hv1:AL (cP cB (cL (cP A0 (cP A0 Ar)))) H a0 v1)(hd:L_ fu a0=some r):
    Eg Tryz.prog 45 [v1] H O (fun v H' O'=>(∃v2:Value,v2=v∧AL Ar H' r v2)∧O=O'):=by
 intro w hs
 refine Bo Tryz.func45 rf rf rf ?_ hs
 clear hs w
 unfold L_ at hd
 refine Wp.sr<|Aa.op (Ab.assign rf) rf<|Aa.Ah<|Wp.sr<|Aa.alloc (cs:=(List.replicate 257 (.bool false)).toArray) XJ rf rf fun B2=>?_
 have hq1:Ap cB H (List.replicate 257 false:List Bool) ((List.replicate 257 (.bool false)).toArray).toList:=Ap.XU rfl 257
 refine Aa.Ah<|Wp.seq ?_
 obtain⟨x1,hx1,hd⟩:=Ag hd
 refine Wp.region ?_
 obtain⟨_,rfl,hc1,hc1_⟩:=Ap.get hq1 (AX hx1).2
 have hn1:=Ap.Vo hq1 (V8 257 _)
 refine Aa.op (Ab.ED (off':=0*1) UM JY rf rf (by have:=Aj hx1;simp only[cB,Ar,A0]at hn1;omega) (by simp)) rf ?_
 refine Aa.Zc (q:=0) (y:=true) (i:=0) hq1 (V8 257 _) (Aj hx1) rf rf rf JY rf (rf) (fun cs1 hq2=>?_)
 refine Aa.Ah<|Wp.seq<|Wp.sr<|Aa.op (Ab.move rf) rf ?_
 have hb1:=hv1.le
 refine Aa.op (Ab.len C9 rf hv1.sl) rf<|Aa.op (Ab.move rf) rf<|Aa.Ah<|Wp.block<|Wp.Bt (fun m LL HH OO=> ∃(l1:List Bool),∃(k1:Nat),∃(cs2:Array Value),[(3,(ptr B2 0)),(11,v1),(12,(.int .i64 (a0.length:Int))),(13,(.int .i64 (k1:Int)))]=LL∧ .Az B2 (.cells cs2 123 (0,0))::O=OO∧Ax m (fun p nx=>FU fu a0 p.1 p.2 nx) (l1,k1)=some r∧Ap cB HH l1 cs2.toList∧cs2.size=257) fu ⟨((List.replicate 257 false:List Bool).set 0 true),0,cs1,rf,rf,hd,⟨hq2.1,hq2.2⟩⟩ (Sub.of rf) ?_
 intro m1 L1 H1 O1 hl1 hI1
 obtain⟨l1,k1,cs2,rfl,rfl,hd,hq3⟩:=hI1
 obtain⟨m2,nx1,rfl,hn2,hd⟩:=Bm hd
 replace hd:FU fu a0 l1 k1 nx1=some r:=hd
 unfold FU at hd
 refine Wp.sr<|Aa.op (Ab.lss rf rf) rf<|Aa.Ah<|Wp.seq ?_
 refine Wp.cond rf (fun hb2=>?_) (fun hb2=>?_)
 ·
  obtain⟨hb2,hd⟩:=bT hb2 hd
  refine Wp.skip<|At.Ae<|Wp.seq<|Wp.block<|Wp.seq ?_
  obtain⟨x2,hx2,hd⟩:=Ag hd
  have hx2_:=Aj hx2
  refine Wp.region ?_
  obtain⟨_,⟨_,_,rfl,rfl,⟨v3,rfl,hv2⟩⟩,hc2⟩:=AL.get (hv1.mono hl1) hx2
  refine Aa.op (Ab.Bz C9 BX rf (hv1.mono hl1).sl rf (Aj hx2)) rf<|Aa.op (Ab.DA (vs:=[(.bool x2.1),v3]) Sq rf BX rf rf (fun j u hj=>(hc2 j u hj))) rf<|Aa.alloc (cs:= #[(.bool false),(.slice none 0 0)]) BX rf rf fun B3=>Aa.AM (i:=0) (cs':= #[(.bool x2.1),v3]) rf rf BX rf rf (Bd (Ac rf (Ac hv2.one (An)))) rf ?_
  refine Aa.own (O:=_::_::_) ?_ rf
  refine Aa.Ah<|Wp.sr<|Aa.op (Ab.A6 (o':=1) Ct rf rf) rf<|Aa.op (Ab.Am (i:=0) (v:=v3) EL rf rf rf rf) rf ?_
  have hb3:=hv2.le
  refine Aa.op (Ab.len EL rf hv2.sl) rf<|Aa.op (Ab.move rf) rf<|Aa.Ah<|Wp.block<|Wp.Bt (fun m LL HH OO=> ∃(l2:List Bool),∃(k2:Nat),∃(cs3:Array Value),[(3,(ptr B2 0)),(11,v1),(12,(.int .i64 (a0.length:Int))),(13,(.int .i64 (k1:Int))),(18,v3),(19,(.int .i64 (x2.2.length:Int))),(20,(.int .i64 (k2:Int)))]=LL∧ .Az B3 (.cells #[(.bool x2.1),v3] 45 (0,0)):: .Az B2 (.cells cs3 123 (0,0))::O=OO∧Ax m (fun p nx=>FT fu k1 nx1 x2 p.1 p.2 nx) (l2,k2)=some r∧Ap cB HH l2 cs3.toList∧cs3.size=257) fu ⟨l1,0,cs2,rf,rf,hd,⟨hq3.1,hq3.2⟩⟩ (Sub.of rf) ?_
  intro m3 L2 H2 O2 hl2 hI2
  obtain⟨l2,k2,cs3,rfl,rfl,hd,hq4⟩:=hI2
  obtain⟨m4,nx2,rfl,hn3,hd⟩:=Bm hd
  replace hd:FT fu k1 nx1 x2 l2 k2 nx2=some r:=hd
  unfold FT at hd
  refine Wp.sr<|Aa.op (Ab.lss rf rf) rf<|Aa.Ah<|Wp.seq ?_
  refine Wp.cond rf (fun hb4=>?_) (fun hb4=>?_)
  ·
   obtain⟨hb4,hd⟩:=bT hb4 hd
   refine Wp.skip<|At.Ae<|Wp.seq<|Wp.block<|Wp.seq ?_
   obtain⟨x3,hx3,hd⟩:=Ag hd
   have hx3_:=Aj hx3
   refine Wp.region ?_
   obtain⟨_,⟨_,_,rfl,⟨rfl,hr1,hr2⟩,⟨_,_,rfl,⟨rfl,hr3,hr4⟩,rfl⟩⟩,hc3⟩:=AL.get (hv2.mono hl2) hx3
   refine Aa.op (Ab.Bz EL Cz rf (hv2.mono hl2).sl rf (Aj hx3)) rf<|Aa.op (Ab.DA (vs:=[(.int .u8 x3.1),(.int .u8 x3.2.1),(.int .i64 x3.2.2)]) V4 rf Cz rf rf (fun j u hj=>(hc3 j u hj))) rf<|Aa.alloc (cs:= #[(.int .u8 0),(.int .u8 0),(.int .i64 0)]) Cz rf rf fun B4=>Aa.AM (i:=0) (cs':= #[(.int .u8 x3.1),(.int .u8 x3.2.1),(.int .i64 x3.2.2)]) rf rf Cz rf rf (Bd (Ac rf (Ac rf (Ac rf (An))))) rf ?_
   refine Aa.own (O:=_::_::_::_) ?_ rf
   refine Aa.Ah<|Wp.seq ?_
   obtain⟨x4,hx4,hd⟩:=Ag hd
   refine Wp.region<|Aa.op (Ab.A6 (o':=0) Gh rf rf) rf<|Aa.op (Ab.Am (i:=0) (v:=(.int .u8 x3.1)) u5 rf rf rf rf) rf ?_
   obtain⟨_,rfl,hc4,hc4_⟩:=Ap.get hq4.1 (AX hx4).2
   have hn4:=Ap.Vo hq4.1 hq4.2
   refine Aa.op (Ab.ED (off':=x3.1.toNat*1) UM JY rf rf (by have:=Aj hx4;simp only[cB,Ar,A0]at hn4;omega) (by simp)) rf ?_
   refine Aa.Zc (q:=2) (y:=true) (i:=x3.1) hq4.1 hq4.2 (Aj hx4) rf rf rf JY rf (rf) (fun cs4 hq5=>?_)
   refine Aa.Ah ?_
   obtain⟨ha1,hd⟩:=Al hd
   obtain⟨x5,hx5,hd⟩:=Ag hd
   refine Wp.region<|Aa.op (Ab.A6 (o':=1) Gg rf rf) rf<|Aa.op (Ab.Am (i:=0) (v:=(.int .u8 x3.2.1)) u5 rf rf rf rf) rf<|Aa.op (Ab.conv u5 u3 rf (Av (by omega))) rf<|Aa.op (Ab.add rf rf (Av ha1)) rf ?_
   obtain⟨_,rfl,hc5,hc5_⟩:=Ap.get hq5.1 (AX hx5).2
   have hn5:=Ap.Vo hq5.1 hq5.2
   refine Aa.op (Ab.ED (off':=((x3.2.1+1).toNat)*1) UM JY rf rf (by have:=Aj hx5;simp only[cB,Ar,A0]at hn5;omega) (by simp)) rf ?_
   refine Aa.Zc (q:=2) (y:=true) (i:=(x3.2.1+1)) hq5.1 hq5.2 (Aj hx5) rf rf rf JY rf (rf) (fun cs5 hq6=>?_)
   refine Aa.nil<|At.AF<|At.Ae<|Wp.region<|Aa.op (Ab.add rf rf (Av (by omega))) rf<|Aa.op (Ab.move rf) rf<|Aa.nil<|At.AW [1,2] 3 rf rf rf ?_
   refine At.AZ (Hp.le.refl _) ⟨((l2.set x3.1.toNat true).set ((x3.2.1+1).toNat) true),(k2+1),cs5,rf,rf,(by rw[←hn3];exact hd),⟨hq6.1,hq6.2⟩⟩ (Sub.of rf)
  obtain⟨hb4,hd⟩:=bF hb4 hd
  refine Wp.exit<|At.Ao<|At.Ao<|At.AB<|At.AF<|At.Ae<|Wp.region<|Aa.op (Ab.add rf rf (Av (by omega))) rf ?_
  refine Aa.op (Ab.move rf) rf<|Aa.nil<|At.AW [1] 2 rf rf rf ?_
  refine At.AZ hl2 ⟨l2,(k1+1),cs3,rf,rf,(by rw[←hn2];exact hd),⟨hq4.1,hq4.2⟩⟩ (Sub.of rf)
 obtain⟨hb2,hd⟩:=bF hb2 hd
 refine Wp.exit<|At.Ao<|At.Ao<|At.AB<|At.Ae<|Wp.sr<|Aa.op (Ab.assign rf) rf<|Aa.Ah ?_
 refine Wp.seq<|Wp.sr<|Aa.op (Ab.move rf) rf<|Aa.Ah<|Wp.block<|Wp.Cb 3 1<|Wp.Bt (fun m LL HH OO=> ∃(l3:List Int),∃(k3:Nat),∃(v4:Value),∃(xs1:List Value),[(3,(ptr B2 0)),(8,v4),(34,(.int .i64 (k3:Int)))]=LL∧ .row v4 3 1 l3.length xs1:: .Az B2 (.cells cs2 123 (0,0))::O=OO∧Ax m (fun p nx=>FR fu l1 p.1 p.2 nx) (l3,k3)=some r∧Ap Ar HH l3 xs1) fu ⟨([]:List Int),0,(.slice none 0 0),[],rf,rf,hd,(Ap.nil (c:=Ar) (H:=H1))⟩ (Sub.of rf) ?_
 intro m5 L3 H3 O3 hl3 hI3
 obtain⟨l3,k3,v4,xs1,rfl,rfl,hd,hq7⟩:=hI3
 obtain⟨m6,nx3,rfl,hn6,hd⟩:=Bm hd
 replace hd:FR fu l1 l3 k3 nx3=some r:=hd
 unfold FR at hd
 refine Wp.sr<|Aa.op (Ab.lss rf rf) rf<|Aa.Ah<|Wp.seq ?_
 refine Wp.cond rf (fun hb5=>?_) (fun hb5=>?_)
 ·
  obtain⟨hb5,hd⟩:=bT hb5 hd
  refine Wp.skip<|At.Ae<|Wp.seq<|Wp.block<|Wp.sr<|Aa.op (Ab.move rf) rf<|Aa.op (Ab.assign rf) rf<|Aa.Ah ?_
  refine Wp.seq ?_
  obtain⟨x6,hx6,hd⟩:=Ag hd
  refine Wp.region<|Aa.op (Ab.move rf) rf ?_
  obtain⟨_,rfl,hc6,hc6_⟩:=Ap.get (hq3.1.mono hl3) (AX hx6).2
  have hn7:=Ap.Vo (hq3.1.mono hl3) hq3.2
  refine Aa.op (Ab.ED (off':=k3*1) UM JY rf rf (by have:=Aj hx6;simp only[cB,Ar,A0]at hn7;omega) (by simp)) rf<|Aa.op (Ab.Am (i:=1) (v:=(.bool x6)) u4 rf rf rf (by have:=hc6 0 _ rf;simpa [cB,Ar,A0]using this)) rf<|Aa.Ah ?_
  refine Wp.cond rf (fun hb6=>?_) (fun hb6=>?_)
  ·
   replace hd:=Gl hb6 hd
   obtain⟨ha2,hd⟩:=Al hd
   refine Wp.region<|Aa.op (Ab.move rf) rf<|Aa.op (Ab.move rf) rf<|Aa.Bv (c:=Ar) (y:=(k3:Int)) (cs:=[(.int .i64 (k3:Int))]) Cv DP rf rf rf rf (rf) rf fun v5 xs2 hq8=>Aa.Hz (i:=1) (j:=0) hq7 hq8 Cv DP rf (by decide) rf rf rf rf (by decide) ha2 rf fun v6 xs3 hq9=>Aa.drop (i:=0)<|Aa.op (Ab.assign rf) rf<|Aa.nil ?_
   refine At.AF<|At.Ae<|Wp.region<|Aa.op (Ab.add rf rf (Av (by omega))) rf<|Aa.op (Ab.move rf) rf<|Aa.nil ?_
   refine At.AZ (Hp.le.refl _) ⟨(l3++([(k3:Int)]:List Int)),(k3+1),v6,xs3,rf,rf,(by rw[←hn6];exact hd),hq9⟩ (Sub.of rf)
  replace hd:=Gm hb6 hd
  refine Wp.skip<|At.AF<|At.Ae<|Wp.region<|Aa.op (Ab.add rf rf (Av (by omega))) rf<|Aa.op (Ab.move rf) rf<|Aa.nil ?_
  refine At.AZ (Hp.le.refl _) ⟨l3,(k3+1),v4,xs1,rf,rf,(by rw[←hn6];exact hd),hq7⟩ (Sub.of rf)
 obtain⟨hb5,hd⟩:=bF hb5 hd
 refine Wp.exit<|At.Ao<|At.Ao<|At.AB<|At.Ae<|Wp.sr<|Aa.op (Ab.move rf) rf<|Aa.op (Ab.assign rf) rf ?_
 refine Aa.Ah<|Wp.ret ?_
 refine At.Bk (i:=0) rf fun hb7=>?_
 refine At.freeze (i:=0) rf fun H4 hl4 hs1=>?_
 have hv3:=AL.of (c:=Ar) hs1 rfl (hq7.mono hl4) hb7
 obtain rfl:=si hd
 exact At.C_ rf (RV.tmp (v:=v4) rf) (fun w hs=>⟨_,_,_,rf,((hl1.trans hl3).trans hl4),(hs.BW 1),⟨⟨v4,rf,hv3⟩,rf⟩⟩)
theorem Mq{fu:Nat}{a0:List (Bool×(List (Int×Int×Int)))}{v1:Value}{r:(List Int)×(List (List Int))×(List Bool)×(List Int)}(hv1:AL (cP cB (cL (cP A0 (cP A0 Ar)))) H a0 v1)(hd:Fq fu a0=some r):
    Eg Tryz.prog 26 [v1] H O (fun v H' O'=> ∃B1:Nat,∃v2:Value,∃v3:Value,∃v4:Value,∃v5:Value,(ptr B1 0)=v∧AL Ar H' r.1 v2∧AL (cL Ar) H' r.2.1 v3∧AL cB H' r.2.2.1 v4∧AL Ar H' r.2.2.2 v5∧ .Az B1 (.cells #[v2,v3,v4,v5] 97 (0,0))::O=O'):=by
 intro w hs
 refine Bo Tryz.func26 rf rf rf ?_ hs
 clear hs w
 unfold Fq at hd
 refine Wp.sr<|Aa.op (Ab.assign rf) rf<|Aa.Ah<|Wp.seq ?_
 obtain⟨x1,hx1,hd⟩:=Ag hd
 refine Wp.region<|Aa.op (Ab.move rf) rf<|Aa.Fi (Bc.call Yu rf (Uo hv1 hx1)) rf ?_
 rintro _ H1 _ hl1 ⟨⟨v6,rfl,hv2⟩,rfl⟩
 refine Aa.op (Ab.Bj (vs:=[(0,v6)]) (cs:= #[v6,(.slice none 0 0),(.slice none 0 0),(.slice none 0 0)]) XW Y9 rf rf (AK (E8 hv2.one) (A8)) rf) rf<|Aa.box (cs:= #[v6,(.slice none 0 0),(.slice none 0 0),(.slice none 0 0)]) rf rf rf fun B2=>Aa.op (Ab.assign rf) rf<|Aa.Ah<|Wp.sr<|Aa.op (Ab.move rf) rf ?_
 have hb1:=hv1.le
 refine Aa.op (Ab.len C9 rf (hv1.mono hl1).sl) rf<|Aa.op (Ab.assign rf) rf<|Aa.Ah<|Wp.seq<|Wp.sr<|Aa.op (Ab.move rf) rf ?_
 have hb2:=hv1.le
 refine Aa.op (Ab.len C9 rf (hv1.mono hl1).sl) rf<|Aa.op (Ab.move rf) rf<|Aa.Ah<|Wp.block<|Wp.Cb 65 1<|Wp.Cb 4 1<|Wp.Bt (fun m LL HH OO=> ∃(l1:List (List Int)),∃(l2:List Bool),∃(k1:Nat),∃(v7:Value),∃(xs1:List Value),∃(v8:Value),∃(xs2:List Value),[(3,(ptr B2 0)),(4,(.int .i64 (a0.length:Int))),(20,v1),(21,(.int .i64 (a0.length:Int))),(22,(.int .i64 (k1:Int)))]=LL∧ .row v8 4 1 l2.length xs2:: .row v7 65 1 l1.length xs1:: .Az B2 (.cells #[v6,v7,v8,(.slice none 0 0)] 97 (0,0))::O=OO∧Ax m (fun p nx=>Du fu a0 x1 p.1 p.2.1 p.2.2 nx) (l1,l2,k1)=some r∧Ap (cL Ar) HH l1 xs1∧Ap cB HH l2 xs2) fu ⟨([]:List (List Int)),([]:List Bool),0,(.slice none 0 0),[],(.slice none 0 0),[],rf,rf,hd,(Ap.nil (c:=(cL Ar)) (H:=H1)),(Ap.nil (c:=cB) (H:=H1))⟩ (Sub.of rf) ?_
 intro m1 L1 H2 O1 hl2 hI1
 obtain⟨l1,l2,k1,v7,xs1,v8,xs2,rfl,rfl,hd,hq1,hq2⟩:=hI1
 obtain⟨m2,nx1,rfl,hn1,hd⟩:=Bm hd
 replace hd:Du fu a0 x1 l1 l2 k1 nx1=some r:=hd
 unfold Du at hd
 refine Wp.sr<|Aa.op (Ab.lss rf rf) rf<|Aa.Ah<|Wp.seq ?_
 refine Wp.cond rf (fun hb3=>?_) (fun hb3=>?_)
 ·
  obtain⟨hb3,hd⟩:=bT hb3 hd
  refine Wp.skip<|At.Ae<|Wp.seq<|Wp.block<|Wp.seq ?_
  obtain⟨x2,hx2,hd⟩:=Ag hd
  have hx2_:=Aj hx2
  refine Wp.region ?_
  obtain⟨_,⟨_,_,rfl,rfl,⟨v9,rfl,hv3⟩⟩,hc1⟩:=AL.get (hv1.mono (hl1.trans hl2)) hx2
  refine Aa.op (Ab.Bz C9 BX rf (hv1.mono (hl1.trans hl2)).sl rf (Aj hx2)) rf<|Aa.op (Ab.DA (vs:=[(.bool x2.1),v9]) Sq rf BX rf rf (fun j u hj=>(hc1 j u hj))) rf<|Aa.alloc (cs:= #[(.bool false),(.slice none 0 0)]) BX rf rf fun B3=>Aa.AM (i:=0) (cs':= #[(.bool x2.1),v9]) rf rf BX rf rf (Bd (Ac rf (Ac hv3.one (An)))) rf ?_
  refine Aa.own (O:=_::_::_::_::_) ?_ rf
  refine Aa.Ah<|Wp.seq ?_
  obtain⟨ha1,hd⟩:=Al hd
  refine Wp.region<|Aa.op (Ab.move rf) rf<|Aa.op (Ab.nilCheck rf) rf<|Aa.op (Ab.A6 (o':=0) Ht rf rf) rf<|Aa.op (Ab.Am (i:=3) (v:=v6) Cv rf rf rf rf) rf ?_
  have hb4:=hv2.le
  refine Aa.op (Ab.len Cv rf (hv2.mono hl2).sl) rf<|Aa.MG (c:=Ar) (z:=0) (m:=x1.length) Cv DP rf rf ha1 (rf) rf rf rf fun v10 xs3 hq3=>Aa.op (Ab.assign rf) rf<|Aa.Ah<|Wp.seq<|Wp.sr<|Aa.op (Ab.move rf) rf<|Aa.op (Ab.nilCheck rf) rf ?_
  refine Aa.op (Ab.A6 (o':=0) Ht rf rf) rf<|Aa.op (Ab.Am (i:=4) (v:=v6) Cv rf rf rf rf) rf ?_
  have hb5:=hv2.le
  refine Aa.op (Ab.len Cv rf (hv2.mono hl2).sl) rf<|Aa.op (Ab.move rf) rf<|Aa.Ah<|Wp.block<|Wp.Bt (fun m LL HH OO=> ∃(l3:List Int),∃(k2:Nat),∃(v11:Value),∃(xs4:List Value),[(3,(ptr B2 0)),(4,(.int .i64 (a0.length:Int))),(6,(ptr B3 0)),(7,v11),(20,v1),(21,(.int .i64 (a0.length:Int))),(22,(.int .i64 (k1:Int))),(35,v6),(36,(.int .i64 (x1.length:Int))),(37,(.int .i64 (k2:Int)))]=LL∧ .row v11 3 1 l3.length xs4:: .Az B3 (.cells #[(.bool x2.1),v9] 45 (0,0)):: .row v8 4 1 l2.length xs2:: .row v7 65 1 l1.length xs1:: .Az B2 (.cells #[v6,v7,v8,(.slice none 0 0)] 97 (0,0))::O=OO∧Ax m (fun p nx=>Dt fu a0 x1 l1 l2 k1 nx1 x2 p.1 p.2 nx) (l3,k2)=some r∧Ap Ar HH l3 xs4) fu ⟨(List.replicate x1.length 0:List Int),0,v10,xs3,rf,rf,hd,hq3⟩ (Sub.of rf) ?_
  intro m3 L2 H3 O2 hl3 hI2
  obtain⟨l3,k2,v11,xs4,rfl,rfl,hd,hq4⟩:=hI2
  obtain⟨m4,nx2,rfl,hn2,hd⟩:=Bm hd
  replace hd:Dt fu a0 x1 l1 l2 k1 nx1 x2 l3 k2 nx2=some r:=hd
  unfold Dt at hd
  refine Wp.sr<|Aa.op (Ab.lss rf rf) rf<|Aa.Ah<|Wp.seq ?_
  refine Wp.cond rf (fun hb6=>?_) (fun hb6=>?_)
  ·
   obtain⟨hb6,hd⟩:=bT hb6 hd
   refine Wp.skip<|At.Ae<|Wp.seq<|Wp.block<|Wp.seq ?_
   obtain⟨x3,hx3,hd⟩:=Ag hd
   have hx3_:=Aj hx3
   refine Wp.region<|Aa.op (Ab.move rf) rf ?_
   obtain⟨_,rfl,hc2⟩:=AL.get (hv2.mono (hl2.trans hl3)) hx3
   refine Aa.op (Ab.Bz Cv DP rf (hv2.mono (hl2.trans hl3)).sl rf (Aj hx3)) rf<|Aa.op (Ab.HN u3 rf rf (hc2 0 _ rf)) rf<|Aa.op (Ab.assign rf) rf<|Aa.op (Ab.assign rf) rf<|Aa.Ah<|Wp.seq ?_
   obtain⟨x4,hx4,hd⟩:=Ag hd
   have hx4_:=Aj hx4
   refine Wp.region<|Aa.op (Ab.move rf) rf<|Aa.op (Ab.move rf) rf<|Aa.op (Ab.move rf) rf ?_
   obtain⟨_,rfl,hc3,hc3_⟩:=Ap.get hq4 (AX hx4).2
   refine Aa.op (Ab.Co (j:=0) Cv DP rf rf rf (Aj hx4)) rf ?_
   refine Aa.WB (q:=0) (off:=0) (vs:=[(.int .i64 (a0.length:Int))]) (y:=(a0.length:Int)) (cs:=[(.int .i64 x4)]) hq4 hx4 hc3_ rf rf rf DP rf rf (Ac rf (An)) rf (rf) rf (fun xs5 hq5=>?_)
   refine Aa.Ah<|Wp.sr<|Aa.op (Ab.A6 (o':=1) Ct rf rf) rf<|Aa.op (Ab.Am (i:=1) (v:=v9) EL rf rf rf rf) rf ?_
   have hb7:=hv3.le
   refine Aa.op (Ab.len EL rf (hv3.mono hl3).sl) rf<|Aa.op (Ab.move rf) rf<|Aa.Ah<|Wp.block<|Wp.Bt (fun m LL HH OO=> ∃(l4:List Int),∃(k3:Nat),∃(v12:Value),∃(xs6:List Value),[(3,(ptr B2 0)),(4,(.int .i64 (a0.length:Int))),(6,(ptr B3 0)),(7,v12),(8,(.int .i64 (k2:Int))),(9,(.int .i64 x3)),(20,v1),(21,(.int .i64 (a0.length:Int))),(22,(.int .i64 (k1:Int))),(35,v6),(36,(.int .i64 (x1.length:Int))),(37,(.int .i64 (k2:Int))),(47,v9),(48,(.int .i64 (x2.2.length:Int))),(49,(.int .i64 (k3:Int)))]=LL∧ .row v12 3 1 l4.length xs6:: .Az B3 (.cells #[(.bool x2.1),v9] 45 (0,0)):: .row v8 4 1 l2.length xs2:: .row v7 65 1 l1.length xs1:: .Az B2 (.cells #[v6,v7,v8,(.slice none 0 0)] 97 (0,0))::O=OO∧Ax m (fun p nx=>Ds fu x2 k2 nx2 x3 p.1 p.2 nx) (l4,k3)=some r∧Ap Ar HH l4 xs6) fu ⟨(l3.set k2 (a0.length:Int)),0,v11,xs5,rf,rf,hd,hq5⟩ (Sub.of rf) ?_
   intro m5 L3 H4 O3 hl4 hI3
   obtain⟨l4,k3,v12,xs6,rfl,rfl,hd,hq6⟩:=hI3
   obtain⟨m6,nx3,rfl,hn3,hd⟩:=Bm hd
   replace hd:Ds fu x2 k2 nx2 x3 l4 k3 nx3=some r:=hd
   unfold Ds at hd
   refine Wp.sr<|Aa.op (Ab.lss rf rf) rf<|Aa.Ah<|Wp.seq ?_
   refine Wp.cond rf (fun hb8=>?_) (fun hb8=>?_)
   ·
    obtain⟨hb8,hd⟩:=bT hb8 hd
    refine Wp.skip<|At.Ae<|Wp.seq<|Wp.block<|Wp.seq ?_
    obtain⟨x5,hx5,hd⟩:=Ag hd
    have hx5_:=Aj hx5
    refine Wp.region ?_
    obtain⟨_,⟨_,_,rfl,⟨rfl,hr1,hr2⟩,⟨_,_,rfl,⟨rfl,hr3,hr4⟩,rfl⟩⟩,hc4⟩:=AL.get (hv3.mono (hl3.trans hl4)) hx5
    refine Aa.op (Ab.Bz EL Cz rf (hv3.mono (hl3.trans hl4)).sl rf (Aj hx5)) rf<|Aa.op (Ab.DA (vs:=[(.int .u8 x5.1),(.int .u8 x5.2.1),(.int .i64 x5.2.2)]) V4 rf Cz rf rf (fun j u hj=>(hc4 j u hj))) rf<|Aa.alloc (cs:= #[(.int .u8 0),(.int .u8 0),(.int .i64 0)]) Cz rf rf fun B4=>Aa.AM (i:=0) (cs':= #[(.int .u8 x5.1),(.int .u8 x5.2.1),(.int .i64 x5.2.2)]) rf rf Cz rf rf (Bd (Ac rf (Ac rf (Ac rf (An))))) rf ?_
    refine Aa.own (O:=_::_::_::_::_::_::_) ?_ rf
    refine Aa.Ah<|Wp.seq ?_
    rcases Bool.eq_false_or_eq_true (decide (x5.1≤x3))with hg1|hg1
    ·
     obtain⟨hg1_,hd⟩:=bT hg1 hd
     refine Wp.region<|Aa.op (Ab.A6 (o':=0) Gh rf rf) rf<|Aa.op (Ab.Am (i:=0) (v:=(.int .u8 x5.1)) u5 rf rf rf rf) rf<|Aa.op (Ab.conv u5 u3 rf (Av (by omega))) rf<|Aa.op (Ab.move rf) rf<|Aa.op (Ab.BR (b:=decide (x5.1≤x3)) (c:=true) (Ab.leq rf rf) hg1) rf<|Aa.op (Ab.move rf) rf<|Aa.AQ rf rf (Ab.move rf) rf ?_
     refine Aa.AQ rf rf (Ab.A6 (o':=1) Gg rf rf) rf<|Aa.AQ rf rf (Ab.Am (i:=0) (v:=(.int .u8 x5.2.1)) u5 rf rf rf rf) rf<|Aa.AQ rf rf (Ab.conv u5 u3 rf (Av (by omega))) rf<|Aa.AQ rf rf (Ab.leq rf rf) rf<|Aa.op (Ab.AU rf rf) rf<|Aa.Ah ?_
     refine Wp.cond rf (fun hb9=>?_) (fun hb9=>?_)
     ·
      obtain⟨hb9,hd⟩:=bT hb9 hd
      obtain⟨x6,hx6,hd⟩:=Ag hd
      have hx6_:=Aj hx6
      refine Wp.region<|Aa.op (Ab.move rf) rf<|Aa.op (Ab.move rf) rf<|Aa.op (Ab.A6 (o':=2) Gf rf rf) rf<|Aa.op (Ab.Am (i:=0) (v:=(.int .i64 x5.2.2)) u3 rf rf rf rf) rf ?_
      obtain⟨_,rfl,hc5,hc5_⟩:=Ap.get hq6 (AX hx6).2
      refine Aa.op (Ab.Co (j:=1) Cv DP rf rf rf (Aj hx6)) rf ?_
      refine Aa.WB (q:=1) (off:=0) (vs:=[(.int .i64 x5.2.2)]) (y:=x5.2.2) (cs:=[(.int .i64 x6)]) hq6 hx6 hc5_ rf rf rf DP rf rf (Ac rf (An)) rf (rf) rf (fun xs7 hq7=>?_)
      refine Aa.nil<|At.AF<|At.Ae<|Wp.region<|Aa.op (Ab.add rf rf (Av (by omega))) rf<|Aa.op (Ab.move rf) rf<|Aa.nil<|At.AW [1,2,3,4,5] 6 rf rf rf ?_
      refine At.AZ (Hp.le.refl _) ⟨(l4.set k2 x5.2.2),(k3+1),v12,xs7,rf,rf,(by rw[←hn3];exact hd),hq7⟩ (Sub.of rf)
     obtain⟨hb9,hd⟩:=bF hb9 hd
     refine Wp.skip<|At.AF<|At.Ae<|Wp.region<|Aa.op (Ab.add rf rf (Av (by omega))) rf<|Aa.op (Ab.move rf) rf<|Aa.nil<|At.AW [1,2,3,4,5] 6 rf rf rf ?_
     refine At.AZ (Hp.le.refl _) ⟨l4,(k3+1),v12,xs6,rf,rf,(by rw[←hn3];exact hd),hq6⟩ (Sub.of rf)
    obtain⟨hg1_,hd⟩:=bF hg1 hd
    refine Wp.region<|Aa.op (Ab.A6 (o':=0) Gh rf rf) rf<|Aa.op (Ab.Am (i:=0) (v:=(.int .u8 x5.1)) u5 rf rf rf rf) rf<|Aa.op (Ab.conv u5 u3 rf (Av (by omega))) rf<|Aa.op (Ab.move rf) rf<|Aa.op (Ab.BR (b:=decide (x5.1≤x3)) (c:=false) (Ab.leq rf rf) hg1) rf<|Aa.op (Ab.move rf) rf<|Aa.Ak rf rf rf rf ?_
    refine Aa.Ak rf rf rf rf<|Aa.Ak rf rf rf rf<|Aa.Ak rf rf rf rf<|Aa.Ak rf rf rf rf<|Aa.op (Ab.AP rf rf) rf<|Aa.Ah<|Wp.Hd rf<|Wp.skip ?_
    refine At.AF<|At.Ae<|Wp.region<|Aa.op (Ab.add rf rf (Av (by omega))) rf<|Aa.op (Ab.move rf) rf<|Aa.nil<|At.AW [1,2,3,4,5] 6 rf rf rf ?_
    refine At.AZ (Hp.le.refl _) ⟨l4,(k3+1),v12,xs6,rf,rf,(by rw[←hn3];exact hd),hq6⟩ (Sub.of rf)
   obtain⟨hb8,hd⟩:=bF hb8 hd
   refine Wp.exit<|At.Ao<|At.Ao<|At.AB<|At.AF<|At.Ae<|Wp.region<|Aa.op (Ab.add rf rf (Av (by omega))) rf ?_
   refine Aa.op (Ab.move rf) rf<|Aa.nil ?_
   refine At.AZ hl4 ⟨l4,(k2+1),v12,xs6,rf,rf,(by rw[←hn2];exact hd),hq6⟩ (Sub.of rf)
  obtain⟨hb6,hd⟩:=bF hb6 hd
  refine Wp.exit<|At.Ao<|At.Ao<|At.AB<|At.Ae<|Wp.seq ?_
  obtain⟨ha2,hd⟩:=Al hd
  refine Wp.region<|Aa.op (Ab.move rf) rf<|Aa.op (Ab.move rf) rf<|Aa.op (Ab.nilCheck rf) rf<|Aa.op (Ab.A6 (o':=1) FC rf rf) rf<|Aa.op (Ab.Am (i:=4) (v:=v7) FH rf rf rf rf) rf<|Aa.op (Ab.move rf) rf ?_
  refine Aa.Bk (i:=0) rf fun hb10=>?_
  refine Aa.freeze (i:=0) rf fun H5 hl5 hs1=>?_
  have hv4:=AL.of (c:=Ar) hs1 rfl (hq4.mono hl5) hb10
  refine Aa.Bv (c:=(cL Ar)) (y:=l3) (cs:=[v11]) FH Eo rf rf rf (Ef hv4.one) (⟨_,rf,hv4⟩) rf fun v13 xs8 hq8=>Aa.Hz (i:=3) (j:=0) (hq1.mono (hl3.trans hl5)) hq8 FH Eo rf (by decide) rf rf rf rf (by decide) ha2 rf fun v14 xs9 hq9=>Aa.drop (i:=0)<|Aa.op (Ab.nilCheck rf) rf<|Aa.op (Ab.A6 (o':=1) FC rf rf) rf<|Aa.BU (i:=2) rf fun ho1=>Aa.Dc (i:=3) rf rf ho1 Wv rf (Nat.le_of_ble_eq_true rf) ?_
  refine Aa.own (O:=_::_::_::_::_) ?_ rf
  refine Aa.Ah ?_
  obtain⟨ha3,hd⟩:=Al hd
  refine Wp.emp<|Af.runK 5 [Ay,Ay,Ay,Ay,⟨[4],[],[]⟩,Ay,⟨[1],[],[]⟩,⟨[0],[0],[7]⟩,⟨[0,2],[2],[8]⟩,Ay,Ay,⟨[4],[4],[8]⟩] follows rf (by kernel_rfl)<|Af.op (val:=fun p1=>(ptr B2 0)) rf rf (fun _=>rfl) (fun _ p1 _ hx hf hy=>Ab.move rf) rf<|Af.op (val:=fun p1=>(ptr B2 0)) rf rf (fun _=>rfl) (fun _ p1 _ hx hf hy=>Ab.move rf) rf<|Af.op (val:=fun p1=>(ptr B2 0)) rf rf (fun _=>rfl) (fun _ p1 _ hx hf hy=>Ab.nilCheck rf) rf<|Af.op (val:=fun p1=>(ptr B2 2)) rf rf (fun _=>rfl) (fun _ p1 _ hx hf hy=>Ab.A6 (o':=2) I8 rf rf) rf<|Af.op (val:=fun p1=>v8) rf rf (fun _=>rfl) (fun _ p1 _ hx hf hy=>Ab.Am (i:=4) (v:=v8) KG rf rf (hy 4 _ rf rf) rf) rf<|Af.op (val:=fun p1=>(ptr B3 0)) rf rf (fun _=>rfl) (fun _ p1 _ hx hf hy=>Ab.A6 (o':=0) GF rf rf) rf ?_
  refine Af.op (val:=fun p1=>(.bool x2.1)) rf rf (fun _=>rfl) (fun _ p1 _ hx hf hy=>Ab.Am (i:=1) (v:=(.bool x2.1)) u4 rf rf (hy 1 _ rf rf) rf) rf<|Af.Fz (res:=fun p1=> .row (p1 7) 4 1 1 [(.bool x2.1)]) 0 rf rf rf (fun _=>rfl) (fun _ p1 _ hx hf hy=>Bc.DM (v:=(.bool x2.1)) (cs:=[(.bool x2.1)]) 0 KG JY rf rf rf rf rf (hy 0 _ rf rf)) rf (fun _=>⟨_,_,_,_,rf⟩)<|Af.Fz (res:=fun p1=> .row (p1 8) 4 1 (l2.length+1) (xs2++[(.bool x2.1)])) 2 rf rf rf (fun _=>rfl) (fun _ p1 _ hx hf hy=>Bc.KE 2 0 KG JY rf rf rf rf (hy 2 _ rf rf) (hy 0 _ rf rf) (Ac rf (An)) rf ha3) rf (fun _=>⟨_,_,_,_,rf⟩)<|Af.op (val:=fun p1=>(ptr B2 0)) rf rf (fun _=>rfl) (fun _ p1 _ hx hf hy=>Ab.nilCheck rf) rf<|Af.op (val:=fun p1=>(ptr B2 2)) rf rf (fun _=>rfl) (fun _ p1 _ hx hf hy=>Ab.A6 (o':=2) I8 rf rf) rf<|Af.GY (res:=fun p1=> .Az B2 (.cells #[v6,v14,(p1 8),(.slice none 0 0)] 97 (0,0))) 4 rf rf rf (fun _=>rfl) (fun _ p1 _ hx hf hy=>Bc.P' (vs:=[(p1 8)]) rf rf (Ef (hf 8 rf rf)) XH rf (Ac (hf 8 rf rf) (An)) (hy 4 _ rf rf) rf rf)<|Af.done fun H6 p1 hl6 hF1=>At.sub (L':=[(3,(ptr B2 0)),(4,(.int .i64 (a0.length:Int))),(20,v1),(21,(.int .i64 (a0.length:Int))),(22,(.int .i64 (k1:Int)))]) (Sub.of rf) ?_
  refine At.own (O:= .row (p1 7) 4 1 ([x2.1]:List Bool).length [(.bool x2.1)]:: .Az B3 (.cells #[(.bool x2.1),v9] 45 (0,0)):: .row (p1 8) 4 1 (l2++([x2.1]:List Bool)).length (xs2++[(.bool x2.1)]):: .row v14 65 1 (l1++([l3]:List (List Int))).length xs9:: .Az B2 (.cells #[v6,v14,(p1 8),(.slice none 0 0)] 97 (0,0))::O) ?_ (by first|rfl|(simp only[List.length_append,List.length_set];rfl)|simp)
  have hq10:Ap cB H6 (l2++([x2.1]:List Bool)) (xs2++[(.bool x2.1)]):=(Ap.app (hq2.mono ((hl3.trans hl5).trans hl6)) (Ap.Iy (c:=cB) (a:=x2.1) (cs:=[(.bool x2.1)]) rfl))
  refine At.AW [1,2,3,4] 5 rf rf rf<|At.AF<|At.Ae<|Wp.region<|Aa.op (Ab.add rf rf (Av (by omega))) rf<|Aa.op (Ab.move rf) rf<|Aa.nil<|At.AW [1,2,3] 4 rf rf rf ?_
  refine At.AZ ((hl3.trans hl5).trans hl6) ⟨(l1++([l3]:List (List Int))),(l2++([x2.1]:List Bool)),(k1+1),v14,xs9,(p1 8),xs2++[(.bool x2.1)],rf,rf,(by rw[←hn1];exact hd),(hq9.mono hl6),hq10⟩ (Sub.of rf)
 obtain⟨hb3,hd⟩:=bF hb3 hd
 refine Wp.exit<|At.Ao<|At.Ao<|At.AB<|At.Ae<|Wp.seq ?_
 obtain⟨ha4,hd⟩:=Al hd
 refine Wp.region<|Aa.op (Ab.move rf) rf<|Aa.op (Ab.nilCheck rf) rf<|Aa.op (Ab.A6 (o':=0) Ht rf rf) rf<|Aa.op (Ab.Am (i:=2) (v:=v6) Cv rf rf rf rf) rf ?_
 have hb11:=hv2.le
 refine Aa.op (Ab.len Cv rf (hv2.mono hl2).sl) rf<|Aa.MG (c:=Ar) (z:=0) (m:=x1.length) Cv DP rf rf ha4 (rf) rf rf rf fun v15 xs10 hq11=>Aa.op (Ab.assign rf) rf<|Aa.Ah<|Wp.seq<|Wp.sr<|Aa.op (Ab.move rf) rf ?_
 refine Aa.Bk (i:=0) rf fun hb12=>?_
 refine Aa.op (Ab.CW (i:=0) Cv rf rf) rf<|Aa.op (Ab.move rf) rf<|Aa.Ah<|Wp.block<|Wp.Bt (fun m LL HH OO=> ∃(l5:List Int),∃(k4:Nat),∃(v16:Value),∃(xs11:List Value),[(3,(ptr B2 0)),(4,(.int .i64 (a0.length:Int))),(12,v16),(101,(.int .i64 (((List.replicate x1.length 0:List Int).length:Nat):Int))),(102,(.int .i64 (k4:Int)))]=LL∧ .row v16 3 1 l5.length xs11:: .row v8 4 1 l2.length xs2:: .row v7 65 1 l1.length xs1:: .Az B2 (.cells #[v6,v7,v8,(.slice none 0 0)] 97 (0,0))::O=OO∧Ax m (fun p nx=>Dr fu a0 x1 l1 l2 p.1 p.2 nx) (l5,k4)=some r∧Ap Ar HH l5 xs11) fu ⟨(List.replicate x1.length 0:List Int),0,v15,xs10,rf,rf,hd,hq11⟩ (Sub.of rf) ?_
 intro m7 L4 H7 O4 hl7 hI4
 obtain⟨l5,k4,v16,xs11,rfl,rfl,hd,hq12⟩:=hI4
 obtain⟨m8,nx4,rfl,hn4,hd⟩:=Bm hd
 replace hd:Dr fu a0 x1 l1 l2 l5 k4 nx4=some r:=hd
 unfold Dr at hd
 refine Wp.sr<|Aa.op (Ab.lss rf rf) rf<|Aa.Ah<|Wp.seq ?_
 refine Wp.cond rf (fun hb13=>?_) (fun hb13=>?_)
 ·
  obtain⟨hb13,hd⟩:=bT hb13 hd
  refine Wp.skip<|At.Ae<|Wp.seq<|Wp.block<|Wp.sr<|Aa.op (Ab.move rf) rf<|Aa.op (Ab.assign rf) rf<|Aa.Ah ?_
  obtain⟨x7,hx7,hd⟩:=Ag hd
  have hx7_:=Aj hx7
  refine Wp.region<|Aa.op (Ab.move rf) rf<|Aa.op (Ab.move rf) rf<|Aa.op (Ab.move rf) rf ?_
  obtain⟨_,rfl,hc6,hc6_⟩:=Ap.get hq12 (AX hx7).2
  refine Aa.op (Ab.Co (j:=0) Cv DP rf rf rf (Aj hx7)) rf ?_
  refine Aa.WB (q:=0) (off:=0) (vs:=[(.int .i64 (a0.length:Int))]) (y:=(a0.length:Int)) (cs:=[(.int .i64 x7)]) hq12 hx7 hc6_ rf rf rf DP rf rf (Ac rf (An)) rf (rf) rf (fun xs12 hq13=>?_)
  refine Aa.nil<|At.AF<|At.Ae<|Wp.region<|Aa.op (Ab.add rf rf (Av (by omega))) rf<|Aa.op (Ab.move rf) rf<|Aa.nil ?_
  refine At.AZ (Hp.le.refl _) ⟨(l5.set k4 (a0.length:Int)),(k4+1),v16,xs12,rf,rf,(by rw[←hn4];exact hd),hq13⟩ (Sub.of rf)
 obtain⟨hb13,hd⟩:=bF hb13 hd
 refine Wp.exit<|At.Ao<|At.Ao<|At.AB<|At.Ae<|Wp.seq ?_
 obtain⟨ha5,hd⟩:=Al hd
 refine Wp.region<|Aa.op (Ab.move rf) rf<|Aa.op (Ab.move rf) rf<|Aa.op (Ab.nilCheck rf) rf<|Aa.op (Ab.A6 (o':=1) FC rf rf) rf<|Aa.op (Ab.Am (i:=3) (v:=v7) FH rf rf rf rf) rf<|Aa.op (Ab.move rf) rf ?_
 refine Aa.Bk (i:=0) rf fun hb14=>?_
 refine Aa.freeze (i:=0) rf fun H8 hl8 hs2=>?_
 have hv5:=AL.of (c:=Ar) hs2 rfl (hq12.mono hl8) hb14
 refine Aa.Bv (c:=(cL Ar)) (y:=l5) (cs:=[v16]) FH Eo rf rf rf (Ef hv5.one) (⟨_,rf,hv5⟩) rf fun v17 xs13 hq14=>Aa.Hz (i:=2) (j:=0) (hq1.mono (hl7.trans hl8)) hq14 FH Eo rf (by decide) rf rf rf rf (by decide) ha5 rf fun v18 xs14 hq15=>Aa.drop (i:=0)<|Aa.op (Ab.nilCheck rf) rf<|Aa.op (Ab.A6 (o':=1) FC rf rf) rf<|Aa.BU (i:=1) rf fun ho2=>Aa.Dc (i:=2) rf rf ho2 Wv rf (Nat.le_of_ble_eq_true rf) ?_
 refine Aa.own (O:=_::_::_::_) ?_ rf
 refine Aa.Ah<|Wp.seq ?_
 obtain⟨ha6,hd⟩:=Al hd
 refine Wp.region<|Aa.op (Ab.move rf) rf<|Aa.op (Ab.move rf) rf<|Aa.op (Ab.nilCheck rf) rf<|Aa.op (Ab.A6 (o':=2) I8 rf rf) rf<|Aa.op (Ab.Am (i:=2) (v:=v8) KG rf rf rf rf) rf<|Aa.Bv (c:=cB) (y:=false) (cs:=[(.bool false)]) KG JY rf rf rf rf (rf) rf fun v19 xs15 hq16=>Aa.Hz (i:=1) (j:=0) (hq2.mono (hl7.trans hl8)) hq16 KG JY rf (by decide) rf rf rf rf (by decide) ha6 rf fun v20 xs16 hq17=>?_
 refine Aa.drop (i:=0)<|Aa.op (Ab.nilCheck rf) rf<|Aa.op (Ab.A6 (o':=2) I8 rf rf) rf<|Aa.BU (i:=0) rf fun ho3=>Aa.Dc (i:=2) rf rf ho3 XH rf (Nat.le_of_ble_eq_true rf) ?_
 refine Aa.own (O:=_::_::_::_) ?_ rf
 refine Aa.Ah<|Wp.sr<|Aa.op (Ab.move rf) rf<|Aa.op (Ab.assign rf) rf<|Aa.Ah<|Wp.ret ?_
 refine At.Bk (i:=1) rf fun hb15=>?_
 refine At.freeze (i:=1) rf fun H9 hl9 hs3=>?_
 have hv6:=AL.of (c:=(cL Ar)) hs3 rfl (hq15.mono hl9) hb15
 refine At.Bk (i:=0) rf fun hb16=>?_
 refine At.freeze (i:=0) rf fun H10 hl10 hs4=>?_
 have hv7:=AL.of (c:=cB) hs4 rfl ((hq17.mono hl9).mono hl10) hb16
 obtain rfl:=si hd
 exact At.C_ rf (RV.tmp (v:=(ptr B2 0)) rf) (fun w hs=>⟨_,_,_,rf,(((((hl1.trans hl2).trans hl7).trans hl8).trans hl9).trans hl10),(hs.AW [0] 1 rf rf rf),⟨B2,v6,v18,v20,(.slice none 0 0),rf,(hv2.mono ((((hl2.trans hl7).trans hl8).trans hl9).trans hl10)),(hv6.mono hl10),hv7,AL.nil,rf⟩⟩)
theorem KD{fu:Nat}{a0:(List Int)×(List (List Int))×(List Bool)×(List Int)}{v1 v2 v3 v4:Value}{B0:Nat}{r:List Bool}(hv1:AL Ar H a0.1 v1)(hv2:AL (cL Ar) H a0.2.1 v2)(hv3:AL cB H a0.2.2.1 v3)(hv4:AL Ar H a0.2.2.2 v4)(hd:Ej fu a0=some r):
    Eg Tryz.prog 47 [(ptr B0 0)] H (.Az B0 (.cells #[v1,v2,v3,v4] 97 (0,0))::O) (fun v H' O'=>(∃v5:Value,v5=v∧AL cB H' r v5)∧ .Az B0 (.cells #[v1,v2,v3,v4] 97 (0,0))::O=O'):=by
 intro w hs
 refine Bo Tryz.func47 rf rf rf ?_ hs
 clear hs w
 unfold Ej at hd
 refine Wp.sr<|Aa.op (Ab.assign rf) rf<|Aa.Ah<|Wp.seq ?_
 obtain⟨ha1,hd⟩:=Al hd
 refine Wp.region<|Aa.op (Ab.move rf) rf<|Aa.op (Ab.nilCheck rf) rf<|Aa.op (Ab.A6 (o':=1) FC rf rf) rf<|Aa.op (Ab.Am (i:=0) (v:=v2) FH rf rf rf rf) rf ?_
 have hb1:=hv2.le
 refine Aa.op (Ab.len FH rf hv2.sl) rf<|Aa.MG (c:=cB) (z:=false) (m:=a0.2.1.length) KG JY rf rf ha1 (rf) rf rf rf fun v6 xs1 hq1=>Aa.op (Ab.assign rf) rf<|Aa.Ah<|Wp.seq<|Wp.sr<|Aa.op (Ab.assign rf) rf<|Aa.Ah ?_
 refine Wp.block<|Wp.Bt (fun m LL HH OO=> ∃(l1:List Bool),∃(b1:Bool),∃(v7:Value),∃(xs2:List Value),[(0,(ptr B0 0)),(3,v7),(4,(.bool b1))]=LL∧ .row v7 4 1 l1.length xs2:: .Az B0 (.cells #[v1,v2,v3,v4] 97 (0,0))::O=OO∧Ax m (fun p nx=>Dk fu a0 p.1 p.2 nx) (l1,b1)=some r∧Ap cB HH l1 xs2) fu ⟨(List.replicate a0.2.1.length false:List Bool),true,v6,xs1,rf,rf,hd,hq1⟩ (Sub.of rf) ?_
 intro m1 L1 H1 O1 hl1 hI1
 obtain⟨l1,b1,v7,xs2,rfl,rfl,hd,hq2⟩:=hI1
 obtain⟨m2,nx1,rfl,hn1,hd⟩:=Bm hd
 replace hd:Dk fu a0 l1 b1 nx1=some r:=hd
 unfold Dk at hd
 refine Wp.seq<|Wp.sr<|Aa.op (Ab.move rf) rf<|Aa.Ah ?_
 refine Wp.cond rf (fun hb2=>?_) (fun hb2=>?_)
 ·
  replace hd:=Gl hb2 hd
  refine Wp.skip<|At.Ae<|Wp.block<|Wp.sr<|Aa.op (Ab.assign rf) rf<|Aa.Ah<|Wp.sr<|Aa.op (Ab.move rf) rf ?_
  refine Aa.op (Ab.nilCheck rf) rf<|Aa.op (Ab.A6 (o':=1) FC rf rf) rf<|Aa.op (Ab.Am (i:=1) (v:=v2) FH rf rf rf rf) rf ?_
  have hb3:=hv2.le
  refine Aa.op (Ab.len FH rf (hv2.mono hl1).sl) rf<|Aa.op (Ab.move rf) rf<|Aa.Ah<|Wp.block<|Wp.Bt (fun m LL HH OO=> ∃(l2:List Bool),∃(b2:Bool),∃(k1:Nat),∃(v8:Value),∃(xs3:List Value),[(0,(ptr B0 0)),(3,v8),(4,(.bool b2)),(20,(.int .i64 (a0.2.1.length:Int))),(21,(.int .i64 (k1:Int)))]=LL∧ .row v8 4 1 l2.length xs3:: .Az B0 (.cells #[v1,v2,v3,v4] 97 (0,0))::O=OO∧Ax m (fun p nx=>CN fu a0 nx1 p.1 p.2.1 p.2.2 nx) (l2,b2,k1)=some r∧Ap cB HH l2 xs3) fu ⟨l1,false,0,v7,xs2,rf,rf,hd,hq2⟩ (Sub.of rf) ?_
  intro m3 L2 H2 O2 hl2 hI2
  obtain⟨l2,b2,k1,v8,xs3,rfl,rfl,hd,hq3⟩:=hI2
  obtain⟨m4,nx2,rfl,hn2,hd⟩:=Bm hd
  replace hd:CN fu a0 nx1 l2 b2 k1 nx2=some r:=hd
  unfold CN at hd
  refine Wp.sr<|Aa.op (Ab.lss rf rf) rf<|Aa.Ah<|Wp.seq ?_
  refine Wp.cond rf (fun hb4=>?_) (fun hb4=>?_)
  ·
   obtain⟨hb4,hd⟩:=bT hb4 hd
   refine Wp.skip<|At.Ae<|Wp.seq<|Wp.block<|Wp.sr<|Aa.op (Ab.move rf) rf<|Aa.op (Ab.assign rf) rf<|Aa.Ah ?_
   refine Wp.seq ?_
   obtain⟨x1,hx1,hd⟩:=Ag hd
   have hx1_:=Aj hx1
   refine Wp.region<|Aa.op (Ab.move rf) rf<|Aa.op (Ab.nilCheck rf) rf<|Aa.op (Ab.A6 (o':=2) I8 rf rf) rf<|Aa.op (Ab.Am (i:=1) (v:=v3) KG rf rf rf rf) rf<|Aa.op (Ab.move rf) rf ?_
   obtain⟨_,rfl,hc1⟩:=AL.get (hv3.mono (hl1.trans hl2)) hx1
   refine Aa.op (Ab.Bz KG JY rf (hv3.mono (hl1.trans hl2)).sl rf (Aj hx1)) rf<|Aa.op (Ab.HN u4 rf rf (hc1 0 _ rf)) rf<|Aa.op (Ab.assign rf) rf<|Aa.Ah<|Wp.seq<|Wp.seq ?_
   obtain⟨x2,hx2,hd⟩:=Ag hd
   have hx2_:=Aj hx2
   refine Wp.region<|Aa.op (Ab.move rf) rf<|Aa.op (Ab.nilCheck rf) rf<|Aa.op (Ab.A6 (o':=1) FC rf rf) rf<|Aa.op (Ab.Am (i:=1) (v:=v2) FH rf rf rf rf) rf<|Aa.op (Ab.move rf) rf ?_
   obtain⟨_,⟨v9,rfl,hv5⟩,hc2⟩:=AL.get (hv2.mono (hl1.trans hl2)) hx2
   refine Aa.op (Ab.Bz FH Eo rf (hv2.mono (hl1.trans hl2)).sl rf (Aj hx2)) rf<|Aa.op (Ab.HN Cv rf rf (hc2 0 _ rf)) rf ?_
   have hb5:=hv5.le
   refine Aa.op (Ab.len Cv rf hv5.sl) rf<|Aa.op (Ab.move rf) rf<|Aa.Ah<|Wp.block<|Wp.Bt (fun m LL HH OO=> ∃(b3:Bool),∃(k2:Nat),[(0,(ptr B0 0)),(3,v8),(4,(.bool b2)),(5,(.int .i64 (k1:Int))),(6,(.bool b3)),(20,(.int .i64 (a0.2.1.length:Int))),(21,(.int .i64 (k1:Int))),(37,v9),(38,(.int .i64 (x2.length:Int))),(39,(.int .i64 (k2:Int)))]=LL∧ .row v8 4 1 l2.length xs3:: .Az B0 (.cells #[v1,v2,v3,v4] 97 (0,0))::O=OO∧Ax m (fun p nx=>CM fu a0 l2 b2 k1 nx2 x2 p.1 p.2 nx) (b3,k2)=some r) fu ⟨x1,0,rf,rf,hd⟩ (Sub.of rf) ?_
   intro m5 L3 H3 O3 hl3 hI3
   obtain⟨b3,k2,rfl,rfl,hd⟩:=hI3
   obtain⟨m6,nx3,rfl,hn3,hd⟩:=Bm hd
   replace hd:CM fu a0 l2 b2 k1 nx2 x2 b3 k2 nx3=some r:=hd
   unfold CM at hd
   refine Wp.sr<|Aa.op (Ab.lss rf rf) rf<|Aa.Ah<|Wp.seq ?_
   refine Wp.cond rf (fun hb6=>?_) (fun hb6=>?_)
   ·
    obtain⟨hb6,hd⟩:=bT hb6 hd
    refine Wp.skip<|At.Ae<|Wp.seq<|Wp.block<|Wp.seq ?_
    obtain⟨x3,hx3,hd⟩:=Ag hd
    have hx3_:=Aj hx3
    refine Wp.region ?_
    obtain⟨_,rfl,hc3⟩:=AL.get (hv5.mono hl3) hx3
    refine Aa.op (Ab.Bz Cv DP rf (hv5.mono hl3).sl rf (Aj hx3)) rf<|Aa.op (Ab.HN u3 rf rf (hc3 0 _ rf)) rf<|Aa.op (Ab.assign rf) rf<|Aa.Ah ?_
    rcases Bool.eq_false_or_eq_true (b3)with hg1|hg1
    ·
     replace hd:=Gl hg1 hd
     refine Wp.region<|Aa.op (Ab.BR (b:=b3) (c:=true) (Ab.move rf) hg1) rf<|Aa.op (Ab.move rf) rf<|Aa.Ak rf rf rf rf<|Aa.Ak rf rf rf rf<|Aa.Ak rf rf rf rf<|Aa.Ak rf rf rf rf<|Aa.Ak rf rf rf rf ?_
     refine Aa.Ak rf rf rf rf<|Aa.Ak rf rf rf rf<|Aa.Ak rf rf rf rf<|Aa.Ak rf rf rf rf<|Aa.Ak rf rf rf rf<|Aa.op (Ab.AU rf rf) rf<|Aa.op (Ab.assign rf) rf<|Aa.nil ?_
     refine At.AF<|At.Ae<|Wp.region<|Aa.op (Ab.add rf rf (Av (by omega))) rf<|Aa.op (Ab.move rf) rf<|Aa.nil ?_
     refine At.AZ (Hp.le.refl _) ⟨true,(k2+1),rf,rf,(by rw[←hn3];exact hd)⟩ (Sub.of rf)
    replace hd:=Gm hg1 hd
    obtain⟨x4,hx4,hd⟩:=Ag hd
    have hx4_:=Aj hx4
    obtain⟨x5,hx5,hd⟩:=Ag hd
    have hx5_:=Aj hx5
    refine Wp.region<|Aa.op (Ab.BR (b:=b3) (c:=false) (Ab.move rf) hg1) rf<|Aa.op (Ab.move rf) rf<|Aa.AQ rf rf (Ab.move rf) rf<|Aa.AQ rf rf (Ab.move rf) rf<|Aa.AQ rf rf (Ab.nilCheck rf) rf<|Aa.AQ rf rf (Ab.A6 (o':=3) Ge rf rf) rf<|Aa.AQ rf rf (Ab.Am (i:=1) (v:=v4) Cv rf rf rf rf) rf ?_
    refine Aa.AQ rf rf (Ab.move rf) rf ?_
    obtain⟨_,rfl,hc4⟩:=AL.get (hv4.mono ((hl1.trans hl2).trans hl3)) hx4
    refine Aa.AQ rf rf (Ab.Bz Cv DP rf (hv4.mono ((hl1.trans hl2).trans hl3)).sl rf (Aj hx4)) rf<|Aa.AQ rf rf (Ab.HN u3 rf rf (hc4 0 _ rf)) rf ?_
    obtain⟨_,rfl,hc5,hc5_⟩:=Ap.get (hq3.mono hl3) (AX hx5).2
    refine Aa.AQ rf rf (Ab.Co (j:=0) KG JY rf rf rf (Aj hx5)) rf<|Aa.AQ rf rf (Ab.EX (i:=0) (k:=x4.toNat*1+0) u4 rf rf rf (hc5 0 _ rf)) rf<|Aa.op (Ab.AP rf rf) rf<|Aa.op (Ab.assign rf) rf<|Aa.nil<|At.AF<|At.Ae<|Wp.region ?_
    refine Aa.op (Ab.add rf rf (Av (by omega))) rf<|Aa.op (Ab.move rf) rf<|Aa.nil ?_
    refine At.AZ (Hp.le.refl _) ⟨x5,(k2+1),rf,rf,(by rw[←hn3];exact hd)⟩ (Sub.of rf)
   obtain⟨hb6,hd⟩:=bF hb6 hd
   refine Wp.exit<|At.Ao<|At.Ao<|At.AB<|At.Ae<|Wp.seq ?_
   rcases Bool.eq_false_or_eq_true (b3)with hg2|hg2
   ·
    replace hd:=Gl hg2 hd
    obtain⟨x6,hx6,hd⟩:=Ag hd
    have hx6_:=Aj hx6
    obtain⟨x7,hx7,hd⟩:=Ag hd
    have hx7_:=Aj hx7
    refine Wp.region<|Aa.op (Ab.BR (b:=b3) (c:=true) (Ab.move rf) hg2) rf<|Aa.op (Ab.move rf) rf<|Aa.AQ rf rf (Ab.move rf) rf<|Aa.AQ rf rf (Ab.move rf) rf<|Aa.AQ rf rf (Ab.nilCheck rf) rf<|Aa.AQ rf rf (Ab.A6 (o':=3) Ge rf rf) rf<|Aa.AQ rf rf (Ab.Am (i:=1) (v:=v4) Cv rf rf rf rf) rf ?_
    refine Aa.AQ rf rf (Ab.move rf) rf ?_
    obtain⟨_,rfl,hc6⟩:=AL.get (hv4.mono ((hl1.trans hl2).trans hl3)) hx6
    refine Aa.AQ rf rf (Ab.Bz Cv DP rf (hv4.mono ((hl1.trans hl2).trans hl3)).sl rf (Aj hx6)) rf<|Aa.AQ rf rf (Ab.HN u3 rf rf (hc6 0 _ rf)) rf ?_
    obtain⟨_,rfl,hc7,hc7_⟩:=Ap.get (hq3.mono hl3) (AX hx7).2
    refine Aa.AQ rf rf (Ab.Co (j:=0) KG JY rf rf rf (Aj hx7)) rf<|Aa.AQ rf rf (Ab.EX (i:=0) (k:=x6.toNat*1+0) u4 rf rf rf (hc7 0 _ rf)) rf<|Aa.AQ rf rf (Ab.not rf) rf<|Aa.op (Ab.AU rf rf) rf<|Aa.Ah ?_
    refine Wp.cond rf (fun hb7=>?_) (fun hb7=>?_)
    ·
     replace hd:=Gl hb7 hd
     refine Wp.seq ?_
     obtain⟨x8,hx8,hd⟩:=Ag hd
     have hx8_:=Aj hx8
     obtain⟨x9,hx9,hd⟩:=Ag hd
     have hx9_:=Aj hx9
     refine Wp.region<|Aa.op (Ab.move rf) rf<|Aa.op (Ab.move rf) rf<|Aa.op (Ab.nilCheck rf) rf<|Aa.op (Ab.A6 (o':=3) Ge rf rf) rf<|Aa.op (Ab.Am (i:=1) (v:=v4) Cv rf rf rf rf) rf<|Aa.op (Ab.move rf) rf ?_
     obtain⟨_,rfl,hc8⟩:=AL.get (hv4.mono ((hl1.trans hl2).trans hl3)) hx8
     refine Aa.op (Ab.Bz Cv DP rf (hv4.mono ((hl1.trans hl2).trans hl3)).sl rf (Aj hx8)) rf<|Aa.op (Ab.HN u3 rf rf (hc8 0 _ rf)) rf ?_
     obtain⟨_,rfl,hc9,hc9_⟩:=Ap.get (hq3.mono hl3) (AX hx9).2
     refine Aa.op (Ab.Co (j:=0) KG JY rf rf rf (Aj hx9)) rf ?_
     refine Aa.WB (q:=0) (off:=0) (vs:=[(.bool true)]) (y:=true) (cs:=[(.bool x9)]) (hq3.mono hl3) hx9 hc9_ rf rf rf JY rf rf (Ac rf (An)) rf (rf) rf (fun xs4 hq4=>?_)
     refine Aa.Ah<|Wp.region<|Aa.op (Ab.assign rf) rf<|Aa.nil<|At.AF<|At.Ae<|Wp.region<|Aa.op (Ab.add rf rf (Av (by omega))) rf ?_
     refine Aa.op (Ab.move rf) rf<|Aa.nil ?_
     refine At.AZ hl3 ⟨(l2.set x8.toNat true),true,(k1+1),v8,xs4,rf,rf,(by rw[←hn2];exact hd),hq4⟩ (Sub.of rf)
    replace hd:=Gm hb7 hd
    refine Wp.skip<|At.AF<|At.Ae<|Wp.region<|Aa.op (Ab.add rf rf (Av (by omega))) rf<|Aa.op (Ab.move rf) rf<|Aa.nil ?_
    refine At.AZ hl3 ⟨l2,b2,(k1+1),v8,xs3,rf,rf,(by rw[←hn2];exact hd),(hq3.mono hl3)⟩ (Sub.of rf)
   replace hd:=Gm hg2 hd
   refine Wp.region<|Aa.op (Ab.BR (b:=b3) (c:=false) (Ab.move rf) hg2) rf<|Aa.op (Ab.move rf) rf<|Aa.Ak rf rf rf rf<|Aa.Ak rf rf rf rf<|Aa.Ak rf rf rf rf<|Aa.Ak rf rf rf rf<|Aa.Ak rf rf rf rf ?_
   refine Aa.Ak rf rf rf rf<|Aa.Ak rf rf rf rf<|Aa.Ak rf rf rf rf<|Aa.Ak rf rf rf rf<|Aa.Ak rf rf rf rf<|Aa.Ak rf rf rf rf<|Aa.op (Ab.AP rf rf) rf<|Aa.Ah ?_
   refine Wp.Hd rf<|Wp.skip<|At.AF<|At.Ae<|Wp.region<|Aa.op (Ab.add rf rf (Av (by omega))) rf<|Aa.op (Ab.move rf) rf<|Aa.nil ?_
   refine At.AZ hl3 ⟨l2,b2,(k1+1),v8,xs3,rf,rf,(by rw[←hn2];exact hd),(hq3.mono hl3)⟩ (Sub.of rf)
  obtain⟨hb4,hd⟩:=bF hb4 hd
  refine Wp.exit<|At.Ao<|At.Ao<|At.AB<|At.AF ?_
  refine At.AZ hl2 ⟨l2,b2,v8,xs3,rf,rf,(by rw[←hn1];exact hd),hq3⟩ (Sub.of rf)
 replace hd:=Gm hb2 hd
 refine Wp.exit<|At.Ao<|At.Ao<|At.AB<|At.Ae<|Wp.sr<|Aa.op (Ab.move rf) rf<|Aa.op (Ab.assign rf) rf ?_
 refine Aa.Ah<|Wp.ret ?_
 refine At.Bk (i:=0) rf fun hb8=>?_
 refine At.freeze (i:=0) rf fun H4 hl4 hs1=>?_
 have hv6:=AL.of (c:=cB) hs1 rfl (hq2.mono hl4) hb8
 obtain rfl:=si hd
 exact At.C_ rf (RV.tmp (v:=v7) rf) (fun w hs=>⟨_,_,_,rf,(hl1.trans hl4),(hs.AW [0] 1 rf rf rf),⟨⟨v7,rf,hv6⟩,rf⟩⟩)
theorem EU{fu:Nat}{a0:(List Int)×(List (List Int))×(List Bool)×(List Int)}{a1:Int}{v1 v2 v3 v4:Value}{B0:Nat}{r:Int}(hv1:AL Ar H a0.1 v1)(hv2:AL (cL Ar) H a0.2.1 v2)(hv3:AL cB H a0.2.2.1 v3)(hv4:AL Ar H a0.2.2.2 v4)(hd:CG fu a0 a1=some r):
   CB Tryz.prog 48 [(ptr B0 0),(.int .i64 a1)] H (.Az B0 (.cells #[v1,v2,v3,v4] 97 (0,0))::O) (.int .u8 r):=by
 intro w hs
 refine Bo Tryz.func48 rf rf rf ?_ hs
 clear hs w
 unfold CG at hd
 refine Wp.sr<|Aa.op (Ab.assign rf) rf<|Aa.Ah<|Wp.seq<|Wp.seq ?_
 obtain⟨ha1,hd⟩:=Al hd
 refine Wp.region<|Aa.op (Ab.move rf) rf<|Aa.op (Ab.add rf rf (Av ha1)) rf<|Aa.op (Ab.move rf) rf<|Aa.op (Ab.nilCheck rf) rf<|Aa.op (Ab.A6 (o':=0) Ht rf rf) rf<|Aa.op (Ab.Am (i:=0) (v:=v1) Cv rf rf rf rf) rf ?_
 have hb1:=hv1.le
 refine Aa.op (Ab.len Cv rf hv1.sl) rf<|Aa.op (Ab.lss rf rf) rf<|Aa.Ah ?_
 refine Wp.cond rf (fun hb2=>?_) (fun hb2=>?_)
 ·
  obtain⟨hb2,hd⟩:=bT hb2 hd
  refine Wp.seq ?_
  obtain⟨ha2,hd⟩:=Al hd
  obtain⟨x1,hx1,hd⟩:=Ag hd
  have hx1_:=Aj hx1
  obtain⟨ha3,hd⟩:=Al hd
  obtain⟨ha4,hd⟩:=Al hd
  have:=ha4
  refine Wp.region<|Aa.op (Ab.move rf) rf<|Aa.op (Ab.nilCheck rf) rf<|Aa.op (Ab.A6 (o':=0) Ht rf rf) rf<|Aa.op (Ab.Am (i:=0) (v:=v1) Cv rf rf rf rf) rf<|Aa.op (Ab.move rf) rf<|Aa.op (Ab.add rf rf (Av ha2)) rf ?_
  obtain⟨_,rfl,hc1⟩:=AL.get hv1 hx1
  refine Aa.op (Ab.Bz Cv DP rf hv1.sl rf (Aj hx1)) rf<|Aa.op (Ab.HN u3 rf rf (hc1 0 _ rf)) rf<|Aa.op (Ab.sub rf rf (Av ha3)) rf<|Aa.op (Ab.conv u3 u5 rf (DW ha4)) rf<|Aa.op (Ab.assign rf) rf<|Aa.Ah<|Wp.ret<|At.Au ?_
  obtain rfl:=si hd
  exact At.C_ rf (RV.tmp (v:=(.int .u8 (x1-1))) rf) (fun w hs=>⟨rf,(hs.AW [0] 1 rf rf rf).weaken (Hp.le.refl _)⟩)
 obtain⟨hb2,hd⟩:=bF hb2 hd
 refine Wp.skip<|At.Ae<|Wp.sr<|Aa.op (Ab.assign rf) rf<|Aa.Ah<|Wp.ret ?_
 obtain rfl:=si hd
 exact At.C_ rf (RV.tmp (v:=(.int .u8 255)) rf) (fun w hs=>⟨rf,(hs.AW [0] 1 rf rf rf).weaken (Hp.le.refl _)⟩)
theorem Ie{fu:Nat}{a0:(List Int)×(List (List Int))×(List Bool)×(List Int)}{v1 v2 v3 v4:Value}{B0:Nat}{r:List (Bool×(List (Int×Int×Int)))}(hv1:AL Ar H a0.1 v1)(hv2:AL (cL Ar) H a0.2.1 v2)(hv3:AL cB H a0.2.2.1 v3)(hv4:AL Ar H a0.2.2.2 v4)(hd:CT fu a0=some r):
    Eg Tryz.prog 28 [(ptr B0 0)] H (.Az B0 (.cells #[v1,v2,v3,v4] 97 (0,0))::O) (fun v H' O'=>(∃v5:Value,(.agg #[v5])=v∧AL (cP cB (cL (cP A0 (cP A0 Ar)))) H' r v5)∧ .Az B0 (.cells #[v1,v2,v3,v4] 97 (0,0))::O=O'):=by
 intro w hs
 refine Bo Tryz.func28 rf rf rf ?_ hs
 clear hs w
 unfold CT at hd
 refine Wp.sr<|Aa.alloc (cs:= #[(.slice none 0 0)]) A5 rf rf fun B2=>Aa.Ah<|Wp.seq ?_
 obtain⟨x1,hx1,hd⟩:=Ag hd
 refine Wp.region<|Aa.op (Ab.move rf) rf<|Aa.Fi (Bc.call Ys rf (Eg.atR 1 rf (KD hv1 hv2 hv3 hv4 hx1))) rf ?_
 rintro _ H1 _ hl1 ⟨⟨v6,rfl,hv5⟩,rfl⟩
 refine Aa.op (Ab.assign rf) rf<|Aa.Ah<|Wp.seq<|Wp.seq ?_
 obtain⟨x2,hx2,hd⟩:=Ag hd
 have hx2_:=Aj hx2
 obtain⟨x3,hx3,hd⟩:=Ag hd
 have hx3_:=Aj hx3
 refine Wp.region<|Aa.op (Ab.move rf) rf<|Aa.op (Ab.move rf) rf<|Aa.op (Ab.nilCheck rf) rf<|Aa.op (Ab.A6 (o':=3) Ge rf rf) rf<|Aa.op (Ab.Am (i:=1) (v:=v4) Cv rf rf rf rf) rf ?_
 obtain⟨_,rfl,hc1⟩:=AL.get (hv4.mono hl1) hx2
 refine Aa.op (Ab.Bz Cv DP rf (hv4.mono hl1).sl rf (Aj hx2)) rf<|Aa.op (Ab.HN u3 rf rf (hc1 0 _ rf)) rf ?_
 obtain⟨_,rfl,hc2⟩:=AL.get hv5 hx3
 refine Aa.op (Ab.Bz KG JY rf hv5.sl rf (Aj hx3)) rf<|Aa.op (Ab.HN u4 rf rf (hc2 0 _ rf)) rf<|Aa.op (Ab.not rf) rf<|Aa.Ah ?_
 refine Wp.cond rf (fun hb1=>?_) (fun hb1=>?_)
 ·
  replace hd:=Gl hb1 hd
  refine Wp.sr<|Aa.op (Ab.Bj (vs:=[]) (cs:= #[(.slice none 0 0)]) HB A5 rf rf (A8) rf) rf<|Aa.AM (i:=0) (cs':= #[(.slice none 0 0)]) rf rf A5 rf rf (Bd (Ac rf (An))) rf ?_
  refine Aa.own (O:=_::_::_) ?_ rf
  refine Aa.Ah<|Wp.ret<|At.Au ?_
  obtain rfl:=si hd
  exact At.C_ rf (RV.CQ (i:=0) rf u32 rf A5 rf rf) (fun w hs=>⟨_,_,_,rf,hl1,(hs.AW [1] 2 rf rf rf),⟨⟨(.slice none 0 0),rf,AL.nil⟩,rf⟩⟩)
 replace hd:=Gm hb1 hd
 refine Wp.skip<|At.Ae<|Wp.sr<|Aa.Bv (c:=Ar) (y:=0) (cs:=[(.int .i64 0)]) Cv DP rf rf rf rf (rf) rf fun v7 xs1 hq1=>Aa.op (Ab.assign rf) rf<|Aa.Ah<|Wp.seq ?_
 obtain⟨x4,hx4,hd⟩:=Ag hd
 have hx4_:=Aj hx4
 obtain⟨ha1,hd⟩:=Al hd
 obtain⟨ha2,hd⟩:=Al hd
 refine Wp.region<|Aa.makeMap (Ow u3) (HJ u3) rf fun B3=>Aa.op (Ab.move rf) rf<|Aa.op (Ab.nilCheck rf) rf<|Aa.op (Ab.A6 (o':=3) Ge rf rf) rf<|Aa.op (Ab.Am (i:=3) (v:=v4) Cv rf rf rf rf) rf ?_
 obtain⟨_,rfl,hc3⟩:=AL.get (hv4.mono hl1) hx4
 refine Aa.op (Ab.Bz Cv DP rf (hv4.mono hl1).sl rf (Aj hx4)) rf<|Aa.op (Ab.HN u3 rf rf (hc3 0 _ rf)) rf<|Aa.insert (K:=(Ow u3)) (M:=(HJ u3)) (k:=x4) (v:=0) 0 NX rf rf rf ha1 (show Dw 0 by decide) ha2 rf<|Aa.op (Ab.move rf) rf<|Aa.op (Ab.assign rf) rf<|Aa.Ah<|Wp.sr<|Aa.alloc (cs:= #[(.slice none 0 0)]) A5 rf rf fun B4=>?_
 refine Aa.Ah<|Wp.seq<|Wp.sr<|Aa.op (Ab.assign rf) rf<|Aa.Ah<|Wp.block<|Wp.Cb 45 2<|Wp.Bt (fun m LL HH OO=> ∃(l1:List Int),∃(l2:List (Bool×(List (Int×Int×Int)))),∃(m1:List (Int×Int)),∃(k1:Nat),∃(v8:Value),∃(xs2:List Value),∃(v9:Value),∃(xs3:List Value),[(0,(ptr B0 0)),(2,(ptr B2 0)),(3,v6),(4,v8),(5,(.map (some B3))),(6,(ptr B4 0)),(7,(.int .i64 (k1:Int)))]=LL∧ .row v9 45 2 l2.length xs3:: .Az B4 (.cells #[v9] 32 (0,0))::DK (Ow u3) (HJ u3) B3 m1:: .row v8 3 1 l1.length xs2:: .Az B2 (.cells #[(.slice none 0 0)] 32 (0,0)):: .Az B0 (.cells #[v1,v2,v3,v4] 97 (0,0))::O=OO∧Ax m (fun p nx=>Ci fu a0 x1 p.1 p.2.1 p.2.2.1 p.2.2.2 nx) (l1,l2,m1,k1)=some r∧Ap Ar HH l1 xs2∧Ap (cP cB (cL (cP A0 (cP A0 Ar)))) HH l2 xs3) fu ⟨([0]:List Int),([]:List (Bool×(List (Int×Int×Int)))),(Di ([]:List (Int×Int)) x4 0),0,v7,xs1,(.slice none 0 0),[],rf,rf,hd,hq1,(Ap.nil (c:=(cP cB (cL (cP A0 (cP A0 Ar))))) (H:=H1))⟩ (Sub.of rf) ?_
 intro m2 L1 H2 O1 hl2 hI1
 obtain⟨l1,l2,m1,k1,v8,xs2,v9,xs3,rfl,rfl,hd,hq2,hq3⟩:=hI1
 obtain⟨m3,nx1,rfl,hn1,hd⟩:=Bm hd
 replace hd:Ci fu a0 x1 l1 l2 m1 k1 nx1=some r:=hd
 unfold Ci at hd
 refine Wp.seq<|Wp.sr<|Aa.op (Ab.move rf) rf<|Aa.op (Ab.move rf) rf ?_
 refine Aa.Bk (i:=3) rf fun hb2=>?_
 refine Aa.op (Ab.CW (i:=3) Cv rf rf) rf<|Aa.op (Ab.lss rf rf) rf<|Aa.Ah ?_
 refine Wp.cond rf (fun hb3=>?_) (fun hb3=>?_)
 ·
  obtain⟨hb3,hd⟩:=bT hb3 hd
  refine Wp.skip<|At.Ae<|Wp.seq<|Wp.block<|Wp.seq ?_
  obtain⟨x5,hx5,hd⟩:=Ag hd
  have hx5_:=Aj hx5
  obtain⟨x6,hx6,hd⟩:=Ag hd
  have hx6_:=Aj hx6
  obtain⟨_,rfl,hc4,hc4_⟩:=Ap.get hq2 (AX hx5).2
  obtain⟨_,rfl,hc5⟩:=AL.get (hv3.mono (hl1.trans hl2)) hx6
  refine Wp.emp<|Af.runK 7 [Ay,Ay,Ay,⟨[6],[],[]⟩,Ay,Ay,⟨[4],[],[]⟩,⟨[4],[],[]⟩,Ay,Ay,Ay,⟨[0],[0],[11]⟩,⟨[0],[0],[11]⟩] follows rf (by kernel_rfl)<|Af.op (val:=fun p1=>(ptr B0 0)) rf rf (fun _=>rfl) (fun _ p1 _ hx hf hy=>Ab.move rf) rf<|Af.op (val:=fun p1=>(ptr B0 0)) rf rf (fun _=>rfl) (fun _ p1 _ hx hf hy=>Ab.nilCheck rf) rf<|Af.op (val:=fun p1=>(ptr B0 2)) rf rf (fun _=>rfl) (fun _ p1 _ hx hf hy=>Ab.A6 (o':=2) I8 rf rf) rf<|Af.op (val:=fun p1=>v3) rf rf (fun _=>rfl) (fun _ p1 _ hx hf hy=>Ab.Am (i:=6) (v:=v3) KG rf rf (hy 6 _ rf rf) rf) rf<|Af.op (val:=fun p1=>v8) rf rf (fun _=>rfl) (fun _ p1 _ hx hf hy=>Ab.move rf) rf<|Af.op (val:=fun p1=>(.int .i64 (k1:Int))) rf rf (fun _=>rfl) (fun _ p1 _ hx hf hy=>Ab.move rf) rf ?_
  refine Af.op (val:=fun p1=>(AG v8 (k1*1))) rf rf (fun _=>rfl) (fun _ p1 _ hx hf hy=>Ab.Co (j:=4) Cv DP rf (hy 4 _ rf rf) rf (Aj hx5)) rf<|Af.op (val:=fun p1=>(.int .i64 x5)) rf rf (fun _=>rfl) (fun _ p1 _ hx hf hy=>Ab.EX (i:=4) (k:=k1*1+0) u3 rf rf (hy 4 _ rf rf) (hc4 0 _ rf)) rf<|Af.op (val:=fun p1=>(AG v3 (x5.toNat*1))) rf rf (fun _=>rfl) (fun _ p1 _ hx hf hy=>Ab.Bz KG JY rf (hv3.mono ((hl1.trans hl2).trans hx)).sl rf (Aj hx6)) rf<|Af.op (val:=fun p1=>(.bool x6)) rf rf (fun _=>rfl) (fun _ p1 _ hx hf hy=>Ab.HN u4 rf rf ((hc5 0 _ rf).mono hx)) rf<|Af.op (val:=fun p1=>(.agg #[(.bool x6),(.slice none 0 0)])) rf rf (fun _=>rfl) (fun _ p1 _ hx hf hy=>Ab.Bj (vs:=[(0,(.bool x6))]) (cs:= #[(.bool x6),(.slice none 0 0)]) HV BX rf rf (AK rf (A8)) rf) rf<|Af.Xy (val:=fun p1=>ptr (Bh (p1 11)) 0) (res:=fun p1=> .Az (Bh (p1 11)) (.cells #[(.bool false),(.slice none 0 0)] 45 (0,0))) 0 rf rf (fun _=>rfl) (fun _=>rfl) (fun _ p1 _ hx hf hy=>Bc.Mb 0 BX rf (hy 0 _ rf rf)) rf<|Af.GY (res:=fun p1=> .Az (Bh (p1 11)) (.cells #[(.bool x6),(.slice none 0 0)] 45 (0,0))) 0 rf rf rf (fun _=>rfl) (fun _ p1 _ hx hf hy=>Bc.P' (vs:=[(.bool x6),(.slice none 0 0)]) rf rf rf BX rf (Ac rf (Ac rf (An))) (hy 0 _ rf rf) rf rf)<|Af.done fun H3 p1 hl3 hF1=>?_
  refine At.sub (L':=[(0,(ptr B0 0)),(2,(ptr B2 0)),(3,v6),(4,v8),(5,(.map (some B3))),(6,(ptr B4 0)),(7,(.int .i64 (k1:Int))),(8,(ptr (Bh (p1 11)) 0))]) (Sub.of rf) ?_
  refine At.own (O:= .Az (Bh (p1 11)) (.cells #[(.bool x6),(.slice none 0 0)] 45 (0,0)):: .row v9 45 2 l2.length xs3:: .Az B4 (.cells #[v9] 32 (0,0))::DK (Ow u3) (HJ u3) B3 m1:: .row v8 3 1 l1.length xs2:: .Az B2 (.cells #[(.slice none 0 0)] 32 (0,0)):: .Az B0 (.cells #[v1,v2,v3,v4] 97 (0,0))::O) ?_ (by first|rfl|(simp only[List.length_append,List.length_set];rfl)|simp)
  refine At.Ae<|Wp.seq<|Wp.seq ?_
  obtain⟨x7,hx7,hd⟩:=Ag hd
  have hx7_:=Aj hx7
  obtain⟨x8,hx8,hd⟩:=Ag hd
  have hx8_:=Aj hx8
  obtain⟨_,rfl,hc6,hc6_⟩:=Ap.get (hq2.mono hl3) (AX hx7).2
  obtain⟨_,⟨v10,rfl,hv6⟩,hc7⟩:=AL.get (hv2.mono ((hl1.trans hl2).trans hl3)) hx8
  have hb4:=hv6.le
  refine Wp.Ea 12 follows rf (by kernel_rfl)<|Ai.A7 (Ab.move rf) rf<|Ai.A7 (Ab.nilCheck rf) rf<|Ai.A7 (Ab.A6 (o':=1) FC rf rf) rf<|Ai.A7 (Ab.Am (i:=6) (v:=v2) FH rf rf rf rf) rf<|Ai.A7 (Ab.move rf) rf<|Ai.A7 (Ab.move rf) rf<|Ai.A7 (Ab.Co (j:=4) Cv DP rf rf rf (Aj hx7)) rf ?_
  refine Ai.A7 (Ab.EX (i:=4) (k:=k1*1+0) u3 rf rf rf (hc6 0 _ rf)) rf<|Ai.A7 (Ab.Bz FH Eo rf (hv2.mono ((hl1.trans hl2).trans hl3)).sl rf (Aj hx8)) rf<|Ai.A7 (Ab.HN Cv rf rf (hc7 0 _ rf)) rf<|Ai.A7 (Ab.len Cv rf hv6.sl) rf<|Ai.A7 (Ab.move rf) rf<|Ai.Eb<|As.is (t:=0) rf<|As.is (t:=2) rf ?_
  refine As.is (t:=3) rf<|As.is (t:=4) rf<|As.is (t:=5) rf<|As.is (t:=6) rf<|As.is (t:=7) rf<|As.is (t:=8) rf<|As.is (t:=63) rf<|As.is (t:=64) rf ?_
  refine As.is (t:=65) rf<|As.Me<|Aa.Ah<|Wp.block<|Wp.Cb 47 3<|Wp.Bt (fun m LL HH OO=> ∃(l3:List Int),∃(l4:List (Int×Int×Int)),∃(m4:List (Int×Int)),∃(k2:Nat),∃(v11:Value),∃(xs4:List Value),∃(v12:Value),∃(xs5:List Value),[(0,(ptr B0 0)),(2,(ptr B2 0)),(3,v6),(4,v11),(5,(.map (some B3))),(6,(ptr B4 0)),(7,(.int .i64 (k1:Int))),(8,(ptr (Bh (p1 11)) 0)),(63,v10),(64,(.int .i64 (x8.length:Int))),(65,(.int .i64 (k2:Int)))]=LL∧ .row v12 47 3 l4.length xs5:: .Az (Bh (p1 11)) (.cells #[(.bool x6),v12] 45 (0,0)):: .row v9 45 2 l2.length xs3:: .Az B4 (.cells #[v9] 32 (0,0))::DK (Ow u3) (HJ u3) B3 m4:: .row v11 3 1 l3.length xs4:: .Az B2 (.cells #[(.slice none 0 0)] 32 (0,0)):: .Az B0 (.cells #[v1,v2,v3,v4] 97 (0,0))::O=OO∧Ax m (fun p nx=>BQ fu a0 x1 l2 k1 nx1 x6 x8 p.1 p.2.1 p.2.2.1 p.2.2.2 nx) (l3,l4,m4,k2)=some r∧Ap Ar HH l3 xs4∧Ap (cP A0 (cP A0 Ar)) HH l4 xs5) fu ⟨l1,([]:List (Int×Int×Int)),m1,0,v8,xs2,(.slice none 0 0),[],rf,rf,hd,(hq2.mono hl3),(Ap.nil (c:=(cP A0 (cP A0 Ar))) (H:=H3))⟩ (Sub.of rf) ?_
  intro m5 L2 H4 O2 hl4 hI2
  obtain⟨l3,l4,m4,k2,v11,xs4,v12,xs5,rfl,rfl,hd,hq4,hq5⟩:=hI2
  obtain⟨m6,nx2,rfl,hn2,hd⟩:=Bm hd
  replace hd:BQ fu a0 x1 l2 k1 nx1 x6 x8 l3 l4 m4 k2 nx2=some r:=hd
  unfold BQ at hd
  refine Wp.sr<|Aa.op (Ab.lss rf rf) rf<|Aa.Ah<|Wp.seq ?_
  refine Wp.cond rf (fun hb5=>?_) (fun hb5=>?_)
  ·
   obtain⟨hb5,hd⟩:=bT hb5 hd
   refine Wp.skip<|At.Ae<|Wp.seq<|Wp.block<|Wp.seq ?_
   obtain⟨x9,hx9,hd⟩:=Ag hd
   have hx9_:=Aj hx9
   refine Wp.region<|Aa.op (Ab.move rf) rf ?_
   obtain⟨_,rfl,hc8⟩:=AL.get (hv6.mono hl4) hx9
   refine Aa.op (Ab.Bz Cv DP rf (hv6.mono hl4).sl rf (Aj hx9)) rf<|Aa.op (Ab.HN u3 rf rf (hc8 0 _ rf)) rf<|Aa.op (Ab.assign rf) rf<|Aa.op (Ab.assign rf) rf<|Aa.Ah<|Wp.seq ?_
   obtain⟨x10,hx10,hd⟩:=Ag hd
   have hx10_:=Aj hx10
   refine Wp.region<|Aa.op (Ab.move rf) rf<|Aa.op (Ab.nilCheck rf) rf<|Aa.op (Ab.A6 (o':=3) Ge rf rf) rf<|Aa.op (Ab.Am (i:=7) (v:=v4) Cv rf rf rf rf) rf<|Aa.op (Ab.move rf) rf ?_
   obtain⟨_,rfl,hc9⟩:=AL.get (hv4.mono (((hl1.trans hl2).trans hl3).trans hl4)) hx10
   refine Aa.op (Ab.Bz Cv DP rf (hv4.mono (((hl1.trans hl2).trans hl3).trans hl4)).sl rf (Aj hx10)) rf<|Aa.op (Ab.HN u3 rf rf (hc9 0 _ rf)) rf<|Aa.op (Ab.assign rf) rf<|Aa.Ah<|Wp.seq<|Wp.seq ?_
   obtain⟨x11,hx11,hd⟩:=Ag hd
   have hx11_:=Aj hx11
   refine Wp.region<|Aa.op (Ab.move rf) rf<|Aa.op (Ab.move rf) rf ?_
   obtain⟨_,rfl,hc10⟩:=AL.get (hv5.mono ((hl2.trans hl3).trans hl4)) hx11
   refine Aa.op (Ab.Bz KG JY rf (hv5.mono ((hl2.trans hl3).trans hl4)).sl rf (Aj hx11)) rf<|Aa.op (Ab.HN u4 rf rf (hc10 0 _ rf)) rf<|Aa.op (Ab.not rf) rf<|Aa.Ah ?_
   refine Wp.cond rf (fun hb6=>?_) (fun hb6=>?_)
   ·
    replace hd:=Gl hb6 hd
    refine Wp.exit<|At.Ao<|At.AB<|At.Ae<|Wp.region<|Aa.op (Ab.add rf rf (Av (by omega))) rf<|Aa.op (Ab.move rf) rf<|Aa.nil ?_
    refine At.AZ (Hp.le.refl _) ⟨l3,l4,m4,(k2+1),v11,xs4,v12,xs5,rf,rf,(by rw[←hn2];exact hd),hq4,hq5⟩ (Sub.of rf)
   replace hd:=Gm hb6 hd
   refine Wp.skip<|At.Ae<|Wp.seq<|Wp.seq ?_
   obtain⟨ha3,hd⟩:=Al hd
   refine Wp.region<|Aa.op (Ab.move rf) rf<|Aa.op (Ab.move rf) rf<|Aa.op (Ab.LC (K:=(Ow u3)) (M:=(HJ u3)) (i:=4) (k:=x10) (z:=0) NX DP (show Dw 0 by decide) rf rf ha3 rf) rf<|Aa.op (Ab.move rf) rf<|Aa.op (Ab.extract rf rf) rf<|Aa.op (Ab.extract rf rf) rf<|Aa.op (Ab.assign rf) rf ?_
   refine Aa.op (Ab.assign rf) rf<|Aa.Ah<|Wp.sr<|Aa.op (Ab.move rf) rf<|Aa.op (Ab.not rf) rf<|Aa.Ah ?_
   refine Wp.Jx (fun LL HH OO=> ∃(l5:List Int),∃(m7:List (Int×Int)),∃(v13:Value),∃(xs6:List Value),[(0,(ptr B0 0)),(2,(ptr B2 0)),(3,v6),(4,v13),(5,(.map (some B3))),(6,(ptr B4 0)),(7,(.int .i64 (k1:Int))),(8,(ptr (Bh (p1 11)) 0)),(9,(.int .i64 (k2:Int))),(11,(.int .i64 x10)),(63,v10),(64,(.int .i64 (x8.length:Int))),(65,(.int .i64 (k2:Int)))]=LL∧ .row v12 47 3 l4.length xs5:: .Az (Bh (p1 11)) (.cells #[(.bool x6),v12] 45 (0,0)):: .row v9 45 2 l2.length xs3:: .Az B4 (.cells #[v9] 32 (0,0))::DK (Ow u3) (HJ u3) B3 m7:: .row v13 3 1 l5.length xs6:: .Az B2 (.cells #[(.slice none 0 0)] 32 (0,0)):: .Az B0 (.cells #[v1,v2,v3,v4] 97 (0,0))::O=OO∧BP fu a0 l4 k2 nx2 x10 l5 m7=some r∧Ap Ar HH l5 xs6) ?_ ?_
   ·
    refine Wp.cond rf (fun hb7=>?_) (fun hb7=>?_)
    ·
     replace hd:=Gl hb7 hd
     refine Wp.seq ?_
     obtain⟨ha4,hd⟩:=Al hd
     obtain⟨ha5,hd⟩:=Al hd
     obtain⟨ha6,hd⟩:=Al hd
     refine Wp.region<|Aa.op (Ab.move rf) rf<|Aa.op (Ab.move rf) rf<|Aa.op (Ab.move rf) rf ?_
     refine Aa.Bk (i:=5) rf fun hb8=>?_
     refine Aa.op (Ab.CW (i:=5) Cv rf rf) rf<|Aa.mapUpdate (K:=(Ow u3)) (M:=(HJ u3)) (k:=x10) (v:=(l3.length:Int)) 4 NX rf rf rf ha4 ha5 ha6 rf<|Aa.Ah ?_
     obtain⟨ha7,hd⟩:=Al hd
     refine Wp.region<|Aa.op (Ab.move rf) rf<|Aa.op (Ab.move rf) rf<|Aa.Bv (c:=Ar) (y:=x9) (cs:=[(.int .i64 x9)]) Cv DP rf rf rf rf (rf) rf fun v14 xs7 hq6=>Aa.Hz (i:=6) (j:=0) hq4 hq6 Cv DP rf (by decide) rf rf rf rf (by decide) ha7 rf fun v15 xs8 hq7=>Aa.drop (i:=0)<|Aa.op (Ab.assign rf) rf<|Aa.nil ?_
     refine At.EC (Hp.le.refl _) ⟨(l3++([x9]:List Int)),(Di m4 x10 (l3.length:Int)),v15,xs8,rf,rf,hd,hq7⟩ (Sub.of rf)
    replace hd:=Gm hb7 hd
    refine Wp.skip ?_
    refine At.EC (Hp.le.refl _) ⟨l3,m4,v11,xs4,rf,rf,hd,hq4⟩ (Sub.of rf)
   intro L3 H5 O3 hl5 hI3
   obtain⟨l5,m7,v13,xs6,rfl,rfl,hd,hq8⟩:=hI3
   unfold BP at hd
   refine Wp.sr<|Aa.op (Ab.A6 (o':=1) Ct rf rf) rf<|Aa.op (Ab.Am (i:=1) (v:=v12) EL rf rf rf rf) rf ?_
   refine Aa.Bk (i:=0) rf fun hb9=>?_
   refine Aa.op (Ab.CW (i:=0) EL rf rf) rf<|Aa.op (Ab.assign rf) rf<|Aa.Ah<|Wp.seq ?_
   rcases Bool.eq_false_or_eq_true (decide (0<(l4.length:Int)))with hg1|hg1
   ·
    obtain⟨hg1_,hd⟩:=bT hg1 hd
    obtain⟨ha8,hd⟩:=Al hd
    obtain⟨x12,hx12,hd⟩:=Ag hd
    have hx12_:=Aj hx12
    obtain⟨ha9,hd⟩:=Al hd
    rcases Bool.eq_false_or_eq_true (decide (x12.2.2=((AA m7 x10).getD 0)))with hg2|hg2
    ·
     obtain⟨hg2_,hd⟩:=bT hg2 hd
     obtain⟨ha10,hd⟩:=Al hd
     obtain⟨x13,hx13,hd⟩:=Ag hd
     have hx13_:=Aj hx13
     obtain⟨ha11,hd⟩:=Al hd
     obtain⟨x14,hx14,hd⟩:=Ag hd
     have hx14_:=Aj hx14
     obtain⟨_,⟨_,_,rfl,⟨rfl,hr1,hr2⟩,⟨_,_,rfl,⟨rfl,hr3,hr4⟩,rfl⟩⟩,hc11,hc11_⟩:=Ap.get (hq5.mono hl5) (AX hx12).2
     obtain⟨_,⟨_,_,rfl,⟨rfl,hr5,hr6⟩,⟨_,_,rfl,⟨rfl,hr7,hr8⟩,rfl⟩⟩,hc12,hc12_⟩:=Ap.get (hq5.mono hl5) (AX hx13).2
     obtain⟨_,rfl,hc13⟩:=AL.get (hv1.mono ((((hl1.trans hl2).trans hl3).trans hl4).trans hl5)) hx14
     refine Wp.Ea 34 follows rf (by kernel_rfl)<|Ai.A7 (Ab.move rf) rf<|Ai.A7 (Ab.BR (b:=decide (0<(l4.length:Int))) (c:=true) (Ab.gtr rf rf) hg1) rf<|Ai.A7 (Ab.move rf) rf<|Ai.Be rf rf (Ab.A6 (o':=1) Ct rf rf) rf<|Ai.Be rf rf (Ab.Am (i:=1) (v:=v12) EL rf rf rf rf) rf<|Ai.Be rf rf (Ab.move rf) rf<|Ai.Be rf rf (Ab.sub rf rf (Av ha8)) rf ?_
     refine Ai.Be rf rf (Ab.Co (j:=0) EL Cz rf rf rf (Aj hx12)) rf<|Ai.Be rf rf (Ab.NC (q:=0) Gf rf rf (by omega)) rf<|Ai.Be rf rf (Ab.EX (i:=0) (k:=(((l4.length:Int)-1).toNat)*3+2) u3 rf rf rf (hc11 2 _ rf)) rf<|Ai.Be rf rf (Ab.move rf) rf<|Ai.Be rf rf (Ab.move rf) rf<|Ai.Be rf rf (Ab.lookup (K:=(Ow u3)) (M:=(HJ u3)) (i:=4) (k:=x10) (z:=0) NX DP (show Dw 0 by decide) rf rf ha9 rf) rf<|Ai.Be rf rf (Ab.BR (b:=decide (x12.2.2=((AA m7 x10).getD 0))) (c:=true) (Ab.eql rf rf) hg2) rf<|Ai.A7 (Ab.AU rf rf) rf ?_
     refine Ai.A7 (Ab.move rf) rf<|Ai.Be rf rf (Ab.A6 (o':=1) Ct rf rf) rf<|Ai.Be rf rf (Ab.Am (i:=1) (v:=v12) EL rf rf rf rf) rf<|Ai.Be rf rf (Ab.move rf) rf<|Ai.Be rf rf (Ab.sub rf rf (Av ha10)) rf<|Ai.Be rf rf (Ab.Co (j:=0) EL Cz rf rf rf (Aj hx13)) rf<|Ai.Be rf rf (Ab.NC (q:=0) Gg rf rf (by omega)) rf<|Ai.Be rf rf (Ab.EX (i:=0) (k:=(((l4.length:Int)-1).toNat)*3+1) u5 rf rf rf (hc12 1 _ rf)) rf ?_
     refine Ai.Be rf rf (Ab.conv u5 u3 rf (Av (by omega))) rf<|Ai.Be rf rf (Ab.add rf rf (Av ha11)) rf<|Ai.Be rf rf (Ab.move rf) rf<|Ai.Be rf rf (Ab.nilCheck rf) rf<|Ai.Be rf rf (Ab.A6 (o':=0) Ht rf rf) rf<|Ai.Be rf rf (Ab.Am (i:=7) (v:=v1) Cv rf rf rf rf) rf<|Ai.Be rf rf (Ab.move rf) rf<|Ai.Be rf rf (Ab.Bz Cv DP rf (hv1.mono ((((hl1.trans hl2).trans hl3).trans hl4).trans hl5)).sl rf (Aj hx14)) rf ?_
     refine Ai.Be rf rf (Ab.HN u3 rf rf (hc13 0 _ rf)) rf<|Ai.Be rf rf (Ab.eql rf rf) rf<|Ai.A7 (Ab.AU rf rf) rf<|Ai.Eb<|As.is (t:=0) rf<|As.is (t:=2) rf<|As.is (t:=3) rf<|As.is (t:=4) rf ?_
     refine As.is (t:=5) rf<|As.is (t:=6) rf<|As.is (t:=7) rf<|As.is (t:=8) rf<|As.is (t:=9) rf<|As.is (t:=11) rf<|As.is (t:=14) rf<|As.is (t:=63) rf ?_
     refine As.is (t:=64) rf<|As.is (t:=65) rf<|As.is (t:=134) rf<|As.Me<|Aa.Ah ?_
     refine Wp.cond rf (fun hb10=>?_) (fun hb10=>?_)
     ·
      obtain⟨hb10,hd⟩:=bT hb10 hd
      obtain⟨ha12,hd⟩:=Al hd
      obtain⟨x15,hx15,hd⟩:=Ag hd
      obtain⟨ha13,hd⟩:=Al hd
      have hr9:=ha13.1;have hr10:=ha13.2
      obtain⟨x16,hx16,hd⟩:=Ag hd
      have hx16_:=Aj hx16
      obtain⟨_,⟨_,_,rfl,⟨rfl,hr11,hr12⟩,⟨_,_,rfl,⟨rfl,hr13,hr14⟩,rfl⟩⟩,hc14,hc14_⟩:=Ap.get (hq5.mono hl5) (AX hx16).2
      refine Af.runK 8 [Ay,⟨[1],[],[]⟩,Ay,Ay,Ay,Ay,⟨[7],[],[]⟩,⟨[0],[],[]⟩,⟨[0],[],[]⟩,⟨[0],[0],[]⟩] follows rf (by kernel_rfl)<|Af.op (val:=fun p2=>(ptr (Bh (p1 11)) 1)) rf rf (fun _=>rfl) (fun _ p2 _ hx hf hy=>Ab.A6 (o':=1) Ct rf rf) rf<|Af.op (val:=fun p2=>v12) rf rf (fun _=>rfl) (fun _ p2 _ hx hf hy=>Ab.Am (i:=1) (v:=v12) EL rf rf (hy 1 _ rf rf) rf) rf<|Af.op (val:=fun p2=>(.int .i64 (l4.length:Int))) rf rf (fun _=>rfl) (fun _ p2 _ hx hf hy=>Ab.move rf) rf<|Af.op (val:=fun p2=>(.int .i64 ((l4.length:Int)-1))) rf rf (fun _=>rfl) (fun _ p2 _ hx hf hy=>Ab.sub rf rf (Av ha12)) rf<|Af.op (val:=fun p2=>(ptr B0 0)) rf rf (fun _=>rfl) (fun _ p2 _ hx hf hy=>Ab.move rf) rf<|Af.op (val:=fun p2=>(.int .i64 (k2:Int))) rf rf (fun _=>rfl) (fun _ p2 _ hx hf hy=>Ab.move rf) rf<|Af.op (val:=fun p2=>(.int .u8 x15)) rf rf (fun _=>rfl) (fun _ p2 _ hx hf hy=>Ab.call QQ rf (CB.at 7 (hy 7 _ rf rf) (EU (hv1.mono (((((hl1.trans hl2).trans hl3).trans hl4).trans hl5).trans hx)) (hv2.mono (((((hl1.trans hl2).trans hl3).trans hl4).trans hl5).trans hx)) (hv3.mono (((((hl1.trans hl2).trans hl3).trans hl4).trans hl5).trans hx)) (hv4.mono (((((hl1.trans hl2).trans hl3).trans hl4).trans hl5).trans hx)) hx15))) rf ?_
      refine Af.op (val:=fun p2=>(AG v12 ((((l4.length:Int)-1).toNat)*3))) rf rf (fun _=>rfl) (fun _ p2 _ hx hf hy=>Ab.Co (j:=0) EL Cz rf (hy 0 _ rf rf) rf (Aj hx16)) rf<|Af.op (val:=fun p2=>(AG v12 ((((l4.length:Int)-1).toNat)*3+1))) rf rf (fun _=>rfl) (fun _ p2 _ hx hf hy=>Ab.NC (q:=0) Gg rf (hy 0 _ rf rf) (by omega)) rf<|Af.GY (res:=fun p2=> .row v12 47 3 l4.length (E' xs5 ((((l4.length:Int)-1).toNat)*3+1) [(.int .u8 x15)])) 0 rf rf rf (fun _=>rfl) (fun _ p2 _ hx hf hy=>Bc.J0 (k:=(((l4.length:Int)-1).toNat)*3+1) (vs:=[(.int .u8 x15)]) rf rf rf V5 rf rf (Ac rf (An)) (hy 0 _ rf rf) (by have h1:_=_*3:=(hq5.mono hl5).len;have h2:=Aj hx16;simp only[List.length_cons,List.length_nil];omega))<|Af.done fun H6 p2 hl6 hF2=>At.sub (L':=[(0,(ptr B0 0)),(2,(ptr B2 0)),(3,v6),(4,v13),(5,(.map (some B3))),(6,(ptr B4 0)),(7,(.int .i64 (k1:Int))),(8,(ptr (Bh (p1 11)) 0)),(63,v10),(64,(.int .i64 (x8.length:Int))),(65,(.int .i64 (k2:Int)))]) (Sub.of rf) ?_
      refine At.own (O:= .row v12 47 3 (l4.set (((l4.length:Int)-1).toNat) (x16.1,x15,x16.2.2)).length (E' xs5 ((((l4.length:Int)-1).toNat)*3+1) [(.int .u8 x15)]):: .Az (Bh (p1 11)) (.cells #[(.bool x6),v12] 45 (0,0)):: .row v9 45 2 l2.length xs3:: .Az B4 (.cells #[v9] 32 (0,0))::DK (Ow u3) (HJ u3) B3 m7:: .row v13 3 1 l5.length xs6:: .Az B2 (.cells #[(.slice none 0 0)] 32 (0,0)):: .Az B0 (.cells #[v1,v2,v3,v4] 97 (0,0))::O) ?_ (by first|rfl|(simp only[List.length_append,List.length_set];rfl)|simp)
      have hq9:Ap (cP A0 (cP A0 Ar)) H6 (l4.set (((l4.length:Int)-1).toNat) (x16.1,x15,x16.2.2)) (E' xs5 ((((l4.length:Int)-1).toNat)*3+1) [(.int .u8 x15)]):=(Ap.part (off:=1) (y:=(x16.1,x15,x16.2.2)) (cs:=[(.int .u8 x16.1),(.int .u8 x16.2.1),(.int .i64 x16.2.2)]) (hq5.mono (hl5.trans hl6)) (AX hx16).2 hc14_ rfl (Nat.le_of_ble_eq_true rfl) (⟨[(.int .u8 x16.1)],[(.int .u8 x15),(.int .i64 x16.2.2)],rfl,⟨rfl,(show(0:Int)≤x16.1 by omega),(show x16.1≤(255:Int) by omega)⟩,⟨[(.int .u8 x15)],[(.int .i64 x16.2.2)],rfl,⟨rfl,(show(0:Int)≤x15 by omega),(show x15≤(255:Int) by omega)⟩,rfl⟩⟩))
      refine At.AF<|At.Ae<|Wp.region<|Aa.op (Ab.add rf rf (Av (by omega))) rf<|Aa.op (Ab.move rf) rf<|Aa.nil ?_
      refine At.AZ (hl5.trans hl6) ⟨l5,(l4.set (((l4.length:Int)-1).toNat) (x16.1,x15,x16.2.2)),m7,(k2+1),v13,xs6,v12,E' xs5 ((((l4.length:Int)-1).toNat)*3+1) [(.int .u8 x15)],rf,rf,(by rw[←hn2];exact hd),(hq8.mono hl6),hq9⟩ (Sub.of rf)
     obtain⟨hb10,hd⟩:=bF hb10 hd
     obtain⟨x17,hx17,hd⟩:=Ag hd
     have hx17_:=Aj hx17
     obtain⟨ha14,hd⟩:=Al hd
     have:=ha14
     obtain⟨x18,hx18,hd⟩:=Ag hd
     obtain⟨ha15,hd⟩:=Al hd
     have hr15:=ha15.1;have hr16:=ha15.2
     obtain⟨ha16,hd⟩:=Al hd
     obtain⟨ha17,hd⟩:=Al hd
     obtain⟨_,rfl,hc15⟩:=AL.get (hv1.mono ((((hl1.trans hl2).trans hl3).trans hl4).trans hl5)) hx17
     refine Wp.emp<|Af.runK 9 [Ay,⟨[2],[],[]⟩,Ay,Ay,Ay,⟨[8],[],[]⟩,Ay,Ay,Ay,Ay,Ay,Ay,⟨[8],[],[]⟩,Ay,Ay,⟨[5],[],[]⟩,Ay,⟨[0],[0],[17]⟩,⟨[0,1],[1],[18]⟩,Ay,⟨[2],[2],[18]⟩] follows rf (by kernel_rfl)<|Af.op (val:=fun p3=>(ptr (Bh (p1 11)) 1)) rf rf (fun _=>rfl) (fun _ p3 _ hx hf hy=>Ab.A6 (o':=1) Ct rf rf) rf<|Af.op (val:=fun p3=>v12) rf rf (fun _=>rfl) (fun _ p3 _ hx hf hy=>Ab.Am (i:=2) (v:=v12) EL rf rf (hy 2 _ rf rf) rf) rf<|Af.op (val:=fun p3=>(ptr B0 0)) rf rf (fun _=>rfl) (fun _ p3 _ hx hf hy=>Ab.move rf) rf<|Af.op (val:=fun p3=>(ptr B0 0)) rf rf (fun _=>rfl) (fun _ p3 _ hx hf hy=>Ab.nilCheck rf) rf<|Af.op (val:=fun p3=>(ptr B0 0)) rf rf (fun _=>rfl) (fun _ p3 _ hx hf hy=>Ab.A6 (o':=0) Ht rf rf) rf<|Af.op (val:=fun p3=>v1) rf rf (fun _=>rfl) (fun _ p3 _ hx hf hy=>Ab.Am (i:=8) (v:=v1) Cv rf rf (hy 8 _ rf rf) rf) rf ?_
     refine Af.op (val:=fun p3=>(.int .i64 (k2:Int))) rf rf (fun _=>rfl) (fun _ p3 _ hx hf hy=>Ab.move rf) rf<|Af.op (val:=fun p3=>(AG v1 (k2*1))) rf rf (fun _=>rfl) (fun _ p3 _ hx hf hy=>Ab.Bz Cv DP rf (hv1.mono (((((hl1.trans hl2).trans hl3).trans hl4).trans hl5).trans hx)).sl rf (Aj hx17)) rf<|Af.op (val:=fun p3=>(.int .i64 x17)) rf rf (fun _=>rfl) (fun _ p3 _ hx hf hy=>Ab.HN u3 rf rf ((hc15 0 _ rf).mono hx)) rf<|Af.op (val:=fun p3=>(.int .u8 x17)) rf rf (fun _=>rfl) (fun _ p3 _ hx hf hy=>Ab.conv u3 u5 rf (DW ha14)) rf<|Af.op (val:=fun p3=>(ptr B0 0)) rf rf (fun _=>rfl) (fun _ p3 _ hx hf hy=>Ab.move rf) rf<|Af.op (val:=fun p3=>(.int .i64 (k2:Int))) rf rf (fun _=>rfl) (fun _ p3 _ hx hf hy=>Ab.move rf) rf<|Af.op (val:=fun p3=>(.int .u8 x18)) rf rf (fun _=>rfl) (fun _ p3 _ hx hf hy=>Ab.call QQ rf (CB.at 8 (hy 8 _ rf rf) (EU (hv1.mono (((((hl1.trans hl2).trans hl3).trans hl4).trans hl5).trans hx)) (hv2.mono (((((hl1.trans hl2).trans hl3).trans hl4).trans hl5).trans hx)) (hv3.mono (((((hl1.trans hl2).trans hl3).trans hl4).trans hl5).trans hx)) (hv4.mono (((((hl1.trans hl2).trans hl3).trans hl4).trans hl5).trans hx)) hx18))) rf<|Af.op (val:=fun p3=>(.map (some B3))) rf rf (fun _=>rfl) (fun _ p3 _ hx hf hy=>Ab.move rf) rf ?_
     refine Af.op (val:=fun p3=>(.int .i64 x10)) rf rf (fun _=>rfl) (fun _ p3 _ hx hf hy=>Ab.move rf) rf<|Af.op (val:=fun p3=>(.int .i64 ((AA m7 x10).getD 0))) rf rf (fun _=>rfl) (fun _ p3 _ hx hf hy=>Ab.lookup (K:=(Ow u3)) (M:=(HJ u3)) (i:=5) (k:=x10) (z:=0) NX DP (show Dw 0 by decide) rf rf ha16 (hy 5 _ rf rf)) rf<|Af.op (val:=fun p3=>(.agg #[(.int .u8 x17),(.int .u8 x18),(.int .i64 ((AA m7 x10).getD 0))])) rf rf (fun _=>rfl) (fun _ p3 _ hx hf hy=>Ab.Bj (vs:=[(0,(.int .u8 x17)),(1,(.int .u8 x18)),(2,(.int .i64 ((AA m7 x10).getD 0)))]) (cs:= #[(.int .u8 x17),(.int .u8 x18),(.int .i64 ((AA m7 x10).getD 0))]) Jl Cz rf rf (AK rf (AK rf (AK rf (A8)))) rf) rf<|Af.Fz (res:=fun p3=> .row (p3 17) 47 3 1 [(.int .u8 x17),(.int .u8 x18),(.int .i64 ((AA m7 x10).getD 0))]) 0 rf rf rf (fun _=>rfl) (fun _ p3 _ hx hf hy=>Bc.DM (v:=(.agg #[(.int .u8 x17),(.int .u8 x18),(.int .i64 ((AA m7 x10).getD 0))])) (cs:=[(.int .u8 x17),(.int .u8 x18),(.int .i64 ((AA m7 x10).getD 0))]) 0 EL Cz rf rf rf rf rf (hy 0 _ rf rf)) rf (fun _=>⟨_,_,_,_,rf⟩)<|Af.Fz (res:=fun p3=> .row (p3 18) 47 3 (l4.length+1) (xs5++[(.int .u8 x17),(.int .u8 x18),(.int .i64 ((AA m7 x10).getD 0))])) 1 rf rf rf (fun _=>rfl) (fun _ p3 _ hx hf hy=>Bc.KE 1 0 EL Cz rf rf rf rf (hy 1 _ rf rf) (hy 0 _ rf rf) (Ac rf (Ac rf (Ac rf (An)))) rf ha17) rf (fun _=>⟨_,_,_,_,rf⟩)<|Af.op (val:=fun p3=>(ptr (Bh (p1 11)) 1)) rf rf (fun _=>rfl) (fun _ p3 _ hx hf hy=>Ab.A6 (o':=1) Ct rf rf) rf<|Af.GY (res:=fun p3=> .Az (Bh (p1 11)) (.cells #[(.bool x6),(p3 18)] 45 (0,0))) 2 rf rf rf (fun _=>rfl) (fun _ p3 _ hx hf hy=>Bc.P' (vs:=[(p3 18)]) rf rf (Ef (hf 18 rf rf)) UQ rf (Ac (hf 18 rf rf) (An)) (hy 2 _ rf rf) rf rf)<|Af.done fun H7 p3 hl7 hF3=>?_
     refine At.sub (L':=[(0,(ptr B0 0)),(2,(ptr B2 0)),(3,v6),(4,v13),(5,(.map (some B3))),(6,(ptr B4 0)),(7,(.int .i64 (k1:Int))),(8,(ptr (Bh (p1 11)) 0)),(63,v10),(64,(.int .i64 (x8.length:Int))),(65,(.int .i64 (k2:Int)))]) (Sub.of rf) ?_
     refine At.own (O:= .row (p3 17) 47 3 ([(x17,x18,(AA m7 x10).getD 0)]:List (Int×Int×Int)).length [(.int .u8 x17),(.int .u8 x18),(.int .i64 ((AA m7 x10).getD 0))]:: .row (p3 18) 47 3 (l4++([(x17,x18,(AA m7 x10).getD 0)]:List (Int×Int×Int))).length (xs5++[(.int .u8 x17),(.int .u8 x18),(.int .i64 ((AA m7 x10).getD 0))]):: .Az (Bh (p1 11)) (.cells #[(.bool x6),(p3 18)] 45 (0,0)):: .row v9 45 2 l2.length xs3:: .Az B4 (.cells #[v9] 32 (0,0))::DK (Ow u3) (HJ u3) B3 m7:: .row v13 3 1 l5.length xs6:: .Az B2 (.cells #[(.slice none 0 0)] 32 (0,0)):: .Az B0 (.cells #[v1,v2,v3,v4] 97 (0,0))::O) ?_ (by first|rfl|(simp only[List.length_append,List.length_set];rfl)|simp)
     have hq10:Ap (cP A0 (cP A0 Ar)) H7 (l4++([(x17,x18,(AA m7 x10).getD 0)]:List (Int×Int×Int))) (xs5++[(.int .u8 x17),(.int .u8 x18),(.int .i64 ((AA m7 x10).getD 0))]):=(Ap.app (hq5.mono (hl5.trans hl7)) (Ap.Iy (c:=(cP A0 (cP A0 Ar))) (a:=(x17,x18,(AA m7 x10).getD 0)) (cs:=[(.int .u8 x17),(.int .u8 x18),(.int .i64 ((AA m7 x10).getD 0))]) (⟨[(.int .u8 x17)],[(.int .u8 x18),(.int .i64 ((AA m7 x10).getD 0))],rfl,⟨rfl,(show(0:Int)≤x17 by omega),(show x17≤(255:Int) by omega)⟩,⟨[(.int .u8 x18)],[(.int .i64 ((AA m7 x10).getD 0))],rfl,⟨rfl,(show(0:Int)≤x18 by omega),(show x18≤(255:Int) by omega)⟩,rfl⟩⟩)))
     refine At.AW [1,2,3,4,5,6,7,8] 9 rf rf rf<|At.AF<|At.Ae<|Wp.region<|Aa.op (Ab.add rf rf (Av (by omega))) rf<|Aa.op (Ab.move rf) rf<|Aa.nil ?_
     refine At.AZ (hl5.trans hl7) ⟨l5,(l4++([(x17,x18,(AA m7 x10).getD 0)]:List (Int×Int×Int))),m7,(k2+1),v13,xs6,(p3 18),xs5++[(.int .u8 x17),(.int .u8 x18),(.int .i64 ((AA m7 x10).getD 0))],rf,rf,(by rw[←hn2];exact hd),(hq8.mono hl7),hq10⟩ (Sub.of rf)
    obtain⟨hg2_,hd⟩:=bF hg2 hd
    obtain⟨_,⟨_,_,rfl,⟨rfl,hr1,hr2⟩,⟨_,_,rfl,⟨rfl,hr3,hr4⟩,rfl⟩⟩,hc11,hc11_⟩:=Ap.get (hq5.mono hl5) (AX hx12).2
    refine Wp.Ea 34 follows rf (by kernel_rfl)<|Ai.A7 (Ab.move rf) rf<|Ai.A7 (Ab.BR (b:=decide (0<(l4.length:Int))) (c:=true) (Ab.gtr rf rf) hg1) rf<|Ai.A7 (Ab.move rf) rf<|Ai.Be rf rf (Ab.A6 (o':=1) Ct rf rf) rf<|Ai.Be rf rf (Ab.Am (i:=1) (v:=v12) EL rf rf rf rf) rf<|Ai.Be rf rf (Ab.move rf) rf<|Ai.Be rf rf (Ab.sub rf rf (Av ha8)) rf ?_
    refine Ai.Be rf rf (Ab.Co (j:=0) EL Cz rf rf rf (Aj hx12)) rf<|Ai.Be rf rf (Ab.NC (q:=0) Gf rf rf (by omega)) rf<|Ai.Be rf rf (Ab.EX (i:=0) (k:=(((l4.length:Int)-1).toNat)*3+2) u3 rf rf rf (hc11 2 _ rf)) rf<|Ai.Be rf rf (Ab.move rf) rf<|Ai.Be rf rf (Ab.move rf) rf<|Ai.Be rf rf (Ab.lookup (K:=(Ow u3)) (M:=(HJ u3)) (i:=4) (k:=x10) (z:=0) NX DP (show Dw 0 by decide) rf rf ha9 rf) rf<|Ai.Be rf rf (Ab.BR (b:=decide (x12.2.2=((AA m7 x10).getD 0))) (c:=false) (Ab.eql rf rf) hg2) rf<|Ai.A7 (Ab.AU rf rf) rf ?_
    refine Ai.A7 (Ab.move rf) rf<|Ai.AE rf rf rf rf<|Ai.AE rf rf rf rf<|Ai.AE rf rf rf rf<|Ai.AE rf rf rf rf<|Ai.AE rf rf rf rf<|Ai.AE rf rf rf rf<|Ai.AE rf rf rf rf ?_
    refine Ai.AE rf rf rf rf<|Ai.AE rf rf rf rf<|Ai.AE rf rf rf rf<|Ai.AE rf rf rf rf<|Ai.AE rf rf rf rf<|Ai.AE rf rf rf rf<|Ai.AE rf rf rf rf<|Ai.AE rf rf rf rf ?_
    refine Ai.AE rf rf rf rf<|Ai.AE rf rf rf rf<|Ai.A7 (Ab.AP rf rf) rf<|Ai.Eb<|As.is (t:=0) rf<|As.is (t:=2) rf<|As.is (t:=3) rf<|As.is (t:=4) rf ?_
    refine As.is (t:=5) rf<|As.is (t:=6) rf<|As.is (t:=7) rf<|As.is (t:=8) rf<|As.is (t:=9) rf<|As.is (t:=11) rf<|As.is (t:=14) rf<|As.is (t:=63) rf ?_
    refine As.is (t:=64) rf<|As.is (t:=65) rf<|As.is (t:=134) rf<|As.Me<|Aa.Ah<|Wp.Hd rf ?_
    obtain⟨x19,hx19,hd⟩:=Ag hd
    have hx19_:=Aj hx19
    obtain⟨ha18,hd⟩:=Al hd
    have:=ha18
    obtain⟨x20,hx20,hd⟩:=Ag hd
    obtain⟨ha19,hd⟩:=Al hd
    have hr17:=ha19.1;have hr18:=ha19.2
    obtain⟨ha20,hd⟩:=Al hd
    obtain⟨ha21,hd⟩:=Al hd
    obtain⟨_,rfl,hc16⟩:=AL.get (hv1.mono ((((hl1.trans hl2).trans hl3).trans hl4).trans hl5)) hx19
    refine Wp.emp<|Af.runK 9 [Ay,⟨[2],[],[]⟩,Ay,Ay,Ay,⟨[8],[],[]⟩,Ay,Ay,Ay,Ay,Ay,Ay,⟨[8],[],[]⟩,Ay,Ay,⟨[5],[],[]⟩,Ay,⟨[0],[0],[17]⟩,⟨[0,1],[1],[18]⟩,Ay,⟨[2],[2],[18]⟩] follows rf (by kernel_rfl)<|Af.op (val:=fun p4=>(ptr (Bh (p1 11)) 1)) rf rf (fun _=>rfl) (fun _ p4 _ hx hf hy=>Ab.A6 (o':=1) Ct rf rf) rf<|Af.op (val:=fun p4=>v12) rf rf (fun _=>rfl) (fun _ p4 _ hx hf hy=>Ab.Am (i:=2) (v:=v12) EL rf rf (hy 2 _ rf rf) rf) rf<|Af.op (val:=fun p4=>(ptr B0 0)) rf rf (fun _=>rfl) (fun _ p4 _ hx hf hy=>Ab.move rf) rf<|Af.op (val:=fun p4=>(ptr B0 0)) rf rf (fun _=>rfl) (fun _ p4 _ hx hf hy=>Ab.nilCheck rf) rf<|Af.op (val:=fun p4=>(ptr B0 0)) rf rf (fun _=>rfl) (fun _ p4 _ hx hf hy=>Ab.A6 (o':=0) Ht rf rf) rf<|Af.op (val:=fun p4=>v1) rf rf (fun _=>rfl) (fun _ p4 _ hx hf hy=>Ab.Am (i:=8) (v:=v1) Cv rf rf (hy 8 _ rf rf) rf) rf ?_
    refine Af.op (val:=fun p4=>(.int .i64 (k2:Int))) rf rf (fun _=>rfl) (fun _ p4 _ hx hf hy=>Ab.move rf) rf<|Af.op (val:=fun p4=>(AG v1 (k2*1))) rf rf (fun _=>rfl) (fun _ p4 _ hx hf hy=>Ab.Bz Cv DP rf (hv1.mono (((((hl1.trans hl2).trans hl3).trans hl4).trans hl5).trans hx)).sl rf (Aj hx19)) rf<|Af.op (val:=fun p4=>(.int .i64 x19)) rf rf (fun _=>rfl) (fun _ p4 _ hx hf hy=>Ab.HN u3 rf rf ((hc16 0 _ rf).mono hx)) rf<|Af.op (val:=fun p4=>(.int .u8 x19)) rf rf (fun _=>rfl) (fun _ p4 _ hx hf hy=>Ab.conv u3 u5 rf (DW ha18)) rf<|Af.op (val:=fun p4=>(ptr B0 0)) rf rf (fun _=>rfl) (fun _ p4 _ hx hf hy=>Ab.move rf) rf<|Af.op (val:=fun p4=>(.int .i64 (k2:Int))) rf rf (fun _=>rfl) (fun _ p4 _ hx hf hy=>Ab.move rf) rf<|Af.op (val:=fun p4=>(.int .u8 x20)) rf rf (fun _=>rfl) (fun _ p4 _ hx hf hy=>Ab.call QQ rf (CB.at 8 (hy 8 _ rf rf) (EU (hv1.mono (((((hl1.trans hl2).trans hl3).trans hl4).trans hl5).trans hx)) (hv2.mono (((((hl1.trans hl2).trans hl3).trans hl4).trans hl5).trans hx)) (hv3.mono (((((hl1.trans hl2).trans hl3).trans hl4).trans hl5).trans hx)) (hv4.mono (((((hl1.trans hl2).trans hl3).trans hl4).trans hl5).trans hx)) hx20))) rf<|Af.op (val:=fun p4=>(.map (some B3))) rf rf (fun _=>rfl) (fun _ p4 _ hx hf hy=>Ab.move rf) rf ?_
    refine Af.op (val:=fun p4=>(.int .i64 x10)) rf rf (fun _=>rfl) (fun _ p4 _ hx hf hy=>Ab.move rf) rf<|Af.op (val:=fun p4=>(.int .i64 ((AA m7 x10).getD 0))) rf rf (fun _=>rfl) (fun _ p4 _ hx hf hy=>Ab.lookup (K:=(Ow u3)) (M:=(HJ u3)) (i:=5) (k:=x10) (z:=0) NX DP (show Dw 0 by decide) rf rf ha20 (hy 5 _ rf rf)) rf<|Af.op (val:=fun p4=>(.agg #[(.int .u8 x19),(.int .u8 x20),(.int .i64 ((AA m7 x10).getD 0))])) rf rf (fun _=>rfl) (fun _ p4 _ hx hf hy=>Ab.Bj (vs:=[(0,(.int .u8 x19)),(1,(.int .u8 x20)),(2,(.int .i64 ((AA m7 x10).getD 0)))]) (cs:= #[(.int .u8 x19),(.int .u8 x20),(.int .i64 ((AA m7 x10).getD 0))]) Jl Cz rf rf (AK rf (AK rf (AK rf (A8)))) rf) rf<|Af.Fz (res:=fun p4=> .row (p4 17) 47 3 1 [(.int .u8 x19),(.int .u8 x20),(.int .i64 ((AA m7 x10).getD 0))]) 0 rf rf rf (fun _=>rfl) (fun _ p4 _ hx hf hy=>Bc.DM (v:=(.agg #[(.int .u8 x19),(.int .u8 x20),(.int .i64 ((AA m7 x10).getD 0))])) (cs:=[(.int .u8 x19),(.int .u8 x20),(.int .i64 ((AA m7 x10).getD 0))]) 0 EL Cz rf rf rf rf rf (hy 0 _ rf rf)) rf (fun _=>⟨_,_,_,_,rf⟩)<|Af.Fz (res:=fun p4=> .row (p4 18) 47 3 (l4.length+1) (xs5++[(.int .u8 x19),(.int .u8 x20),(.int .i64 ((AA m7 x10).getD 0))])) 1 rf rf rf (fun _=>rfl) (fun _ p4 _ hx hf hy=>Bc.KE 1 0 EL Cz rf rf rf rf (hy 1 _ rf rf) (hy 0 _ rf rf) (Ac rf (Ac rf (Ac rf (An)))) rf ha21) rf (fun _=>⟨_,_,_,_,rf⟩)<|Af.op (val:=fun p4=>(ptr (Bh (p1 11)) 1)) rf rf (fun _=>rfl) (fun _ p4 _ hx hf hy=>Ab.A6 (o':=1) Ct rf rf) rf<|Af.GY (res:=fun p4=> .Az (Bh (p1 11)) (.cells #[(.bool x6),(p4 18)] 45 (0,0))) 2 rf rf rf (fun _=>rfl) (fun _ p4 _ hx hf hy=>Bc.P' (vs:=[(p4 18)]) rf rf (Ef (hf 18 rf rf)) UQ rf (Ac (hf 18 rf rf) (An)) (hy 2 _ rf rf) rf rf)<|Af.done fun H8 p4 hl8 hF4=>?_
    refine At.sub (L':=[(0,(ptr B0 0)),(2,(ptr B2 0)),(3,v6),(4,v13),(5,(.map (some B3))),(6,(ptr B4 0)),(7,(.int .i64 (k1:Int))),(8,(ptr (Bh (p1 11)) 0)),(63,v10),(64,(.int .i64 (x8.length:Int))),(65,(.int .i64 (k2:Int)))]) (Sub.of rf) ?_
    refine At.own (O:= .row (p4 17) 47 3 ([(x19,x20,(AA m7 x10).getD 0)]:List (Int×Int×Int)).length [(.int .u8 x19),(.int .u8 x20),(.int .i64 ((AA m7 x10).getD 0))]:: .row (p4 18) 47 3 (l4++([(x19,x20,(AA m7 x10).getD 0)]:List (Int×Int×Int))).length (xs5++[(.int .u8 x19),(.int .u8 x20),(.int .i64 ((AA m7 x10).getD 0))]):: .Az (Bh (p1 11)) (.cells #[(.bool x6),(p4 18)] 45 (0,0)):: .row v9 45 2 l2.length xs3:: .Az B4 (.cells #[v9] 32 (0,0))::DK (Ow u3) (HJ u3) B3 m7:: .row v13 3 1 l5.length xs6:: .Az B2 (.cells #[(.slice none 0 0)] 32 (0,0)):: .Az B0 (.cells #[v1,v2,v3,v4] 97 (0,0))::O) ?_ (by first|rfl|(simp only[List.length_append,List.length_set];rfl)|simp)
    have hq11:Ap (cP A0 (cP A0 Ar)) H8 (l4++([(x19,x20,(AA m7 x10).getD 0)]:List (Int×Int×Int))) (xs5++[(.int .u8 x19),(.int .u8 x20),(.int .i64 ((AA m7 x10).getD 0))]):=(Ap.app (hq5.mono (hl5.trans hl8)) (Ap.Iy (c:=(cP A0 (cP A0 Ar))) (a:=(x19,x20,(AA m7 x10).getD 0)) (cs:=[(.int .u8 x19),(.int .u8 x20),(.int .i64 ((AA m7 x10).getD 0))]) (⟨[(.int .u8 x19)],[(.int .u8 x20),(.int .i64 ((AA m7 x10).getD 0))],rfl,⟨rfl,(show(0:Int)≤x19 by omega),(show x19≤(255:Int) by omega)⟩,⟨[(.int .u8 x20)],[(.int .i64 ((AA m7 x10).getD 0))],rfl,⟨rfl,(show(0:Int)≤x20 by omega),(show x20≤(255:Int) by omega)⟩,rfl⟩⟩)))
    refine At.AW [1,2,3,4,5,6,7,8] 9 rf rf rf<|At.AF<|At.Ae<|Wp.region<|Aa.op (Ab.add rf rf (Av (by omega))) rf<|Aa.op (Ab.move rf) rf<|Aa.nil ?_
    refine At.AZ (hl5.trans hl8) ⟨l5,(l4++([(x19,x20,(AA m7 x10).getD 0)]:List (Int×Int×Int))),m7,(k2+1),v13,xs6,(p4 18),xs5++[(.int .u8 x19),(.int .u8 x20),(.int .i64 ((AA m7 x10).getD 0))],rf,rf,(by rw[←hn2];exact hd),(hq8.mono hl8),hq11⟩ (Sub.of rf)
   obtain⟨hg1_,hd⟩:=bF hg1 hd
   refine Wp.Ea 34 follows rf (by kernel_rfl)<|Ai.A7 (Ab.move rf) rf<|Ai.A7 (Ab.BR (b:=decide (0<(l4.length:Int))) (c:=false) (Ab.gtr rf rf) hg1) rf<|Ai.A7 (Ab.move rf) rf<|Ai.AE rf rf rf rf<|Ai.AE rf rf rf rf<|Ai.AE rf rf rf rf<|Ai.AE rf rf rf rf ?_
   refine Ai.AE rf rf rf rf<|Ai.AE rf rf rf rf<|Ai.AE rf rf rf rf<|Ai.AE rf rf rf rf<|Ai.AE rf rf rf rf<|Ai.AE rf rf rf rf<|Ai.AE rf rf rf rf<|Ai.A7 (Ab.AP rf rf) rf ?_
   refine Ai.A7 (Ab.move rf) rf<|Ai.AE rf rf rf rf<|Ai.AE rf rf rf rf<|Ai.AE rf rf rf rf<|Ai.AE rf rf rf rf<|Ai.AE rf rf rf rf<|Ai.AE rf rf rf rf<|Ai.AE rf rf rf rf ?_
   refine Ai.AE rf rf rf rf<|Ai.AE rf rf rf rf<|Ai.AE rf rf rf rf<|Ai.AE rf rf rf rf<|Ai.AE rf rf rf rf<|Ai.AE rf rf rf rf<|Ai.AE rf rf rf rf<|Ai.AE rf rf rf rf ?_
   refine Ai.AE rf rf rf rf<|Ai.AE rf rf rf rf<|Ai.A7 (Ab.AP rf rf) rf<|Ai.Eb<|As.is (t:=0) rf<|As.is (t:=2) rf<|As.is (t:=3) rf<|As.is (t:=4) rf ?_
   refine As.is (t:=5) rf<|As.is (t:=6) rf<|As.is (t:=7) rf<|As.is (t:=8) rf<|As.is (t:=9) rf<|As.is (t:=11) rf<|As.is (t:=14) rf<|As.is (t:=63) rf ?_
   refine As.is (t:=64) rf<|As.is (t:=65) rf<|As.is (t:=134) rf<|As.Me<|Aa.Ah<|Wp.Hd rf ?_
   obtain⟨x21,hx21,hd⟩:=Ag hd
   have hx21_:=Aj hx21
   obtain⟨ha22,hd⟩:=Al hd
   have:=ha22
   obtain⟨x22,hx22,hd⟩:=Ag hd
   obtain⟨ha23,hd⟩:=Al hd
   have hr19:=ha23.1;have hr20:=ha23.2
   obtain⟨ha24,hd⟩:=Al hd
   obtain⟨ha25,hd⟩:=Al hd
   obtain⟨_,rfl,hc17⟩:=AL.get (hv1.mono ((((hl1.trans hl2).trans hl3).trans hl4).trans hl5)) hx21
   refine Wp.emp<|Af.runK 9 [Ay,⟨[2],[],[]⟩,Ay,Ay,Ay,⟨[8],[],[]⟩,Ay,Ay,Ay,Ay,Ay,Ay,⟨[8],[],[]⟩,Ay,Ay,⟨[5],[],[]⟩,Ay,⟨[0],[0],[17]⟩,⟨[0,1],[1],[18]⟩,Ay,⟨[2],[2],[18]⟩] follows rf (by kernel_rfl)<|Af.op (val:=fun p5=>(ptr (Bh (p1 11)) 1)) rf rf (fun _=>rfl) (fun _ p5 _ hx hf hy=>Ab.A6 (o':=1) Ct rf rf) rf<|Af.op (val:=fun p5=>v12) rf rf (fun _=>rfl) (fun _ p5 _ hx hf hy=>Ab.Am (i:=2) (v:=v12) EL rf rf (hy 2 _ rf rf) rf) rf<|Af.op (val:=fun p5=>(ptr B0 0)) rf rf (fun _=>rfl) (fun _ p5 _ hx hf hy=>Ab.move rf) rf<|Af.op (val:=fun p5=>(ptr B0 0)) rf rf (fun _=>rfl) (fun _ p5 _ hx hf hy=>Ab.nilCheck rf) rf<|Af.op (val:=fun p5=>(ptr B0 0)) rf rf (fun _=>rfl) (fun _ p5 _ hx hf hy=>Ab.A6 (o':=0) Ht rf rf) rf<|Af.op (val:=fun p5=>v1) rf rf (fun _=>rfl) (fun _ p5 _ hx hf hy=>Ab.Am (i:=8) (v:=v1) Cv rf rf (hy 8 _ rf rf) rf) rf ?_
   refine Af.op (val:=fun p5=>(.int .i64 (k2:Int))) rf rf (fun _=>rfl) (fun _ p5 _ hx hf hy=>Ab.move rf) rf<|Af.op (val:=fun p5=>(AG v1 (k2*1))) rf rf (fun _=>rfl) (fun _ p5 _ hx hf hy=>Ab.Bz Cv DP rf (hv1.mono (((((hl1.trans hl2).trans hl3).trans hl4).trans hl5).trans hx)).sl rf (Aj hx21)) rf<|Af.op (val:=fun p5=>(.int .i64 x21)) rf rf (fun _=>rfl) (fun _ p5 _ hx hf hy=>Ab.HN u3 rf rf ((hc17 0 _ rf).mono hx)) rf<|Af.op (val:=fun p5=>(.int .u8 x21)) rf rf (fun _=>rfl) (fun _ p5 _ hx hf hy=>Ab.conv u3 u5 rf (DW ha22)) rf<|Af.op (val:=fun p5=>(ptr B0 0)) rf rf (fun _=>rfl) (fun _ p5 _ hx hf hy=>Ab.move rf) rf<|Af.op (val:=fun p5=>(.int .i64 (k2:Int))) rf rf (fun _=>rfl) (fun _ p5 _ hx hf hy=>Ab.move rf) rf<|Af.op (val:=fun p5=>(.int .u8 x22)) rf rf (fun _=>rfl) (fun _ p5 _ hx hf hy=>Ab.call QQ rf (CB.at 8 (hy 8 _ rf rf) (EU (hv1.mono (((((hl1.trans hl2).trans hl3).trans hl4).trans hl5).trans hx)) (hv2.mono (((((hl1.trans hl2).trans hl3).trans hl4).trans hl5).trans hx)) (hv3.mono (((((hl1.trans hl2).trans hl3).trans hl4).trans hl5).trans hx)) (hv4.mono (((((hl1.trans hl2).trans hl3).trans hl4).trans hl5).trans hx)) hx22))) rf<|Af.op (val:=fun p5=>(.map (some B3))) rf rf (fun _=>rfl) (fun _ p5 _ hx hf hy=>Ab.move rf) rf ?_
   refine Af.op (val:=fun p5=>(.int .i64 x10)) rf rf (fun _=>rfl) (fun _ p5 _ hx hf hy=>Ab.move rf) rf<|Af.op (val:=fun p5=>(.int .i64 ((AA m7 x10).getD 0))) rf rf (fun _=>rfl) (fun _ p5 _ hx hf hy=>Ab.lookup (K:=(Ow u3)) (M:=(HJ u3)) (i:=5) (k:=x10) (z:=0) NX DP (show Dw 0 by decide) rf rf ha24 (hy 5 _ rf rf)) rf<|Af.op (val:=fun p5=>(.agg #[(.int .u8 x21),(.int .u8 x22),(.int .i64 ((AA m7 x10).getD 0))])) rf rf (fun _=>rfl) (fun _ p5 _ hx hf hy=>Ab.Bj (vs:=[(0,(.int .u8 x21)),(1,(.int .u8 x22)),(2,(.int .i64 ((AA m7 x10).getD 0)))]) (cs:= #[(.int .u8 x21),(.int .u8 x22),(.int .i64 ((AA m7 x10).getD 0))]) Jl Cz rf rf (AK rf (AK rf (AK rf (A8)))) rf) rf<|Af.Fz (res:=fun p5=> .row (p5 17) 47 3 1 [(.int .u8 x21),(.int .u8 x22),(.int .i64 ((AA m7 x10).getD 0))]) 0 rf rf rf (fun _=>rfl) (fun _ p5 _ hx hf hy=>Bc.DM (v:=(.agg #[(.int .u8 x21),(.int .u8 x22),(.int .i64 ((AA m7 x10).getD 0))])) (cs:=[(.int .u8 x21),(.int .u8 x22),(.int .i64 ((AA m7 x10).getD 0))]) 0 EL Cz rf rf rf rf rf (hy 0 _ rf rf)) rf (fun _=>⟨_,_,_,_,rf⟩)<|Af.Fz (res:=fun p5=> .row (p5 18) 47 3 (l4.length+1) (xs5++[(.int .u8 x21),(.int .u8 x22),(.int .i64 ((AA m7 x10).getD 0))])) 1 rf rf rf (fun _=>rfl) (fun _ p5 _ hx hf hy=>Bc.KE 1 0 EL Cz rf rf rf rf (hy 1 _ rf rf) (hy 0 _ rf rf) (Ac rf (Ac rf (Ac rf (An)))) rf ha25) rf (fun _=>⟨_,_,_,_,rf⟩)<|Af.op (val:=fun p5=>(ptr (Bh (p1 11)) 1)) rf rf (fun _=>rfl) (fun _ p5 _ hx hf hy=>Ab.A6 (o':=1) Ct rf rf) rf<|Af.GY (res:=fun p5=> .Az (Bh (p1 11)) (.cells #[(.bool x6),(p5 18)] 45 (0,0))) 2 rf rf rf (fun _=>rfl) (fun _ p5 _ hx hf hy=>Bc.P' (vs:=[(p5 18)]) rf rf (Ef (hf 18 rf rf)) UQ rf (Ac (hf 18 rf rf) (An)) (hy 2 _ rf rf) rf rf)<|Af.done fun H9 p5 hl9 hF5=>?_
   refine At.sub (L':=[(0,(ptr B0 0)),(2,(ptr B2 0)),(3,v6),(4,v13),(5,(.map (some B3))),(6,(ptr B4 0)),(7,(.int .i64 (k1:Int))),(8,(ptr (Bh (p1 11)) 0)),(63,v10),(64,(.int .i64 (x8.length:Int))),(65,(.int .i64 (k2:Int)))]) (Sub.of rf) ?_
   refine At.own (O:= .row (p5 17) 47 3 ([(x21,x22,(AA m7 x10).getD 0)]:List (Int×Int×Int)).length [(.int .u8 x21),(.int .u8 x22),(.int .i64 ((AA m7 x10).getD 0))]:: .row (p5 18) 47 3 (l4++([(x21,x22,(AA m7 x10).getD 0)]:List (Int×Int×Int))).length (xs5++[(.int .u8 x21),(.int .u8 x22),(.int .i64 ((AA m7 x10).getD 0))]):: .Az (Bh (p1 11)) (.cells #[(.bool x6),(p5 18)] 45 (0,0)):: .row v9 45 2 l2.length xs3:: .Az B4 (.cells #[v9] 32 (0,0))::DK (Ow u3) (HJ u3) B3 m7:: .row v13 3 1 l5.length xs6:: .Az B2 (.cells #[(.slice none 0 0)] 32 (0,0)):: .Az B0 (.cells #[v1,v2,v3,v4] 97 (0,0))::O) ?_ (by first|rfl|(simp only[List.length_append,List.length_set];rfl)|simp)
   have hq12:Ap (cP A0 (cP A0 Ar)) H9 (l4++([(x21,x22,(AA m7 x10).getD 0)]:List (Int×Int×Int))) (xs5++[(.int .u8 x21),(.int .u8 x22),(.int .i64 ((AA m7 x10).getD 0))]):=(Ap.app (hq5.mono (hl5.trans hl9)) (Ap.Iy (c:=(cP A0 (cP A0 Ar))) (a:=(x21,x22,(AA m7 x10).getD 0)) (cs:=[(.int .u8 x21),(.int .u8 x22),(.int .i64 ((AA m7 x10).getD 0))]) (⟨[(.int .u8 x21)],[(.int .u8 x22),(.int .i64 ((AA m7 x10).getD 0))],rfl,⟨rfl,(show(0:Int)≤x21 by omega),(show x21≤(255:Int) by omega)⟩,⟨[(.int .u8 x22)],[(.int .i64 ((AA m7 x10).getD 0))],rfl,⟨rfl,(show(0:Int)≤x22 by omega),(show x22≤(255:Int) by omega)⟩,rfl⟩⟩)))
   refine At.AW [1,2,3,4,5,6,7,8] 9 rf rf rf<|At.AF<|At.Ae<|Wp.region<|Aa.op (Ab.add rf rf (Av (by omega))) rf<|Aa.op (Ab.move rf) rf<|Aa.nil ?_
   refine At.AZ (hl5.trans hl9) ⟨l5,(l4++([(x21,x22,(AA m7 x10).getD 0)]:List (Int×Int×Int))),m7,(k2+1),v13,xs6,(p5 18),xs5++[(.int .u8 x21),(.int .u8 x22),(.int .i64 ((AA m7 x10).getD 0))],rf,rf,(by rw[←hn2];exact hd),(hq8.mono hl9),hq12⟩ (Sub.of rf)
  obtain⟨hb5,hd⟩:=bF hb5 hd
  refine Wp.exit<|At.Ao<|At.Ao<|At.AB<|At.Ae ?_
  obtain⟨ha26,hd⟩:=Al hd
  refine Wp.region<|Aa.op (Ab.A6 (o':=0) BO rf rf) rf<|Aa.op (Ab.Am (i:=3) (v:=v9) C9 rf rf rf rf) rf<|Aa.op (Ab.Aw (i:=1) Sq rf BX rf rf rf) rf ?_
  refine Aa.Bk (i:=0) rf fun hb11=>?_
  refine Aa.freeze (i:=0) rf fun H10 hl10 hs1=>?_
  have hv7:=AL.of (c:=(cP A0 (cP A0 Ar))) hs1 rfl (hq5.mono hl10) hb11
  refine Aa.Bv (c:=(cP cB (cL (cP A0 (cP A0 Ar))))) (y:=(x6,l4)) (cs:=[(.bool x6),v12]) C9 BX rf rf rf rf (⟨[(.bool x6)],[v12],rf,rf,⟨_,rf,hv7⟩⟩) rf fun v16 xs9 hq13=>Aa.Hz (i:=2) (j:=0) (hq3.mono ((hl3.trans hl4).trans hl10)) hq13 C9 BX rf (by decide) rf rf rf rf (by decide) ha26 rf fun v17 xs10 hq14=>Aa.drop (i:=0)<|Aa.op (Ab.A6 (o':=0) BO rf rf) rf<|Aa.BU (i:=1) rf fun ho1=>Aa.Dc (i:=2) rf rf ho1 Ww rf (Nat.le_of_ble_eq_true rf) ?_
  refine Aa.own (O:=_::_::_::_::_::_::_::_) ?_ rf
  refine Aa.nil<|At.AF<|At.Ae<|Wp.region<|Aa.op (Ab.move rf) rf<|Aa.op (Ab.add rf rf (Av (by omega))) rf<|Aa.op (Ab.assign rf) rf<|Aa.nil ?_
  refine At.AW [1,2,3,4,5,6] 7 rf rf rf ?_
  refine At.AZ ((hl3.trans hl4).trans hl10) ⟨l3,(l2++([(x6,l4)]:List (Bool×(List (Int×Int×Int))))),m4,(k1+1),v11,xs4,v17,xs10,rf,rf,(by rw[←hn1];exact hd),(hq4.mono hl10),hq14⟩ (Sub.of rf)
 obtain⟨hb3,hd⟩:=bF hb3 hd
 refine Wp.exit<|At.Ao<|At.Ao<|At.AB<|At.Ae<|Wp.sr<|Aa.op (Ab.Aw (i:=1) u32 rf A5 rf rf rf) rf<|Aa.BU (i:=0) rf fun ho2=>?_
 refine Aa.AM (i:=4) (cs':= #[v9]) rf rf A5 rf rf (Bd (Ac ho2 (An))) rf ?_
 refine Aa.own (O:=_::_::_::_::_::_::_) ?_ rf
 refine Aa.Ah<|Wp.ret ?_
 refine At.Bk (i:=0) rf fun hb12=>?_
 refine At.freeze (i:=0) rf fun H11 hl11 hs2=>?_
 have hv8:=AL.of (c:=(cP cB (cL (cP A0 (cP A0 Ar))))) hs2 rfl (hq3.mono hl11) hb12
 obtain rfl:=si hd
 exact At.C_ rf (RV.CQ (i:=3) rf u32 rf A5 rf rf) (fun w hs=>⟨_,_,_,rf,((hl1.trans hl2).trans hl11),(hs.AW [4] 5 rf rf rf),⟨⟨v9,rf,hv8⟩,rf⟩⟩)
theorem Ic{fu:Nat}{a0:(List Int)×(List (List Int))×(List Bool)×(List Int)}{a1:Int}{v1 v2 v3 v4:Value}{B0:Nat}{r:BF}(hv1:AL Ar H a0.1 v1)(hv2:AL (cL Ar) H a0.2.1 v2)(hv3:AL cB H a0.2.2.1 v3)(hv4:AL Ar H a0.2.2.2 v4)(hG:El Tryz.prog H)(hd:CR fu a0 a1=some r):
   CB Tryz.prog 46 [(ptr B0 0),(.int .i64 a1)] H (.Az B0 (.cells #[v1,v2,v3,v4] 97 (0,0))::O) (sv r):=by
 intro w hs
 refine Bo Tryz.func46 rf rf rf ?_ hs
 clear hs w
 unfold CR at hd
 refine Wp.sr<|Aa.op (Ab.assign rf) rf<|Aa.Ah<|Wp.sr<|Aa.alloc (cs:= #[.pointer none, .slice none 0 0]) V6 rf rf fun B2=>Aa.Cb 5 1 ?_
 have hB10:Ih H B2 (.pointer none) (.slice none 0 0) [] []:=Ih.new
 refine Aa.Ah<|Wp.seq ?_
 obtain⟨x1,hx1,hd⟩:=Ag hd
 have hx1_:=Aj hx1
 obtain⟨ha1,hd⟩:=Al hd
 obtain⟨ha2,hd⟩:=Al hd
 refine Wp.region<|Aa.op (Ab.move rf) rf<|Aa.op (Ab.nilCheck rf) rf<|Aa.op (Ab.A6 (o':=3) Ge rf rf) rf<|Aa.op (Ab.Am (i:=2) (v:=v4) Cv rf rf rf rf) rf<|Aa.op (Ab.move rf) rf ?_
 obtain⟨_,rfl,hc1⟩:=AL.get hv4 hx1
 refine Aa.op (Ab.Bz Cv DP rf hv4.sl rf (Aj hx1)) rf<|Aa.op (Ab.HN u3 rf rf (hc1 0 _ rf)) rf<|Aa.op (Ab.call TX rf (TG hG ha1)) rf<|Aa.AW [1,0,2] 3 rf rf rf<|Aa.Fi (Bc.call TY rf (Uh hB10 ha2)) rf ?_
 rintro _ H1 _ hl1 ⟨v5,xs1,rfl,hB20,rfl⟩
 refine Aa.Ah<|Wp.seq<|Wp.seq ?_
 obtain⟨x2,hx2,hd⟩:=Ag hd
 have hx2_:=Aj hx2
 refine Wp.region<|Aa.op (Ab.move rf) rf<|Aa.op (Ab.nilCheck rf) rf<|Aa.op (Ab.A6 (o':=1) FC rf rf) rf<|Aa.op (Ab.Am (i:=2) (v:=v2) FH rf rf rf rf) rf<|Aa.op (Ab.move rf) rf ?_
 obtain⟨_,⟨v6,rfl,hv5⟩,hc2⟩:=AL.get (hv2.mono hl1) hx2
 refine Aa.op (Ab.Bz FH Eo rf (hv2.mono hl1).sl rf (Aj hx2)) rf<|Aa.op (Ab.HN Cv rf rf (hc2 0 _ rf)) rf ?_
 have hb1:=hv5.le
 refine Aa.op (Ab.len Cv rf hv5.sl) rf<|Aa.op (Ab.move rf) rf<|Aa.Ah<|Wp.block<|Wp.Bt (fun m LL HH OO=> ∃(l1:BF),∃(k1:Nat),∃(a30:Value),∃(v7:Value),∃(xs2:List Value),[(0,(ptr B0 0)),(5,(ptr B2 0)),(23,v6),(24,(.int .i64 (x2.length:Int))),(25,(.int .i64 (k1:Int)))]=LL∧ .Az B2 (.cells #[a30,v7] 112 (0,0)):: .row v7 5 1 l1.length xs2:: .Az B0 (.cells #[v1,v2,v3,v4] 97 (0,0))::O=OO∧Ax m (fun p nx=>BT fu a0 x2 p.1 p.2 nx) (l1,k1)=some r∧Ih HH B2 a30 v7 l1 xs2) fu ⟨(([]:BF)++(Lib.itoa x1)),0,(ptr B2 0),v5,xs1,rf,rf,hd,hB20⟩ (Sub.of rf) ?_
 intro m1 L1 H2 O1 hl2 hI1
 obtain⟨l1,k1,a30,v7,xs2,rfl,rfl,hd,hB69⟩:=hI1
 obtain⟨m2,nx1,rfl,hn1,hd⟩:=Bm hd
 replace hd:BT fu a0 x2 l1 k1 nx1=some r:=hd
 unfold BT at hd
 refine Wp.sr<|Aa.op (Ab.lss rf rf) rf<|Aa.Ah<|Wp.seq ?_
 refine Wp.cond rf (fun hb2=>?_) (fun hb2=>?_)
 ·
  obtain⟨hb2,hd⟩:=bT hb2 hd
  refine Wp.skip<|At.Ae<|Wp.seq<|Wp.block<|Wp.seq ?_
  obtain⟨x3,hx3,hd⟩:=Ag hd
  have hx3_:=Aj hx3
  refine Wp.region ?_
  obtain⟨_,rfl,hc3⟩:=AL.get (hv5.mono hl2) hx3
  refine Aa.op (Ab.Bz Cv DP rf (hv5.mono hl2).sl rf (Aj hx3)) rf<|Aa.op (Ab.HN u3 rf rf (hc3 0 _ rf)) rf<|Aa.op (Ab.assign rf) rf<|Aa.Ah ?_
  obtain⟨x4,hx4,hd⟩:=Ag hd
  have hx4_:=Aj hx4
  obtain⟨ha3,hd⟩:=Al hd
  obtain⟨ha4,hd⟩:=Al hd
  obtain⟨ha5,hd⟩:=Al hd
  refine Wp.region<|Aa.op (Ab.move rf) rf<|Aa.op (Ab.nilCheck rf) rf<|Aa.op (Ab.A6 (o':=3) Ge rf rf) rf<|Aa.op (Ab.Am (i:=2) (v:=v4) Cv rf rf rf rf) rf<|Aa.op (Ab.move rf) rf ?_
  obtain⟨_,rfl,hc4⟩:=AL.get (hv4.mono (hl1.trans hl2)) hx4
  refine Aa.op (Ab.Bz Cv DP rf (hv4.mono (hl1.trans hl2)).sl rf (Aj hx4)) rf<|Aa.op (Ab.HN u3 rf rf (hc4 0 _ rf)) rf<|Aa.op (Ab.call TX rf (TG (hG.mono (hl1.trans hl2)) ha3)) rf<|Aa.op (Ab.Ue rf rf ha4) rf<|Aa.Fi (Bc.call TY rf (Uh hB69 ha5)) rf ?_
  rintro _ H3 _ hl3 ⟨v8,xs3,rfl,hB93,rfl⟩
  refine Aa.nil<|At.AF<|At.Ae<|Wp.region<|Aa.op (Ab.add rf rf (Av (by omega))) rf<|Aa.op (Ab.move rf) rf<|Aa.nil ?_
  refine At.AZ hl3 ⟨(l1++(([44]:BF)++(Lib.itoa x4))),(k1+1),(ptr B2 0),v8,xs3,rf,rf,(by rw[←hn1];exact hd),hB93⟩ (Sub.of rf)
 obtain⟨hb2,hd⟩:=bF hb2 hd
 refine Wp.exit<|At.Ao<|At.Ao<|At.AB<|At.Ae<|Wp.sr<|Aa.Fi (Bc.call We rf (Wo hB69)) rf ?_
 rintro _ H4 _ hl4 ⟨rfl,rfl⟩
 refine Aa.op (Ab.assign rf) rf<|Aa.Ah<|Wp.ret ?_
 obtain rfl:=si hd
 exact At.C_ rf (RV.tmp (v:=(sv l1)) rf) (fun w hs=>⟨rf,(hs.AW [0] 1 rf rf rf).weaken ((hl1.trans hl2).trans hl4)⟩)
theorem JM{fu:Nat}{a0:(List Int)×(List (List Int))×(List Bool)×(List Int)}{v1 v2 v3 v4:Value}{B0:Nat}{r:(List Int)×(List (List Int))×(List Bool)×(List Int)}(hv1:AL Ar H a0.1 v1)(hv2:AL (cL Ar) H a0.2.1 v2)(hv3:AL cB H a0.2.2.1 v3)(hv4:AL Ar H a0.2.2.2 v4)(hG:El Tryz.prog H)(hd:DE fu a0=some r):
    Eg Tryz.prog 27 [(ptr B0 0)] H (.Az B0 (.cells #[v1,v2,v3,v4] 97 (0,0))::O) (fun v H' O'=> ∃r',(∃v5:Value,∃v6:Value,∃v7:Value,∃v8:Value,(.tuple #[])=v∧AL Ar H' r.1 v5∧AL (cL Ar) H' r.2.1 v6∧AL cB H' r.2.2.1 v7∧AL Ar H' r.2.2.2 v8∧ .Az B0 (.cells #[v5,v6,v7,v8] 97 (0,0))=r')∧r'::O=O'):=by
 intro w hs
 refine Bo Tryz.func27 rf rf rf ?_ hs
 clear hs w
 unfold DE at hd
 refine Wp.scope<|Wp.seq ?_
 obtain⟨ha1,hd⟩:=Al hd
 refine Wp.region<|Aa.op (Ab.move rf) rf<|Aa.op (Ab.move rf) rf<|Aa.op (Ab.nilCheck rf) rf<|Aa.op (Ab.A6 (o':=1) FC rf rf) rf<|Aa.op (Ab.Am (i:=0) (v:=v2) FH rf rf rf rf) rf ?_
 have hb1:=hv2.le
 refine Aa.op (Ab.len FH rf hv2.sl) rf<|Aa.MG (c:=Ar) (z:=0) (m:=a0.2.1.length) Cv DP rf rf ha1 (rf) rf rf rf fun v9 xs1 hq1=>Aa.op (Ab.nilCheck rf) rf<|Aa.op (Ab.A6 (o':=3) Ge rf rf) rf<|Aa.BU (i:=0) rf fun ho1=>Aa.Dc (i:=1) rf rf ho1 Eo rf (Nat.le_of_ble_eq_true rf) ?_
 refine Aa.own (O:=_::_::_) ?_ rf
 refine Aa.Ah<|Wp.seq<|Wp.sr<|Aa.op (Ab.move rf) rf<|Aa.op (Ab.nilCheck rf) rf<|Aa.op (Ab.A6 (o':=2) I8 rf rf) rf<|Aa.op (Ab.Am (i:=1) (v:=v3) KG rf rf rf rf) rf ?_
 have hb2:=hv3.le
 refine Aa.op (Ab.len KG rf hv3.sl) rf<|Aa.op (Ab.move rf) rf<|Aa.Ah<|Wp.block<|Wp.Bt (fun m LL HH OO=> ∃(l1:List Int),∃(k1:Nat),∃(v10:Value),∃(xs2:List Value),[(0,(ptr B0 0)),(24,v3),(25,(.int .i64 (a0.2.2.1.length:Int))),(26,(.int .i64 (k1:Int)))]=LL∧ .row v10 3 1 l1.length xs2:: .Az B0 (.cells #[v1,v2,v3,v10] 97 (0,0))::O=OO∧Ax m (fun p nx=>Ck fu a0 p.1 p.2 nx) (l1,k1)=some r∧Ap Ar HH l1 xs2) fu ⟨(List.replicate a0.2.1.length 0:List Int),0,v9,xs1,rf,rf,hd,hq1⟩ (Sub.of rf) ?_
 intro m1 L1 H1 O1 hl1 hI1
 obtain⟨l1,k1,v10,xs2,rfl,rfl,hd,hq2⟩:=hI1
 obtain⟨m2,nx1,rfl,hn1,hd⟩:=Bm hd
 replace hd:Ck fu a0 l1 k1 nx1=some r:=hd
 unfold Ck at hd
 refine Wp.sr<|Aa.op (Ab.lss rf rf) rf<|Aa.Ah<|Wp.seq ?_
 refine Wp.cond rf (fun hb3=>?_) (fun hb3=>?_)
 ·
  obtain⟨hb3,hd⟩:=bT hb3 hd
  refine Wp.skip<|At.Ae<|Wp.seq<|Wp.block<|Wp.seq ?_
  obtain⟨x1,hx1,hd⟩:=Ag hd
  have hx1_:=Aj hx1
  refine Wp.region<|Aa.op (Ab.move rf) rf ?_
  obtain⟨_,rfl,hc1⟩:=AL.get (hv3.mono hl1) hx1
  refine Aa.op (Ab.Bz KG JY rf (hv3.mono hl1).sl rf (Aj hx1)) rf<|Aa.op (Ab.HN u4 rf rf (hc1 0 _ rf)) rf<|Aa.op (Ab.assign rf) rf<|Aa.op (Ab.assign rf) rf<|Aa.Ah<|Wp.sr<|Aa.op (Ab.move rf) rf<|Aa.Ah ?_
  refine Wp.cond rf (fun hb4=>?_) (fun hb4=>?_)
  ·
   replace hd:=Gl hb4 hd
   obtain⟨x2,hx2,hd⟩:=Ag hd
   have hx2_:=Aj hx2
   refine Wp.region<|Aa.op (Ab.move rf) rf<|Aa.op (Ab.nilCheck rf) rf<|Aa.op (Ab.A6 (o':=3) Ge rf rf) rf<|Aa.op (Ab.Am (i:=1) (v:=v10) Cv rf rf rf rf) rf<|Aa.op (Ab.move rf) rf ?_
   obtain⟨_,rfl,hc2,hc2_⟩:=Ap.get hq2 (AX hx2).2
   refine Aa.op (Ab.Co (j:=0) Cv DP rf rf rf (Aj hx2)) rf ?_
   refine Aa.WB (q:=0) (off:=0) (vs:=[(.int .i64 1)]) (y:=1) (cs:=[(.int .i64 x2)]) hq2 hx2 hc2_ rf rf rf DP rf rf (Ac rf (An)) rf (rf) rf (fun xs3 hq3=>?_)
   refine Aa.nil<|At.AF<|At.Ae<|Wp.region<|Aa.op (Ab.add rf rf (Av (by omega))) rf<|Aa.op (Ab.move rf) rf<|Aa.nil ?_
   refine At.AZ (Hp.le.refl _) ⟨(l1.set k1 1),(k1+1),v10,xs3,rf,rf,(by rw[←hn1];exact hd),hq3⟩ (Sub.of rf)
  replace hd:=Gm hb4 hd
  refine Wp.skip<|At.AF<|At.Ae<|Wp.region<|Aa.op (Ab.add rf rf (Av (by omega))) rf<|Aa.op (Ab.move rf) rf<|Aa.nil ?_
  refine At.AZ (Hp.le.refl _) ⟨l1,(k1+1),v10,xs2,rf,rf,(by rw[←hn1];exact hd),hq2⟩ (Sub.of rf)
 obtain⟨hb3,hd⟩:=bF hb3 hd
 refine Wp.exit<|At.Ao<|At.Ao<|At.AB<|At.Ae<|Wp.sr<|Aa.op (Ab.assign rf) rf<|Aa.Ah ?_
 refine Wp.sr<|Aa.op (Ab.move rf) rf<|Aa.op (Ab.makeFunc (vf:=[(ptr B0 0)]) (vc:=[]) rf rf) rf<|Aa.op (Ab.assign rf) rf<|Aa.Ah<|Wp.seq<|Wp.label<|At.Ae ?_
 refine Wp.block<|Wp.Bt (fun m LL HH OO=> ∃(k2:Nat),∃(l2:List Int),∃(v11:Value),∃(xs4:List Value),[(0,(ptr B0 0)),(4,(.int .i64 (k2:Int))),(5,(.func (.func 46) #[(ptr B0 0)] #[]))]=LL∧ .row v11 3 1 l2.length xs4:: .Az B0 (.cells #[v1,v2,v3,v11] 97 (0,0))::O=OO∧Ax m (fun p nx=>CS fu a0 p.1 p.2 nx) (k2,l2)=some r∧Ap Ar HH l2 xs4) fu ⟨0,l1,v10,xs2,rf,rf,hd,hq2⟩ (Sub.of rf) ?_
 intro m3 L2 H2 O2 hl2 hI2
 obtain⟨k2,l2,v11,xs4,rfl,rfl,hd,hq4⟩:=hI2
 obtain⟨m4,nx2,rfl,hn2,hd⟩:=Bm hd
 replace hd:CS fu a0 k2 l2 nx2=some r:=hd
 unfold CS at hd
 refine Wp.block<|Wp.sr<|Aa.makeMap (Jt u9) (HJ u3) rf fun B2=>Aa.op (Ab.assign rf) rf<|Aa.Ah<|Wp.seq ?_
 obtain⟨ha2,hd⟩:=Al hd
 refine Wp.region<|Aa.op (Ab.move rf) rf<|Aa.op (Ab.nilCheck rf) rf<|Aa.op (Ab.A6 (o':=1) FC rf rf) rf<|Aa.op (Ab.Am (i:=2) (v:=v2) FH rf rf rf rf) rf ?_
 have hb5:=hv2.le
 refine Aa.op (Ab.len FH rf (hv2.mono (hl1.trans hl2)).sl) rf<|Aa.MG (c:=Ar) (z:=0) (m:=a0.2.1.length) Cv DP rf rf ha2 (rf) rf rf rf fun v12 xs5 hq5=>Aa.op (Ab.assign rf) rf<|Aa.Ah<|Wp.seq<|Wp.sr<|Aa.op (Ab.move rf) rf<|Aa.op (Ab.nilCheck rf) rf ?_
 refine Aa.op (Ab.A6 (o':=1) FC rf rf) rf<|Aa.op (Ab.Am (i:=3) (v:=v2) FH rf rf rf rf) rf ?_
 have hb6:=hv2.le
 refine Aa.op (Ab.len FH rf (hv2.mono (hl1.trans hl2)).sl) rf<|Aa.op (Ab.move rf) rf<|Aa.Ah<|Wp.block ?_
 refine Wp.Bk (i:=2) rf fun hb7=>?_
 refine Wp.freeze (i:=2) rf fun H3 hl3 hs1=>?_
 have hv5:=AL.of (c:=Ar) hs1 rfl (hq4.mono hl3) hb7
 refine Wp.Bt (fun m LL HH OO=> ∃(l3:List Int),∃(l4:List Int),∃(m5:List (BF×Int)),∃(k3:Nat),∃(v13:Value),∃(v14:Value),∃(xs6:List Value),[(0,(ptr B0 0)),(4,(.int .i64 (k2:Int))),(5,(.func (.func 46) #[(ptr B0 0)] #[])),(6,(.map (some B2))),(7,v14),(52,(.int .i64 (a0.2.1.length:Int))),(53,(.int .i64 (k3:Int)))]=LL∧ .row v14 3 1 l4.length xs6::DK (Jt u9) (HJ u3) B2 m5:: .Az B0 (.cells #[v1,v2,v3,v13] 97 (0,0))::O=OO∧Ax m (fun p nx=>Cf fu a0 k2 nx2 p.1 p.2.1 p.2.2.1 p.2.2.2 nx) (l3,l4,m5,k3)=some r∧AL Ar HH l3 v13∧Ap Ar HH l4 xs6) fu ⟨l2,(List.replicate a0.2.1.length 0:List Int),([]:List (BF×Int)),0,v11,v12,xs5,rf,rf,hd,hv5,(hq5.mono hl3)⟩ (Sub.of rf) ?_
 intro m6 L3 H4 O3 hl4 hI3
 obtain⟨l3,l4,m5,k3,v13,v14,xs6,rfl,rfl,hd,hv6,hq6⟩:=hI3
 obtain⟨m7,nx3,rfl,hn3,hd⟩:=Bm hd
 replace hd:Cf fu a0 k2 nx2 l3 l4 m5 k3 nx3=some r:=hd
 unfold Cf at hd
 refine Wp.sr<|Aa.op (Ab.lss rf rf) rf<|Aa.Ah<|Wp.seq ?_
 refine Wp.cond rf (fun hb8=>?_) (fun hb8=>?_)
 ·
  obtain⟨hb8,hd⟩:=bT hb8 hd
  refine Wp.skip<|At.Ae<|Wp.seq<|Wp.block<|Wp.sr<|Aa.op (Ab.move rf) rf<|Aa.op (Ab.assign rf) rf<|Aa.Ah ?_
  refine Wp.seq ?_
  obtain⟨x3,hx3,hd⟩:=Ag hd
  refine Wp.region<|Aa.op (Ab.move rf) rf<|Aa.op (Ab.move rf) rf<|Aa.op (Ab.Wn (first:=[(ptr B0 0)]) Yt rf rf (CB.at 2 rf (Ic (a0:=(a0.1,a0.2.1,a0.2.2.1,l3)) (hv1.mono (((hl1.trans hl2).trans hl3).trans hl4)) (hv2.mono (((hl1.trans hl2).trans hl3).trans hl4)) (hv3.mono (((hl1.trans hl2).trans hl3).trans hl4)) hv6 (hG.mono (((hl1.trans hl2).trans hl3).trans hl4)) hx3))) rf<|Aa.op (Ab.assign rf) rf<|Aa.Ah<|Wp.seq ?_
  obtain⟨ha3,hd⟩:=Al hd
  refine Wp.region<|Aa.op (Ab.move rf) rf<|Aa.op (Ab.move rf) rf<|Aa.op (Ab.LC (K:=(Jt u9)) (M:=(HJ u3)) (i:=1) (k:=x3) (z:=0) UL DP (show Dw 0 by decide) rf rf ha3 rf) rf<|Aa.op (Ab.move rf) rf<|Aa.op (Ab.extract rf rf) rf<|Aa.op (Ab.extract rf rf) rf<|Aa.op (Ab.assign rf) rf ?_
  refine Aa.op (Ab.assign rf) rf<|Aa.Ah<|Wp.seq<|Wp.sr<|Aa.op (Ab.move rf) rf<|Aa.op (Ab.not rf) rf<|Aa.Ah ?_
  refine Wp.Jx (fun LL HH OO=> ∃(m8:List (BF×Int)),∃(i1:Int),[(0,(ptr B0 0)),(4,(.int .i64 (k2:Int))),(5,(.func (.func 46) #[(ptr B0 0)] #[])),(6,(.map (some B2))),(7,v14),(8,(.int .i64 (k3:Int))),(10,(.int .i64 i1)),(52,(.int .i64 (a0.2.1.length:Int))),(53,(.int .i64 (k3:Int)))]=LL∧ .row v14 3 1 l4.length xs6::DK (Jt u9) (HJ u3) B2 m8:: .Az B0 (.cells #[v1,v2,v3,v13] 97 (0,0))::O=OO∧Ce fu l3 l4 k3 nx3 m8 i1=some r) ?_ ?_
  ·
   refine Wp.cond rf (fun hb9=>?_) (fun hb9=>?_)
   ·
    replace hd:=Gl hb9 hd
    refine Wp.sr<|Aa.op (Ab.move rf) rf<|Aa.op (Ab.Nw (K:=(Jt u9)) (M:=(HJ u3)) (i:=1) UL rf rf) rf<|Aa.op (Ab.assign rf) rf<|Aa.Ah ?_
    obtain⟨ha4,hd⟩:=Al hd
    obtain⟨ha5,hd⟩:=Al hd
    obtain⟨ha6,hd⟩:=Al hd
    refine Wp.region<|Aa.op (Ab.move rf) rf<|Aa.op (Ab.move rf) rf<|Aa.op (Ab.move rf) rf<|Aa.mapUpdate (K:=(Jt u9)) (M:=(HJ u3)) (k:=x3) (v:=(m5.length:Int)) 1 UL rf rf rf ha4 ha5 ha6 rf<|Aa.nil ?_
    refine At.EC (Hp.le.refl _) ⟨(Di m5 x3 (m5.length:Int)),(m5.length:Int),rf,rf,hd⟩ (Sub.of rf)
   replace hd:=Gm hb9 hd
   refine Wp.skip ?_
   refine At.EC (Hp.le.refl _) ⟨m5,((AA m5 x3).getD 0),rf,rf,hd⟩ (Sub.of rf)
  intro L4 H5 O4 hl5 hI4
  obtain⟨m8,i1,rfl,rfl,hd⟩:=hI4
  unfold Ce at hd
  obtain⟨x4,hx4,hd⟩:=Ag hd
  have hx4_:=Aj hx4
  refine Wp.region<|Aa.op (Ab.move rf) rf<|Aa.op (Ab.move rf) rf<|Aa.op (Ab.move rf) rf ?_
  obtain⟨_,rfl,hc3,hc3_⟩:=Ap.get (hq6.mono hl5) (AX hx4).2
  refine Aa.op (Ab.Co (j:=0) Cv DP rf rf rf (Aj hx4)) rf ?_
  refine Aa.WB (q:=0) (off:=0) (vs:=[(.int .i64 i1)]) (y:=i1) (cs:=[(.int .i64 x4)]) (hq6.mono hl5) hx4 hc3_ rf rf rf DP rf rf (Ac rf (An)) rf (rf) rf (fun xs7 hq7=>?_)
  refine Aa.nil<|At.AF<|At.Ae<|Wp.region<|Aa.op (Ab.add rf rf (Av (by omega))) rf<|Aa.op (Ab.move rf) rf<|Aa.nil ?_
  refine At.AZ hl5 ⟨l3,(l4.set k3 i1),m8,(k3+1),v13,v14,xs7,rf,rf,(by rw[←hn3];exact hd),(hv6.mono hl5),hq7⟩ (Sub.of rf)
 obtain⟨hb8,hd⟩:=bF hb8 hd
 refine Wp.exit<|At.Ao<|At.Ao<|At.AB<|At.Ae<|Wp.sr<|Aa.op (Ab.move rf) rf<|Aa.op (Ab.move rf) rf ?_
 refine Aa.op (Ab.nilCheck rf) rf<|Aa.op (Ab.A6 (o':=3) Ge rf rf) rf<|Aa.BU (i:=0) rf fun ho2=>Aa.Dc (i:=2) rf rf ho2 Eo rf (Nat.le_of_ble_eq_true rf) ?_
 refine Aa.own (O:=_::_::_::_) ?_ rf
 refine Aa.Ah<|Wp.seq<|Wp.sr<|Aa.op (Ab.move rf) rf<|Aa.op (Ab.Nw (K:=(Jt u9)) (M:=(HJ u3)) (i:=1) UL rf rf) rf<|Aa.op (Ab.move rf) rf<|Aa.op (Ab.eql rf rf) rf<|Aa.Ah ?_
 refine Wp.cond rf (fun hb10=>?_) (fun hb10=>?_)
 ·
  obtain⟨hb10,hd⟩:=bT hb10 hd
  refine Wp.exit<|At.Ao<|At.L8 rf<|At.Ao<|At.AB<|At.Zm ?_
  refine At.Bk (i:=0) rf fun hb11=>?_
  refine At.freeze (i:=0) rf fun H6 hl6 hs2=>?_
  have hv7:=AL.of (c:=Ar) hs2 rfl (hq6.mono hl6) hb11
  obtain rfl:=si hd
  exact At.IH rf (fun w hs=>⟨_,_,_,rf,((((hl1.trans hl2).trans hl3).trans hl4).trans hl6),(hs.AW [1] 2 rf rf rf),⟨_,⟨v1,v2,v3,v14,rf,(hv1.mono ((((hl1.trans hl2).trans hl3).trans hl4).trans hl6)),(hv2.mono ((((hl1.trans hl2).trans hl3).trans hl4).trans hl6)),(hv3.mono ((((hl1.trans hl2).trans hl3).trans hl4).trans hl6)),hv7,rf⟩,rf⟩⟩)
 obtain⟨hb10,hd⟩:=bF hb10 hd
 refine Wp.skip<|At.Ae<|Wp.region<|Aa.op (Ab.move rf) rf<|Aa.op (Ab.Nw (K:=(Jt u9)) (M:=(HJ u3)) (i:=1) UL rf rf) rf<|Aa.op (Ab.assign rf) rf<|Aa.nil<|At.AF ?_
 refine At.AW [0,2] 3 rf rf rf ?_
 refine At.AZ (hl3.trans hl4) ⟨m5.length,l4,v14,xs6,rf,rf,(by rw[←hn2];exact hd),hq6⟩ (Sub.of rf)
theorem FM{fu:Nat}{a0:List (Bool×(List (Int×Int×Int)))}{v1:Value}{r:(List (Bool×(List (Int×Int×Int))))×Int}(hv1:AL (cP cB (cL (cP A0 (cP A0 Ar)))) H a0 v1)(hG:El Tryz.prog H)(hd:DZ fu a0=some r):
   Eg Tryz.prog 13 [v1] H O (fun v H' O'=>(∃v2:Value,(.tuple #[(.agg #[v2]),(.int .i64 r.2)])=v∧AL (cP cB (cL (cP A0 (cP A0 Ar)))) H' r.1 v2)∧O=O'):=by
 intro w hs
 refine Bo Tryz.func13 rf rf rf ?_ hs
 clear hs w
 unfold DZ at hd
 refine Wp.sr<|Aa.alloc (cs:= #[(.slice none 0 0)]) A5 rf rf fun B2=>Aa.op (Ab.assign rf) rf<|Aa.Ah<|Wp.seq<|Wp.seq ?_
 obtain⟨x1,hx1,hd⟩:=Ag hd
 refine Wp.region<|Aa.op (Ab.move rf) rf<|Aa.op (Ab.call Wk rf (HD hv1 hx1)) rf<|Aa.op (Ab.not rf) rf<|Aa.Ah ?_
 refine Wp.cond rf (fun hb1=>?_) (fun hb1=>?_)
 ·
  replace hd:=Gl hb1 hd
  refine Wp.sr<|Aa.op (Ab.Bj (vs:=[]) (cs:= #[(.slice none 0 0)]) HB A5 rf rf (A8) rf) rf<|Aa.AM (i:=0) (cs':= #[(.slice none 0 0)]) rf rf A5 rf rf (Bd (Ac rf (An))) rf ?_
  refine Aa.own (O:=_::_) ?_ rf
  refine Aa.op (Ab.assign rf) rf<|Aa.Ah<|Wp.ret<|At.Au ?_
  obtain rfl:=si hd
  exact At.Mj rf (RV.CQ (i:=0) rf u32 rf A5 rf rf) (RV.tmp (v:=(.int .i64 11)) rf) (fun w hs=>⟨_,_,_,rf,(Hp.le.refl _),(hs.BW 1),⟨⟨(.slice none 0 0),rf,AL.nil⟩,rf⟩⟩)
 replace hd:=Gm hb1 hd
 refine Wp.skip<|At.Ae<|Wp.seq<|Wp.sr<|Aa.op (Ab.move rf) rf ?_
 have hb2:=hv1.le
 refine Aa.op (Ab.len C9 rf hv1.sl) rf<|Aa.op (Ab.eql rf rf) rf<|Aa.Ah ?_
 refine Wp.cond rf (fun hb3=>?_) (fun hb3=>?_)
 ·
  obtain⟨hb3,hd⟩:=bT hb3 hd
  refine Wp.sr<|Aa.op (Ab.Bj (vs:=[]) (cs:= #[(.slice none 0 0)]) HB A5 rf rf (A8) rf) rf<|Aa.AM (i:=0) (cs':= #[(.slice none 0 0)]) rf rf A5 rf rf (Bd (Ac rf (An))) rf ?_
  refine Aa.own (O:=_::_) ?_ rf
  refine Aa.op (Ab.assign rf) rf<|Aa.Ah<|Wp.ret<|At.Au ?_
  obtain rfl:=si hd
  exact At.Mj rf (RV.CQ (i:=0) rf u32 rf A5 rf rf) (RV.tmp (v:=(.int .i64 0)) rf) (fun w hs=>⟨_,_,_,rf,(Hp.le.refl _),(hs.BW 1),⟨⟨(.slice none 0 0),rf,AL.nil⟩,rf⟩⟩)
 obtain⟨hb3,hd⟩:=bF hb3 hd
 refine Wp.skip<|At.Ae<|Wp.seq ?_
 obtain⟨x2,hx2,hd⟩:=Ag hd
 refine Wp.region<|Aa.op (Ab.move rf) rf<|Aa.Fi (Bc.call YF rf (Mq hv1 hx2)) rf ?_
 rintro _ H1 _ hl1 ⟨B3,v3,v4,v5,v6,rfl,hv2,hv3,hv4,hv5,rfl⟩
 refine Aa.op (Ab.assign rf) rf<|Aa.Ah<|Wp.seq ?_
 obtain⟨x3,hx3,hd⟩:=Ag hd
 refine Wp.region<|Aa.op (Ab.move rf) rf<|Aa.Fi (Bc.call YE rf (Eg.at 0 rf (JM hv2 hv3 hv4 hv5 (hG.mono hl1) hx3))) rf ?_
 rintro _ H2 _ hl2 ⟨_,⟨v7,v8,v9,v10,rfl,hv6,hv7,hv8,hv9,rfl⟩,rfl⟩
 refine Aa.Ah<|Wp.seq ?_
 obtain⟨x4,hx4,hd⟩:=Ag hd
 refine Wp.region<|Aa.op (Ab.move rf) rf<|Aa.Fi (Bc.call YD rf (Eg.atR 0 rf (Ie hv6 hv7 hv8 hv9 hx4))) rf ?_
 rintro _ H3 _ hl3 ⟨⟨v11,rfl,hv10⟩,rfl⟩
 refine Aa.AM (i:=1) (cs':= #[v11]) rf rf A5 rf rf (Bd (Ac hv10.one (An))) rf ?_
 refine Aa.own (O:=_::_::_) ?_ rf
 refine Aa.op (Ab.assign rf) rf<|Aa.Ah<|Wp.ret ?_
 obtain rfl:=si hd
 exact At.Mj rf (RV.CQ (i:=1) rf u32 rf A5 rf rf) (RV.tmp (v:=(.int .i64 0)) rf) (fun w hs=>⟨_,_,_,rf,((hl1.trans hl2).trans hl3),(hs.BW 2),⟨⟨v11,rf,hv10⟩,rf⟩⟩)
theorem DY{fu:Nat}{a0:List (Bool×(List (Int×Int×Int)))}{v1:Value}{r:Bool}(hv1:AL (cP cB (cL (cP A0 (cP A0 Ar)))) H a0 v1)(hG:El Tryz.prog H)(hd:Fs fu a0=some r):
   CB Tryz.prog 10 [(.agg #[v1])] H O (.bool r):=by
 intro w hs
 refine Bo Tryz.func10 rf rf rf ?_ hs
 clear hs w
 unfold Fs at hd
 refine Wp.sr<|Aa.box (cs:= #[v1]) rf rf rf fun B2=>Aa.op (Ab.assign rf) rf<|Aa.Ah<|Wp.seq ?_
 obtain⟨x1,hx1,hd⟩:=Ag hd
 refine Wp.region<|Aa.op (Ab.A6 (o':=0) BO rf rf) rf<|Aa.op (Ab.Am (i:=0) (v:=v1) C9 rf rf rf rf) rf<|Aa.Fi (Bc.call QV rf (FM hv1 hG hx1)) rf ?_
 rintro _ H1 _ hl1 ⟨⟨v2,rfl,hv2⟩,rfl⟩
 refine Aa.op (Ab.move rf) rf<|Aa.op (Ab.extract rf rf) rf<|Aa.op (Ab.extract rf rf) rf<|Aa.alloc (cs:= #[(.slice none 0 0)]) A5 rf rf fun B3=>Aa.AM (i:=0) (cs':= #[v2]) rf rf A5 rf rf (Bd (Ac hv2.one (An))) rf ?_
 refine Aa.own (O:=_::_::_) ?_ rf
 refine Aa.op (Ab.assign rf) rf<|Aa.Ah<|Wp.seq ?_
 rcases Bool.eq_false_or_eq_true (decide (x1.2=0))with hg1|hg1
 ·
  obtain⟨hg1_,hd⟩:=bT hg1 hd
  obtain⟨x2,hx2,hd⟩:=Ag hd
  refine Wp.region<|Aa.op (Ab.move rf) rf<|Aa.op (Ab.BR (b:=decide (x1.2=0)) (c:=true) (Ab.eql rf rf) hg1) rf<|Aa.op (Ab.move rf) rf<|Aa.AQ rf rf (Ab.Aw (i:=1) u32 rf A5 rf rf rf) rf<|Aa.AQ rf rf (Ab.Aw (i:=0) u32 rf A5 rf rf rf) rf<|Aa.AQ rf rf (Ab.call YG rf (R6 (hv1.mono hl1) hv2 hx2)) rf<|Aa.op (Ab.AU rf rf) rf ?_
  refine Aa.op (Ab.assign rf) rf<|Aa.Ah<|Wp.ret ?_
  obtain rfl:=si hd
  exact At.q1 2 hl1 rf (RV.tmp rf) rf
 obtain⟨hg1_,hd⟩:=bF hg1 hd
 refine Wp.region<|Aa.op (Ab.move rf) rf<|Aa.op (Ab.BR (b:=decide (x1.2=0)) (c:=false) (Ab.eql rf rf) hg1) rf<|Aa.op (Ab.move rf) rf<|Aa.Ak rf rf rf rf<|Aa.Ak rf rf rf rf<|Aa.Ak rf rf rf rf<|Aa.op (Ab.AP rf rf) rf ?_
 refine Aa.op (Ab.assign rf) rf<|Aa.Ah<|Wp.ret ?_
 obtain rfl:=si hd
 exact At.q1 2 hl1 rf (RV.tmp rf) rf
theorem IQ{fu:Nat}{a0:(List (List Int))×(List (List (AD×Int×Int)))×Int}{v1 v2:Value}{B0:Nat}{r:List AD}(hv1:AL (cL Ar) H a0.1 v1)(hv2:AL (cL (cP KA (cP Ar Ar))) H a0.2.1 v2)(hd:EF fu a0=some r):
    Eg Tryz.prog 30 [(ptr B0 0)] H (.Az B0 (.cells #[v1,v2,(.int .i64 a0.2.2)] 55 (0,0))::O) (fun v H' O'=>(∃v3:Value,v3=v∧AL KA H' r v3)∧ .Az B0 (.cells #[v1,v2,(.int .i64 a0.2.2)] 55 (0,0))::O=O'):=by
 intro w hs
 refine Bo Tryz.func30 rf rf rf ?_ hs
 clear hs w
 unfold EF at hd
 refine Wp.sr<|Aa.op (Ab.assign rf) rf<|Aa.Ah<|Wp.sr<|Aa.op (Ab.assign rf) rf<|Aa.Ah<|Wp.seq<|Wp.sr ?_
 refine Aa.op (Ab.move rf) rf<|Aa.op (Ab.nilCheck rf) rf<|Aa.op (Ab.A6 (o':=1) Hu rf rf) rf<|Aa.op (Ab.Am (i:=0) (v:=v2) Rh rf rf rf rf) rf ?_
 have hb1:=hv2.le
 refine Aa.op (Ab.len Rh rf hv2.sl) rf<|Aa.op (Ab.move rf) rf<|Aa.Ah<|Wp.block<|Wp.Cb 24 4<|Wp.Bt (fun m LL HH OO=> ∃(l1:List AD),∃(k1:Nat),∃(v4:Value),∃(xs1:List Value),[(3,v4),(11,v2),(12,(.int .i64 (a0.2.1.length:Int))),(13,(.int .i64 (k1:Int)))]=LL∧ .row v4 24 4 l1.length xs1:: .Az B0 (.cells #[v1,v2,(.int .i64 a0.2.2)] 55 (0,0))::O=OO∧Ax m (fun p nx=>Dn fu a0 p.1 p.2 nx) (l1,k1)=some r∧Ap KA HH l1 xs1) fu ⟨([]:List AD),0,(.slice none 0 0),[],rf,rf,hd,(Ap.nil (c:=KA) (H:=H))⟩ (Sub.of rf) ?_
 intro m1 L1 H1 O1 hl1 hI1
 obtain⟨l1,k1,v4,xs1,rfl,rfl,hd,hq1⟩:=hI1
 obtain⟨m2,nx1,rfl,hn1,hd⟩:=Bm hd
 replace hd:Dn fu a0 l1 k1 nx1=some r:=hd
 unfold Dn at hd
 refine Wp.sr<|Aa.op (Ab.lss rf rf) rf<|Aa.Ah<|Wp.seq ?_
 refine Wp.cond rf (fun hb2=>?_) (fun hb2=>?_)
 ·
  obtain⟨hb2,hd⟩:=bT hb2 hd
  refine Wp.skip<|At.Ae<|Wp.seq<|Wp.block<|Wp.seq ?_
  obtain⟨x1,hx1,hd⟩:=Ag hd
  have hx1_:=Aj hx1
  refine Wp.region ?_
  obtain⟨_,⟨v5,rfl,hv3⟩,hc1⟩:=AL.get (hv2.mono hl1) hx1
  refine Aa.op (Ab.Bz Rh N5 rf (hv2.mono hl1).sl rf (Aj hx1)) rf<|Aa.op (Ab.HN Sb rf rf (hc1 0 _ rf)) rf<|Aa.op (Ab.assign rf) rf<|Aa.Ah<|Wp.sr<|Aa.op (Ab.move rf) rf ?_
  have hb3:=hv3.le
  refine Aa.op (Ab.len Sb rf hv3.sl) rf<|Aa.op (Ab.move rf) rf<|Aa.Ah<|Wp.block<|Wp.Bt (fun m LL HH OO=> ∃(l2:List AD),∃(k2:Nat),∃(v6:Value),∃(xs2:List Value),[(3,v6),(11,v2),(12,(.int .i64 (a0.2.1.length:Int))),(13,(.int .i64 (k1:Int))),(17,v5),(18,(.int .i64 (x1.length:Int))),(19,(.int .i64 (k2:Int)))]=LL∧ .row v6 24 4 l2.length xs2:: .Az B0 (.cells #[v1,v2,(.int .i64 a0.2.2)] 55 (0,0))::O=OO∧Ax m (fun p nx=>Dm fu k1 nx1 x1 p.1 p.2 nx) (l2,k2)=some r∧Ap KA HH l2 xs2) fu ⟨l1,0,v4,xs1,rf,rf,hd,hq1⟩ (Sub.of rf) ?_
  intro m3 L2 H2 O2 hl2 hI2
  obtain⟨l2,k2,v6,xs2,rfl,rfl,hd,hq2⟩:=hI2
  obtain⟨m4,nx2,rfl,hn2,hd⟩:=Bm hd
  replace hd:Dm fu k1 nx1 x1 l2 k2 nx2=some r:=hd
  unfold Dm at hd
  refine Wp.sr<|Aa.op (Ab.lss rf rf) rf<|Aa.Ah<|Wp.seq ?_
  refine Wp.cond rf (fun hb4=>?_) (fun hb4=>?_)
  ·
   obtain⟨hb4,hd⟩:=bT hb4 hd
   refine Wp.skip<|At.Ae<|Wp.seq<|Wp.block<|Wp.seq ?_
   obtain⟨x2,hx2,hd⟩:=Ag hd
   have hx2_:=Aj hx2
   refine Wp.region ?_
   obtain⟨_,⟨_,_,rfl,rfl,⟨_,_,rfl,rfl,rfl⟩⟩,hc2⟩:=AL.get (hv3.mono hl2) hx2
   refine Aa.op (Ab.Bz Sb IW rf (hv3.mono hl2).sl rf (Aj hx2)) rf<|Aa.op (Ab.DA (vs:=[(Ad (word x2.1 0)),(Ad (word x2.1 1)),(Ad (word x2.1 2)),(Ad (word x2.1 3)),(.int .i64 x2.2.1),(.int .i64 x2.2.2)]) Y8 rf IW rf rf (fun j u hj=>(hc2 j u hj))) rf<|Aa.alloc (cs:= #[(Ad (word (fun _=>false) 0)),(Ad (word (fun _=>false) 1)),(Ad (word (fun _=>false) 2)),(Ad (word (fun _=>false) 3)),(.int .i64 0),(.int .i64 0)]) IW (by simp only[zw];rfl) rf fun B2=>Aa.AM (i:=0) (cs':= #[(Ad (word x2.1 0)),(Ad (word x2.1 1)),(Ad (word x2.1 2)),(Ad (word x2.1 3)),(.int .i64 x2.2.1),(.int .i64 x2.2.2)]) rf rf IW rf rf (Bd (Ac rf (Ac rf (Ac rf (Ac rf (Ac rf (Ac rf (An)))))))) rf ?_
   refine Aa.own (O:=_::_::_::_) ?_ rf
   refine Aa.Ah ?_
   obtain⟨ha1,hd⟩:=Al hd
   refine Wp.region<|Aa.op (Ab.move rf) rf<|Aa.op (Ab.A6 (o':=0) PO rf rf) rf<|Aa.op (Ab.Ga (i:=0) (vs:=[(Ad (word x2.1 0)),(Ad (word x2.1 1)),(Ad (word x2.1 2)),(Ad (word x2.1 3))]) K1 rf Bu rf rf rf) rf<|Aa.Bv (c:=KA) (y:=x2.1) (cs:=[(Ad (word x2.1 0)),(Ad (word x2.1 1)),(Ad (word x2.1 2)),(Ad (word x2.1 3))]) Xx Bu rf rf rf rf (rf) rf fun v7 xs3 hq3=>Aa.Hz (i:=2) (j:=0) hq2 hq3 Xx Bu rf (by decide) rf rf rf rf (by decide) ha1 rf fun v8 xs4 hq4=>Aa.drop (i:=0)<|Aa.op (Ab.assign rf) rf ?_
   refine Aa.nil<|At.AF<|At.Ae<|Wp.region<|Aa.op (Ab.add rf rf (Av (by omega))) rf<|Aa.op (Ab.move rf) rf<|Aa.nil<|At.AW [1,2] 3 rf rf rf ?_
   refine At.AZ (Hp.le.refl _) ⟨(l2++([x2.1]:List AD)),(k2+1),v8,xs4,rf,rf,(by rw[←hn2];exact hd),hq4⟩ (Sub.of rf)
  obtain⟨hb4,hd⟩:=bF hb4 hd
  refine Wp.exit<|At.Ao<|At.Ao<|At.AB<|At.AF<|At.Ae<|Wp.region<|Aa.op (Ab.add rf rf (Av (by omega))) rf ?_
  refine Aa.op (Ab.move rf) rf<|Aa.nil ?_
  refine At.AZ hl2 ⟨l2,(k1+1),v6,xs2,rf,rf,(by rw[←hn1];exact hd),hq2⟩ (Sub.of rf)
 obtain⟨hb2,hd⟩:=bF hb2 hd
 refine Wp.exit<|At.Ao<|At.Ao<|At.AB<|At.Ae<|Wp.sr<|Aa.op (Ab.move rf) rf<|Aa.op (Ab.assign rf) rf ?_
 refine Aa.Ah<|Wp.ret ?_
 refine At.Bk (i:=0) rf fun hb5=>?_
 refine At.freeze (i:=0) rf fun H3 hl3 hs1=>?_
 have hv4:=AL.of (c:=KA) hs1 rfl (hq1.mono hl3) hb5
 obtain rfl:=si hd
 exact At.C_ rf (RV.tmp (v:=v4) rf) (fun w hs=>⟨_,_,_,rf,(hl1.trans hl3),(hs.AW [0] 1 rf rf rf),⟨⟨v4,rf,hv4⟩,rf⟩⟩)
theorem D9{fu:Nat}{a0:(List (List Int))×(List (List (AD×Int×Int)))×Int}{a1:List Int}{v1 v2 v3:Value}{xs1:List Value}{B0:Nat}{r:List Int}(hv1:AL (cL Ar) H a0.1 v1)(hv2:AL (cL (cP KA (cP Ar Ar))) H a0.2.1 v2)(hq1:Ap Ar H a1 xs1)(hd:Cu fu a0 a1=some r):
    Eg Tryz.prog 31 [(ptr B0 0),v3] H (.Az B0 (.cells #[v1,v2,(.int .i64 a0.2.2)] 55 (0,0)):: .row v3 3 1 a1.length xs1::O) (fun v H' O'=>(∃v4:Value,v4=v∧AL Ar H' r v4)∧ .Az B0 (.cells #[v1,v2,(.int .i64 a0.2.2)] 55 (0,0))::O=O'):=by
 intro w hs
 refine Bo Tryz.func31 rf rf rf ?_ hs
 clear hs w
 unfold Cu at hd
 refine Wp.sr<|Aa.op (Ab.assign rf) rf<|Aa.Ah<|Wp.seq ?_
 obtain⟨ha1,hd⟩:=Al hd
 refine Wp.region<|Aa.op (Ab.move rf) rf<|Aa.op (Ab.nilCheck rf) rf<|Aa.op (Ab.A6 (o':=1) Hu rf rf) rf<|Aa.op (Ab.Am (i:=0) (v:=v2) Rh rf rf rf rf) rf ?_
 have hb1:=hv2.le
 refine Aa.op (Ab.len Rh rf hv2.sl) rf<|Aa.MG (c:=cB) (z:=false) (m:=a0.2.1.length) KG JY rf rf ha1 (rf) rf rf rf fun v5 xs2 hq2=>Aa.op (Ab.assign rf) rf<|Aa.Ah<|Wp.seq<|Wp.block<|Wp.Bt (fun m LL HH OO=> ∃(l1:List Int),∃(l2:List Bool),∃(v6:Value),∃(xs3:List Value),∃(v7:Value),∃(xs4:List Value),[(0,(ptr B0 0)),(1,v6),(5,v7)]=LL∧ .row v7 4 1 l2.length xs4:: .Az B0 (.cells #[v1,v2,(.int .i64 a0.2.2)] 55 (0,0)):: .row v6 3 1 l1.length xs3::O=OO∧Ax m (fun p nx=>C5 fu a0 p.1 p.2 nx) (l1,l2)=some r∧Ap Ar HH l1 xs3∧Ap cB HH l2 xs4) fu ⟨a1,(List.replicate a0.2.1.length false:List Bool),v3,xs1,v5,xs2,rf,rf,hd,hq1,hq2⟩ (Sub.of rf) ?_
 intro m1 L1 H1 O1 hl1 hI1
 obtain⟨l1,l2,v6,xs3,v7,xs4,rfl,rfl,hd,hq3,hq4⟩:=hI1
 obtain⟨m2,nx1,rfl,hn1,hd⟩:=Bm hd
 replace hd:C5 fu a0 l1 l2 nx1=some r:=hd
 unfold C5 at hd
 refine Wp.seq<|Wp.sr<|Aa.op (Ab.move rf) rf ?_
 refine Aa.Bk (i:=2) rf fun hb2=>?_
 refine Aa.op (Ab.CW (i:=2) Cv rf rf) rf<|Aa.op (Ab.gtr rf rf) rf<|Aa.Ah ?_
 refine Wp.cond rf (fun hb3=>?_) (fun hb3=>?_)
 ·
  obtain⟨hb3,hd⟩:=bT hb3 hd
  refine Wp.skip<|At.Ae<|Wp.block<|Wp.seq ?_
  obtain⟨ha2,hd⟩:=Al hd
  obtain⟨x1,hx1,hd⟩:=Ag hd
  have hx1_:=Aj hx1
  refine Wp.region<|Aa.op (Ab.move rf) rf<|Aa.op (Ab.move rf) rf ?_
  refine Aa.Bk (i:=2) rf fun hb4=>?_
  refine Aa.op (Ab.CW (i:=2) Cv rf rf) rf<|Aa.op (Ab.sub rf rf (Av ha2)) rf ?_
  obtain⟨_,rfl,hc1,hc1_⟩:=Ap.get hq3 (AX hx1).2
  refine Aa.op (Ab.Co (j:=2) Cv DP rf rf rf (Aj hx1)) rf<|Aa.op (Ab.EX (i:=2) (k:=(((l1.length:Int)-1).toNat)*1+0) u3 rf rf rf (hc1 0 _ rf)) rf<|Aa.op (Ab.assign rf) rf<|Aa.Ah<|Wp.seq ?_
  obtain⟨ha3,hd⟩:=Al hd
  obtain⟨ha4,hd⟩:=Al hd
  refine Wp.region<|Aa.op (Ab.move rf) rf<|Aa.op (Ab.move rf) rf ?_
  refine Aa.Bk (i:=2) rf fun hb5=>?_
  refine Aa.op (Ab.CW (i:=2) Cv rf rf) rf<|Aa.op (Ab.sub rf rf (Av ha3)) rf<|Aa.PA (c:=Ar) 2 hq3 Cv DP rf rf rf ha4 rf fun v8 xs5 hq5=>Aa.op (Ab.assign rf) rf<|Aa.Ah<|Wp.seq ?_
  obtain⟨x2,hx2,hd⟩:=Ag hd
  have hx2_:=Aj hx2
  refine Wp.region<|Aa.op (Ab.move rf) rf<|Aa.op (Ab.move rf) rf ?_
  obtain⟨_,rfl,hc2,hc2_⟩:=Ap.get hq4 (AX hx2).2
  refine Aa.op (Ab.Co (j:=0) KG JY rf rf rf (Aj hx2)) rf<|Aa.op (Ab.EX (i:=0) (k:=x1.toNat*1+0) u4 rf rf rf (hc2 0 _ rf)) rf<|Aa.op (Ab.not rf) rf<|Aa.Ah ?_
  refine Wp.cond rf (fun hb6=>?_) (fun hb6=>?_)
  ·
   replace hd:=Gl hb6 hd
   refine Wp.seq ?_
   obtain⟨x3,hx3,hd⟩:=Ag hd
   have hx3_:=Aj hx3
   refine Wp.region<|Aa.op (Ab.move rf) rf<|Aa.op (Ab.move rf) rf ?_
   obtain⟨_,rfl,hc3,hc3_⟩:=Ap.get hq4 (AX hx3).2
   refine Aa.op (Ab.Co (j:=0) KG JY rf rf rf (Aj hx3)) rf ?_
   refine Aa.WB (q:=0) (off:=0) (vs:=[(.bool true)]) (y:=true) (cs:=[(.bool x3)]) hq4 hx3 hc3_ rf rf rf JY rf rf (Ac rf (An)) rf (rf) rf (fun xs6 hq6=>?_)
   refine Aa.Ah ?_
   obtain⟨x4,hx4,hd⟩:=Ag hd
   have hx4_:=Aj hx4
   obtain⟨ha5,hd⟩:=Al hd
   refine Wp.region<|Aa.op (Ab.move rf) rf<|Aa.op (Ab.move rf) rf<|Aa.op (Ab.nilCheck rf) rf<|Aa.op (Ab.A6 (o':=0) Hv rf rf) rf<|Aa.op (Ab.Am (i:=1) (v:=v1) FH rf rf rf rf) rf<|Aa.op (Ab.move rf) rf ?_
   obtain⟨_,⟨v9,rfl,hv3⟩,hc4⟩:=AL.get (hv1.mono hl1) hx4
   refine Aa.op (Ab.Bz FH Eo rf (hv1.mono hl1).sl rf (Aj hx4)) rf<|Aa.op (Ab.HN Cv rf rf (hc4 0 _ rf)) rf<|Aa.YP (i:=2) hq5 hv3 Cv DP rf (by decide) rf rf rf (by decide) ha5 rf fun v10 xs7 hq7=>Aa.op (Ab.assign rf) rf<|Aa.nil<|At.AF ?_
   refine At.AZ (Hp.le.refl _) ⟨((l1.take ((l1.length:Int)-1).toNat)++x4),(l2.set x1.toNat true),v10,xs7,v7,xs6,rf,rf,(by rw[←hn1];exact hd),hq7,hq6⟩ (Sub.of rf)
  replace hd:=Gm hb6 hd
  refine Wp.skip<|At.AF ?_
  refine At.AZ (Hp.le.refl _) ⟨(l1.take ((l1.length:Int)-1).toNat),l2,v8,xs5,v7,xs4,rf,rf,(by rw[←hn1];exact hd),hq5,hq4⟩ (Sub.of rf)
 obtain⟨hb3,hd⟩:=bF hb3 hd
 refine Wp.exit<|At.Ao<|At.Ao<|At.AB<|At.Ae<|Wp.sr<|Aa.op (Ab.assign rf) rf<|Aa.Ah ?_
 refine Wp.seq<|Wp.sr<|Aa.op (Ab.move rf) rf ?_
 refine Aa.Bk (i:=0) rf fun hb7=>?_
 refine Aa.op (Ab.CW (i:=0) KG rf rf) rf<|Aa.op (Ab.move rf) rf<|Aa.Ah<|Wp.block<|Wp.Cb 3 1<|Wp.Bt (fun m LL HH OO=> ∃(l3:List Int),∃(k1:Nat),∃(v11:Value),∃(xs8:List Value),[(7,v11),(47,v7),(48,(.int .i64 (l2.length:Int))),(49,(.int .i64 (k1:Int)))]=LL∧ .row v11 3 1 l3.length xs8:: .row v7 4 1 l2.length xs4:: .Az B0 (.cells #[v1,v2,(.int .i64 a0.2.2)] 55 (0,0)):: .row v6 3 1 l1.length xs3::O=OO∧Ax m (fun p nx=>Cy fu l2 p.1 p.2 nx) (l3,k1)=some r∧Ap Ar HH l3 xs8) fu ⟨([]:List Int),0,(.slice none 0 0),[],rf,rf,hd,(Ap.nil (c:=Ar) (H:=H1))⟩ (Sub.of rf) ?_
 intro m3 L2 H2 O2 hl2 hI2
 obtain⟨l3,k1,v11,xs8,rfl,rfl,hd,hq8⟩:=hI2
 obtain⟨m4,nx2,rfl,hn2,hd⟩:=Bm hd
 replace hd:Cy fu l2 l3 k1 nx2=some r:=hd
 unfold Cy at hd
 refine Wp.sr<|Aa.op (Ab.lss rf rf) rf<|Aa.Ah<|Wp.seq ?_
 refine Wp.cond rf (fun hb8=>?_) (fun hb8=>?_)
 ·
  obtain⟨hb8,hd⟩:=bT hb8 hd
  refine Wp.skip<|At.Ae<|Wp.seq<|Wp.block<|Wp.seq ?_
  obtain⟨x5,hx5,hd⟩:=Ag hd
  have hx5_:=Aj hx5
  refine Wp.region<|Aa.op (Ab.move rf) rf ?_
  obtain⟨_,rfl,hc5,hc5_⟩:=Ap.get (hq4.mono hl2) (AX hx5).2
  refine Aa.op (Ab.Co (j:=1) KG JY rf rf rf (Aj hx5)) rf<|Aa.op (Ab.EX (i:=1) (k:=k1*1+0) u4 rf rf rf (hc5 0 _ rf)) rf<|Aa.op (Ab.assign rf) rf<|Aa.op (Ab.assign rf) rf<|Aa.Ah<|Wp.sr<|Aa.op (Ab.move rf) rf<|Aa.Ah ?_
  refine Wp.cond rf (fun hb9=>?_) (fun hb9=>?_)
  ·
   replace hd:=Gl hb9 hd
   obtain⟨ha6,hd⟩:=Al hd
   refine Wp.region<|Aa.op (Ab.move rf) rf<|Aa.op (Ab.move rf) rf<|Aa.Bv (c:=Ar) (y:=(k1:Int)) (cs:=[(.int .i64 (k1:Int))]) Cv DP rf rf rf rf (rf) rf fun v12 xs9 hq9=>Aa.Hz (i:=1) (j:=0) hq8 hq9 Cv DP rf (by decide) rf rf rf rf (by decide) ha6 rf fun v13 xs10 hq10=>Aa.drop (i:=0)<|Aa.op (Ab.assign rf) rf<|Aa.nil ?_
   refine At.AF<|At.Ae<|Wp.region<|Aa.op (Ab.add rf rf (Av (by omega))) rf<|Aa.op (Ab.move rf) rf<|Aa.nil ?_
   refine At.AZ (Hp.le.refl _) ⟨(l3++([(k1:Int)]:List Int)),(k1+1),v13,xs10,rf,rf,(by rw[←hn2];exact hd),hq10⟩ (Sub.of rf)
  replace hd:=Gm hb9 hd
  refine Wp.skip<|At.AF<|At.Ae<|Wp.region<|Aa.op (Ab.add rf rf (Av (by omega))) rf<|Aa.op (Ab.move rf) rf<|Aa.nil ?_
  refine At.AZ (Hp.le.refl _) ⟨l3,(k1+1),v11,xs8,rf,rf,(by rw[←hn2];exact hd),hq8⟩ (Sub.of rf)
 obtain⟨hb8,hd⟩:=bF hb8 hd
 refine Wp.exit<|At.Ao<|At.Ao<|At.AB<|At.Ae<|Wp.sr<|Aa.op (Ab.move rf) rf<|Aa.op (Ab.assign rf) rf ?_
 refine Aa.Ah<|Wp.ret ?_
 refine At.Bk (i:=0) rf fun hb10=>?_
 refine At.freeze (i:=0) rf fun H3 hl3 hs1=>?_
 have hv4:=AL.of (c:=Ar) hs1 rfl (hq8.mono hl3) hb10
 obtain rfl:=si hd
 exact At.C_ rf (RV.tmp (v:=v11) rf) (fun w hs=>⟨_,_,_,rf,((hl1.trans hl2).trans hl3),(hs.AW [1] 3 rf rf rf),⟨⟨v11,rf,hv4⟩,rf⟩⟩)
theorem L9{fu:Nat}{a0:List Int}{v1:Value}{r:BF}(hv1:AL Ar H a0 v1)(hG:El Tryz.prog H)(hd:Jb fu a0=some r):
   CB Tryz.prog 35 [v1] H O (sv r):=by
 intro w hs
 refine Bo Tryz.func35 rf rf rf ?_ hs
 clear hs w
 unfold Jb at hd
 refine Wp.sr<|Aa.op (Ab.assign rf) rf<|Aa.Ah<|Wp.sr<|Aa.alloc (cs:= #[.pointer none, .slice none 0 0]) V6 rf rf fun B2=>Aa.Cb 5 1 ?_
 have hB4:Ih H B2 (.pointer none) (.slice none 0 0) [] []:=Ih.new
 refine Aa.Ah<|Wp.seq<|Wp.sr<|Aa.op (Ab.move rf) rf ?_
 have hb1:=hv1.le
 refine Aa.op (Ab.len Cv rf hv1.sl) rf<|Aa.op (Ab.move rf) rf<|Aa.Ah<|Wp.block<|Wp.Bt (fun m LL HH OO=> ∃(l1:BF),∃(k1:Nat),∃(a30:Value),∃(v2:Value),∃(xs1:List Value),[(3,(ptr B2 0)),(6,v1),(7,(.int .i64 (a0.length:Int))),(8,(.int .i64 (k1:Int)))]=LL∧ .row v2 5 1 l1.length xs1:: .Az B2 (.cells #[a30,v2] 112 (0,0))::O=OO∧Ax m (fun p nx=>FQ fu a0 p.1 p.2 nx) (l1,k1)=some r∧Ih HH B2 a30 v2 l1 xs1) fu ⟨([]:BF),0,(.pointer none),(.slice none 0 0),[],rf,rf,hd,hB4⟩ (Sub.of rf) ?_
 intro m1 L1 H1 O1 hl1 hI1
 obtain⟨l1,k1,a30,v2,xs1,rfl,rfl,hd,hB42⟩:=hI1
 obtain⟨m2,nx1,rfl,hn1,hd⟩:=Bm hd
 replace hd:FQ fu a0 l1 k1 nx1=some r:=hd
 unfold FQ at hd
 refine Wp.sr<|Aa.op (Ab.lss rf rf) rf<|Aa.Ah<|Wp.seq ?_
 refine Wp.cond rf (fun hb2=>?_) (fun hb2=>?_)
 ·
  obtain⟨hb2,hd⟩:=bT hb2 hd
  refine Wp.skip<|At.Ae<|Wp.seq<|Wp.block<|Wp.seq ?_
  obtain⟨x1,hx1,hd⟩:=Ag hd
  have hx1_:=Aj hx1
  refine Wp.region ?_
  obtain⟨_,rfl,hc1⟩:=AL.get (hv1.mono hl1) hx1
  refine Aa.op (Ab.Bz Cv DP rf (hv1.mono hl1).sl rf (Aj hx1)) rf<|Aa.op (Ab.HN u3 rf rf (hc1 0 _ rf)) rf<|Aa.op (Ab.assign rf) rf<|Aa.Ah ?_
  obtain⟨ha1,hd⟩:=Al hd
  obtain⟨ha2,hd⟩:=Al hd
  obtain⟨ha3,hd⟩:=Al hd
  refine Wp.region<|Aa.op (Ab.move rf) rf<|Aa.op (Ab.call TX rf (TG (hG.mono hl1) ha1)) rf<|Aa.op (Ab.Ue rf rf ha2) rf<|Aa.AW [1,0] 2 rf rf rf<|Aa.Fi (Bc.call TY rf (Uh hB42 ha3)) rf ?_
  rintro _ H2 _ hl2 ⟨v3,xs2,rfl,hB63,rfl⟩
  refine Aa.nil<|At.AF<|At.Ae<|Wp.region<|Aa.op (Ab.add rf rf (Av (by omega))) rf<|Aa.op (Ab.move rf) rf<|Aa.nil<|At.AW [1,0] 2 rf rf rf ?_
  refine At.AZ hl2 ⟨(l1++((Lib.itoa x1)++([44]:BF))),(k1+1),(ptr B2 0),v3,xs2,rf,rf,(by rw[←hn1];exact hd),hB63⟩ (Sub.of rf)
 obtain⟨hb2,hd⟩:=bF hb2 hd
 refine Wp.exit<|At.Ao<|At.Ao<|At.AB<|At.Ae<|Wp.sr<|Aa.AW [1,0] 2 rf rf rf<|Aa.Fi (Bc.call We rf (Wo hB42)) rf ?_
 rintro _ H3 _ hl3 ⟨rfl,rfl⟩
 refine Aa.op (Ab.assign rf) rf<|Aa.Ah<|Wp.ret ?_
 obtain rfl:=si hd
 exact At.q1 0 (hl1.trans hl3) rf (RV.tmp rf) rf
theorem Mp{fu:Nat}{a0:(List (List Int))×(List (List (AD×Int×Int)))×Int}{a1:Int}{v1 v2:Value}{B0:Nat}{r:Bool}(hv1:AL (cL Ar) H a0.1 v1)(hv2:AL (cL (cP KA (cP Ar Ar))) H a0.2.1 v2)(hG:El Tryz.prog H)(hd:EG fu a0 a1=some r):
    CB Tryz.prog 19 [(ptr B0 0),(.int .i64 a1)] H (.Az B0 (.cells #[v1,v2,(.int .i64 a0.2.2)] 55 (0,0))::O) (.bool r):=by
 intro w hs
 refine Bo Tryz.func19 rf rf rf ?_ hs
 clear hs w
 unfold EG at hd
 refine Wp.sr<|Aa.op (Ab.assign rf) rf<|Aa.Ah<|Wp.seq ?_
 obtain⟨x1,hx1,hd⟩:=Ag hd
 obtain⟨ha1,hd⟩:=Al hd
 refine Wp.region<|Aa.op (Ab.move rf) rf<|Aa.Fi (Bc.call Wi rf (Eg.atR 0 rf (IQ hv1 hv2 hx1))) rf ?_
 rintro _ H1 _ hl1 ⟨⟨v3,rfl,hv3⟩,rfl⟩
 refine Aa.Fi (Bc.call Wj rf (Nd hv3 ha1)) rf ?_
 rintro _ H2 _ hl2 ⟨⟨v4,rfl,hv4⟩,rfl⟩
 refine Aa.op (Ab.assign rf) rf<|Aa.Ah<|Wp.sr<|Aa.makeMap (Jt u9) (Vj u4) rf fun B2=>Aa.op (Ab.assign rf) rf<|Aa.Ah<|Wp.seq ?_
 obtain⟨x2,hx2,hd⟩:=Ag hd
 refine Wp.region<|Aa.op (Ab.move rf) rf<|Aa.op (Ab.move rf) rf<|Aa.Bv (c:=Ar) (y:=a1) (cs:=[(.int .i64 a1)]) Cv DP rf rf rf rf (rf) rf fun v5 xs1 hq1=>Aa.AW [2,0,1] 3 rf rf rf<|Aa.Fi (Bc.call QR rf (D9 (hv1.mono (hl1.trans hl2)) (hv2.mono (hl1.trans hl2)) hq1 hx2)) rf ?_
 rintro _ H3 _ hl3 ⟨⟨v6,rfl,hv5⟩,rfl⟩
 refine Aa.Bv (c:=(cL Ar)) (y:=x2) (cs:=[v6]) FH Eo rf rf rf (Ef hv5.one) (⟨_,rf,hv5⟩) rf fun v7 xs2 hq2=>Aa.op (Ab.assign rf) rf<|Aa.Ah<|Wp.seq<|Wp.sr<|Aa.op (Ab.assign rf) rf<|Aa.Ah<|Wp.block ?_
 refine Wp.Bt (fun m LL HH OO=> ∃(l1:List (List Int)),∃(m1:List (BF×Bool)),∃(k1:Nat),∃(v8:Value),∃(xs3:List Value),[(0,(ptr B0 0)),(5,v4),(6,(.map (some B2))),(7,v8),(8,(.int .i64 (k1:Int)))]=LL∧ .row v8 65 1 l1.length xs3:: .Az B0 (.cells #[v1,v2,(.int .i64 a0.2.2)] 55 (0,0))::DK (Jt u9) (Vj u4) B2 m1::O=OO∧Ax m (fun p nx=>DX fu a0 x1 p.1 p.2.1 p.2.2 nx) (l1,m1,k1)=some r∧Ap (cL Ar) HH l1 xs3) fu ⟨([x2]:List (List Int)),([]:List (BF×Bool)),0,v7,xs2,rf,rf,hd,hq2⟩ (Sub.of rf) ?_
 intro m2 L1 H4 O1 hl4 hI1
 obtain⟨l1,m1,k1,v8,xs3,rfl,rfl,hd,hq3⟩:=hI1
 obtain⟨m3,nx1,rfl,hn1,hd⟩:=Bm hd
 replace hd:DX fu a0 x1 l1 m1 k1 nx1=some r:=hd
 unfold DX at hd
 refine Wp.seq<|Wp.sr<|Aa.op (Ab.move rf) rf<|Aa.op (Ab.move rf) rf ?_
 refine Aa.Bk (i:=0) rf fun hb1=>?_
 refine Aa.op (Ab.CW (i:=0) FH rf rf) rf<|Aa.op (Ab.lss rf rf) rf<|Aa.Ah ?_
 refine Wp.cond rf (fun hb2=>?_) (fun hb2=>?_)
 ·
  obtain⟨hb2,hd⟩:=bT hb2 hd
  refine Wp.skip<|At.Ae<|Wp.seq<|Wp.block<|Wp.sr<|Aa.op (Ab.move rf) rf ?_
  have hb3:=hv4.le
  refine Aa.op (Ab.len Xx rf (hv4.mono (hl3.trans hl4)).sl) rf<|Aa.op (Ab.move rf) rf<|Aa.Ah<|Wp.block<|Wp.Bt (fun m LL HH OO=> ∃(l2:List (List Int)),∃(m4:List (BF×Bool)),∃(k2:Nat),∃(v9:Value),∃(xs4:List Value),[(0,(ptr B0 0)),(5,v4),(6,(.map (some B2))),(7,v9),(8,(.int .i64 (k1:Int))),(35,v4),(36,(.int .i64 (((BD x1).length:Nat):Int))),(37,(.int .i64 (k2:Int)))]=LL∧ .row v9 65 1 l2.length xs4:: .Az B0 (.cells #[v1,v2,(.int .i64 a0.2.2)] 55 (0,0))::DK (Jt u9) (Vj u4) B2 m4::O=OO∧Ax m (fun p nx=>Dq fu a0 x1 k1 nx1 p.1 p.2.1 p.2.2 nx) (l2,m4,k2)=some r∧Ap (cL Ar) HH l2 xs4) fu ⟨l1,m1,0,v8,xs3,rf,rf,hd,hq3⟩ (Sub.of rf) ?_
  intro m5 L2 H5 O2 hl5 hI2
  obtain⟨l2,m4,k2,v9,xs4,rfl,rfl,hd,hq4⟩:=hI2
  obtain⟨m6,nx2,rfl,hn2,hd⟩:=Bm hd
  replace hd:Dq fu a0 x1 k1 nx1 l2 m4 k2 nx2=some r:=hd
  unfold Dq at hd
  refine Wp.sr<|Aa.op (Ab.lss rf rf) rf<|Aa.Ah<|Wp.seq ?_
  refine Wp.cond rf (fun hb4=>?_) (fun hb4=>?_)
  ·
   obtain⟨hb4,hd⟩:=bT hb4 hd
   refine Wp.skip<|At.Ae<|Wp.seq<|Wp.block<|Wp.seq ?_
   obtain⟨x3,hx3,hd⟩:=Ag hd
   have hx3_:=Aj hx3
   refine Wp.region ?_
   obtain⟨_,rfl,hc1⟩:=AL.get (hv4.mono ((hl3.trans hl4).trans hl5)) hx3
   refine Aa.op (Ab.Bz Xx Bu rf (hv4.mono ((hl3.trans hl4).trans hl5)).sl rf (Aj hx3)) rf<|Aa.op (Ab.DA (vs:=[(Ad (word x3 0)),(Ad (word x3 1)),(Ad (word x3 2)),(Ad (word x3 3))]) K1 rf Bu rf rf (fun j u hj=>(hc1 j u hj))) rf<|Aa.alloc (cs:=BE (fun _=>false)) Bu Cx rf fun B3=>Aa.AM (i:=0) (cs':= #[(Ad (word x3 0)),(Ad (word x3 1)),(Ad (word x3 2)),(Ad (word x3 3))]) rf rf Bu rf rf (Bd (Ac rf (Ac rf (Ac rf (Ac rf (An)))))) rf ?_
   refine Aa.own (O:=_::_::_::_::_) ?_ rf
   refine Aa.Ah<|Wp.seq ?_
   have:=J' x3
   refine Wp.region<|Aa.op (Ab.Aw (i:=0) K1 rf Bu rf rf rf) rf<|Aa.op (Ab.call Wh rf (@QH _ _ x3)) rf<|Aa.op (Ab.move rf) rf<|Aa.op (Ab.extract rf rf) rf<|Aa.op (Ab.extract rf rf) rf<|Aa.op (Ab.assign rf) rf<|Aa.op (Ab.assign rf) rf ?_
   refine Aa.Ah<|Wp.sr<|Aa.op (Ab.assign rf) rf<|Aa.op (Ab.assign rf) rf<|Aa.Ah<|Wp.seq<|Wp.seq ?_
   obtain⟨x4,hx4,hd⟩:=Ag hd
   have hx4_:=Aj hx4
   refine Wp.region<|Aa.op (Ab.move rf) rf<|Aa.op (Ab.move rf) rf ?_
   obtain⟨_,⟨v10,rfl,hv6⟩,hc2,hc2_⟩:=Ap.get hq4 (AX hx4).2
   refine Aa.op (Ab.Co (j:=1) FH Eo rf rf rf (Aj hx4)) rf<|Aa.op (Ab.EX (i:=1) (k:=k1*1+0) Cv rf rf rf (hc2 0 _ rf)) rf ?_
   have hb5:=hv6.le
   refine Aa.op (Ab.len Cv rf hv6.sl) rf<|Aa.op (Ab.move rf) rf<|Aa.Ah<|Wp.block<|Wp.Cb 3 1<|Wp.Cb 3 1<|Wp.Bt (fun m LL HH OO=> ∃(l3:List Int),∃(l4:List Int),∃(k3:Nat),∃(v11:Value),∃(xs5:List Value),∃(v12:Value),∃(xs6:List Value),[(0,(ptr B0 0)),(5,v4),(6,(.map (some B2))),(7,v9),(8,(.int .i64 (k1:Int))),(11,(.int .u8 ((DO x3:Nat):Int))),(13,v11),(14,v12),(35,v4),(36,(.int .i64 (((BD x1).length:Nat):Int))),(37,(.int .i64 (k2:Int))),(49,v10),(50,(.int .i64 (x4.length:Int))),(51,(.int .i64 (k3:Int)))]=LL∧ .row v12 3 1 l4.length xs6:: .row v11 3 1 l3.length xs5:: .Az B3 (.cells #[(Ad (word x3 0)),(Ad (word x3 1)),(Ad (word x3 2)),(Ad (word x3 3))] 24 (0,0)):: .row v9 65 1 l2.length xs4:: .Az B0 (.cells #[v1,v2,(.int .i64 a0.2.2)] 55 (0,0))::DK (Jt u9) (Vj u4) B2 m4::O=OO∧Ax m (fun p nx=>Dp fu a0 l2 m4 k2 nx2 x3 x4 p.1 p.2.1 p.2.2 nx) (l3,l4,k3)=some r∧Ap Ar HH l3 xs5∧Ap Ar HH l4 xs6) fu ⟨([]:List Int),([]:List Int),0,(.slice none 0 0),[],(.slice none 0 0),[],rf,rf,hd,(Ap.nil (c:=Ar) (H:=H5)),(Ap.nil (c:=Ar) (H:=H5))⟩ (Sub.of rf) ?_
   intro m7 L3 H6 O3 hl6 hI3
   obtain⟨l3,l4,k3,v11,xs5,v12,xs6,rfl,rfl,hd,hq5,hq6⟩:=hI3
   obtain⟨m8,nx3,rfl,hn3,hd⟩:=Bm hd
   replace hd:Dp fu a0 l2 m4 k2 nx2 x3 x4 l3 l4 k3 nx3=some r:=hd
   unfold Dp at hd
   refine Wp.sr<|Aa.op (Ab.lss rf rf) rf<|Aa.Ah<|Wp.seq ?_
   refine Wp.cond rf (fun hb6=>?_) (fun hb6=>?_)
   ·
    obtain⟨hb6,hd⟩:=bT hb6 hd
    refine Wp.skip<|At.Ae<|Wp.seq<|Wp.block<|Wp.seq ?_
    obtain⟨x5,hx5,hd⟩:=Ag hd
    have hx5_:=Aj hx5
    refine Wp.region ?_
    obtain⟨_,rfl,hc3⟩:=AL.get (hv6.mono hl6) hx5
    refine Aa.op (Ab.Bz Cv DP rf (hv6.mono hl6).sl rf (Aj hx5)) rf<|Aa.op (Ab.HN u3 rf rf (hc3 0 _ rf)) rf<|Aa.op (Ab.assign rf) rf<|Aa.Ah<|Wp.seq ?_
    obtain⟨x6,hx6,hd⟩:=Ag hd
    have hx6_:=Aj hx6
    refine Wp.region<|Aa.op (Ab.move rf) rf<|Aa.op (Ab.nilCheck rf) rf<|Aa.op (Ab.A6 (o':=1) Hu rf rf) rf<|Aa.op (Ab.Am (i:=4) (v:=v2) Rh rf rf rf rf) rf<|Aa.op (Ab.move rf) rf ?_
    obtain⟨_,⟨v13,rfl,hv7⟩,hc4⟩:=AL.get (hv2.mono (((((hl1.trans hl2).trans hl3).trans hl4).trans hl5).trans hl6)) hx6
    refine Aa.op (Ab.Bz Rh N5 rf (hv2.mono (((((hl1.trans hl2).trans hl3).trans hl4).trans hl5).trans hl6)).sl rf (Aj hx6)) rf<|Aa.op (Ab.HN Sb rf rf (hc4 0 _ rf)) rf ?_
    have hb7:=hv7.le
    refine Aa.op (Ab.len Sb rf hv7.sl) rf<|Aa.op (Ab.move rf) rf<|Aa.Ah<|Wp.block<|Wp.Bt (fun m LL HH OO=> ∃(l5:List Int),∃(l6:List Int),∃(k4:Nat),∃(v14:Value),∃(xs7:List Value),∃(v15:Value),∃(xs8:List Value),[(0,(ptr B0 0)),(5,v4),(6,(.map (some B2))),(7,v9),(8,(.int .i64 (k1:Int))),(11,(.int .u8 ((DO x3:Nat):Int))),(13,v14),(14,v15),(35,v4),(36,(.int .i64 (((BD x1).length:Nat):Int))),(37,(.int .i64 (k2:Int))),(49,v10),(50,(.int .i64 (x4.length:Int))),(51,(.int .i64 (k3:Int))),(61,v13),(62,(.int .i64 (x6.length:Int))),(63,(.int .i64 (k4:Int)))]=LL∧ .row v15 3 1 l6.length xs8:: .row v14 3 1 l5.length xs7:: .Az B3 (.cells #[(Ad (word x3 0)),(Ad (word x3 1)),(Ad (word x3 2)),(Ad (word x3 3))] 24 (0,0)):: .row v9 65 1 l2.length xs4:: .Az B0 (.cells #[v1,v2,(.int .i64 a0.2.2)] 55 (0,0))::DK (Jt u9) (Vj u4) B2 m4::O=OO∧Ax m (fun p nx=>CU fu x3 k3 nx3 x6 p.1 p.2.1 p.2.2 nx) (l5,l6,k4)=some r∧Ap Ar HH l5 xs7∧Ap Ar HH l6 xs8) fu ⟨l3,l4,0,v11,xs5,v12,xs6,rf,rf,hd,hq5,hq6⟩ (Sub.of rf) ?_
    intro m9 L4 H7 O4 hl7 hI4
    obtain⟨l5,l6,k4,v14,xs7,v15,xs8,rfl,rfl,hd,hq7,hq8⟩:=hI4
    obtain⟨m10,nx4,rfl,hn4,hd⟩:=Bm hd
    replace hd:CU fu x3 k3 nx3 x6 l5 l6 k4 nx4=some r:=hd
    unfold CU at hd
    refine Wp.sr<|Aa.op (Ab.lss rf rf) rf<|Aa.Ah<|Wp.seq ?_
    refine Wp.cond rf (fun hb8=>?_) (fun hb8=>?_)
    ·
     obtain⟨hb8,hd⟩:=bT hb8 hd
     refine Wp.skip<|At.Ae<|Wp.seq<|Wp.block<|Wp.seq ?_
     obtain⟨x7,hx7,hd⟩:=Ag hd
     have hx7_:=Aj hx7
     refine Wp.region ?_
     obtain⟨_,⟨_,_,rfl,rfl,⟨_,_,rfl,rfl,rfl⟩⟩,hc5⟩:=AL.get (hv7.mono hl7) hx7
     refine Aa.op (Ab.Bz Sb IW rf (hv7.mono hl7).sl rf (Aj hx7)) rf<|Aa.op (Ab.DA (vs:=[(Ad (word x7.1 0)),(Ad (word x7.1 1)),(Ad (word x7.1 2)),(Ad (word x7.1 3)),(.int .i64 x7.2.1),(.int .i64 x7.2.2)]) Y8 rf IW rf rf (fun j u hj=>(hc5 j u hj))) rf<|Aa.alloc (cs:= #[(Ad (word (fun _=>false) 0)),(Ad (word (fun _=>false) 1)),(Ad (word (fun _=>false) 2)),(Ad (word (fun _=>false) 3)),(.int .i64 0),(.int .i64 0)]) IW (by simp only[zw];rfl) rf fun B4=>Aa.AM (i:=0) (cs':= #[(Ad (word x7.1 0)),(Ad (word x7.1 1)),(Ad (word x7.1 2)),(Ad (word x7.1 3)),(.int .i64 x7.2.1),(.int .i64 x7.2.2)]) rf rf IW rf rf (Bd (Ac rf (Ac rf (Ac rf (Ac rf (Ac rf (Ac rf (An)))))))) rf ?_
     refine Aa.own (O:=_::_::_::_::_::_::_::_) ?_ rf
     refine Aa.Ah<|Wp.sr<|Aa.op (Ab.A6 (o':=0) PO rf rf) rf<|Aa.op (Ab.Ga (i:=0) (vs:=[(Ad (word x7.1 0)),(Ad (word x7.1 1)),(Ad (word x7.1 2)),(Ad (word x7.1 3))]) K1 rf Bu rf rf rf) rf<|Aa.op (Ab.move rf) rf<|Aa.op (Ab.call Kv rf (@OH _ _ x7.1 ((DO x3:Nat):Int) (by omega) (by omega))) rf<|Aa.Ah ?_
     refine Wp.cond rf (fun hb9=>?_) (fun hb9=>?_)
     ·
      replace hd:=Gl hb9 hd
      obtain⟨ha2,hd⟩:=Al hd
      obtain⟨ha3,hd⟩:=Al hd
      refine Wp.emp<|Wp.emp<|Af.runK 9 [Ay,Ay,⟨[2],[],[]⟩,⟨[0],[0],[3]⟩,⟨[0,4],[4],[4]⟩,Ay,Ay,⟨[2],[],[]⟩,⟨[1],[1],[8]⟩,⟨[1,3],[3],[9]⟩,⟨[],[],[4]⟩,⟨[],[],[9]⟩] follows rf (by kernel_rfl)<|Af.op (val:=fun p1=>v14) rf rf (fun _=>rfl) (fun _ p1 _ hx hf hy=>Ab.move rf) rf<|Af.op (val:=fun p1=>(ptr B4 5)) rf rf (fun _=>rfl) (fun _ p1 _ hx hf hy=>Ab.A6 (o':=5) W7 rf rf) rf<|Af.op (val:=fun p1=>(.int .i64 x7.2.2)) rf rf (fun _=>rfl) (fun _ p1 _ hx hf hy=>Ab.Am (i:=2) (v:=(.int .i64 x7.2.2)) u3 rf rf (hy 2 _ rf rf) rf) rf<|Af.Fz (res:=fun p1=> .row (p1 3) 3 1 1 [(.int .i64 x7.2.2)]) 0 rf rf rf (fun _=>rfl) (fun _ p1 _ hx hf hy=>Bc.DM (v:=(.int .i64 x7.2.2)) (cs:=[(.int .i64 x7.2.2)]) 0 Cv DP rf rf rf rf rf (hy 0 _ rf rf)) rf (fun _=>⟨_,_,_,_,rf⟩)<|Af.Fz (res:=fun p1=> .row (p1 4) 3 1 (l5.length+1) (xs7++[(.int .i64 x7.2.2)])) 4 rf rf rf (fun _=>rfl) (fun _ p1 _ hx hf hy=>Bc.KE 4 0 Cv DP rf rf rf rf (hy 4 _ rf rf) (hy 0 _ rf rf) (Ac rf (An)) rf ha2) rf (fun _=>⟨_,_,_,_,rf⟩) ?_
      refine Af.op (val:=fun p1=>v15) rf rf (fun _=>rfl) (fun _ p1 _ hx hf hy=>Ab.move rf) rf<|Af.op (val:=fun p1=>(ptr B4 4)) rf rf (fun _=>rfl) (fun _ p1 _ hx hf hy=>Ab.A6 (o':=4) TQ rf rf) rf<|Af.op (val:=fun p1=>(.int .i64 x7.2.1)) rf rf (fun _=>rfl) (fun _ p1 _ hx hf hy=>Ab.Am (i:=2) (v:=(.int .i64 x7.2.1)) u3 rf rf (hy 2 _ rf rf) rf) rf<|Af.Fz (res:=fun p1=> .row (p1 8) 3 1 1 [(.int .i64 x7.2.1)]) 1 rf rf rf (fun _=>rfl) (fun _ p1 _ hx hf hy=>Bc.DM (v:=(.int .i64 x7.2.1)) (cs:=[(.int .i64 x7.2.1)]) 1 Cv DP rf rf rf rf rf (hy 1 _ rf rf)) rf (fun _=>⟨_,_,_,_,rf⟩)<|Af.Fz (res:=fun p1=> .row (p1 9) 3 1 (l6.length+1) (xs8++[(.int .i64 x7.2.1)])) 3 rf rf rf (fun _=>rfl) (fun _ p1 _ hx hf hy=>Bc.KE 3 1 Cv DP rf rf rf rf (hy 3 _ rf rf) (hy 1 _ rf rf) (Ac rf (An)) rf ha3) rf (fun _=>⟨_,_,_,_,rf⟩)<|Af.op (val:=fun p1=>(p1 4)) rf rf (fun _=>rfl) (fun _ p1 _ hx hf hy=>Ab.assign rf) rf<|Af.op (val:=fun p1=>(p1 9)) rf rf (fun _=>rfl) (fun _ p1 _ hx hf hy=>Ab.assign rf) rf<|Af.done fun H8 p1 hl8 hF1=>?_
      refine At.sub (L':=[(0,(ptr B0 0)),(5,v4),(6,(.map (some B2))),(7,v9),(8,(.int .i64 (k1:Int))),(11,(.int .u8 ((DO x3:Nat):Int))),(13,(p1 4)),(14,(p1 9)),(35,v4),(36,(.int .i64 (((BD x1).length:Nat):Int))),(37,(.int .i64 (k2:Int))),(49,v10),(50,(.int .i64 (x4.length:Int))),(51,(.int .i64 (k3:Int))),(61,v13),(62,(.int .i64 (x6.length:Int))),(63,(.int .i64 (k4:Int)))]) (Sub.of rf) ?_
      refine At.own (O:= .row (p1 3) 3 1 ([x7.2.2]:List Int).length [(.int .i64 x7.2.2)]:: .row (p1 8) 3 1 ([x7.2.1]:List Int).length [(.int .i64 x7.2.1)]:: .Az B4 (.cells #[(Ad (word x7.1 0)),(Ad (word x7.1 1)),(Ad (word x7.1 2)),(Ad (word x7.1 3)),(.int .i64 x7.2.1),(.int .i64 x7.2.2)] 68 (0,0)):: .row (p1 9) 3 1 (l6++([x7.2.1]:List Int)).length (xs8++[(.int .i64 x7.2.1)]):: .row (p1 4) 3 1 (l5++([x7.2.2]:List Int)).length (xs7++[(.int .i64 x7.2.2)]):: .Az B3 (.cells #[(Ad (word x3 0)),(Ad (word x3 1)),(Ad (word x3 2)),(Ad (word x3 3))] 24 (0,0)):: .row v9 65 1 l2.length xs4:: .Az B0 (.cells #[v1,v2,(.int .i64 a0.2.2)] 55 (0,0))::DK (Jt u9) (Vj u4) B2 m4::O) ?_ (by first|rfl|(simp only[List.length_append,List.length_set];rfl)|simp)
      have hq9:Ap Ar H8 (l6++([x7.2.1]:List Int)) (xs8++[(.int .i64 x7.2.1)]):=(Ap.app (hq8.mono hl8) (Ap.Iy (c:=Ar) (a:=x7.2.1) (cs:=[(.int .i64 x7.2.1)]) rfl))
      have hq10:Ap Ar H8 (l5++([x7.2.2]:List Int)) (xs7++[(.int .i64 x7.2.2)]):=(Ap.app (hq7.mono hl8) (Ap.Iy (c:=Ar) (a:=x7.2.2) (cs:=[(.int .i64 x7.2.2)]) rfl))
      refine At.AW [2,3,4,5,6,7,8] 9 rf rf rf<|At.AF<|At.Ae<|Wp.region<|Aa.op (Ab.add rf rf (Av (by omega))) rf<|Aa.op (Ab.move rf) rf<|Aa.nil<|At.AW [1,2,3,4,5,6] 7 rf rf rf ?_
      refine At.AZ hl8 ⟨(l5++([x7.2.2]:List Int)),(l6++([x7.2.1]:List Int)),(k4+1),(p1 4),xs7++[(.int .i64 x7.2.2)],(p1 9),xs8++[(.int .i64 x7.2.1)],rf,rf,(by rw[←hn4];exact hd),hq10,hq9⟩ (Sub.of rf)
     replace hd:=Gm hb9 hd
     refine Wp.skip<|At.AF<|At.Ae<|Wp.region<|Aa.op (Ab.add rf rf (Av (by omega))) rf<|Aa.op (Ab.move rf) rf<|Aa.nil<|At.AW [1,2,3,4,5,6] 7 rf rf rf ?_
     refine At.AZ (Hp.le.refl _) ⟨l5,l6,(k4+1),v14,xs7,v15,xs8,rf,rf,(by rw[←hn4];exact hd),hq7,hq8⟩ (Sub.of rf)
    obtain⟨hb8,hd⟩:=bF hb8 hd
    refine Wp.exit<|At.Ao<|At.Ao<|At.AB<|At.AF<|At.Ae<|Wp.region<|Aa.op (Ab.add rf rf (Av (by omega))) rf ?_
    refine Aa.op (Ab.move rf) rf<|Aa.nil ?_
    refine At.AZ hl7 ⟨l5,l6,(k3+1),v14,xs7,v15,xs8,rf,rf,(by rw[←hn3];exact hd),hq7,hq8⟩ (Sub.of rf)
   obtain⟨hb6,hd⟩:=bF hb6 hd
   refine Wp.exit<|At.Ao<|At.Ao<|At.AB<|At.Ae<|Wp.seq ?_
   obtain⟨ha4,hd⟩:=Al hd
   refine Wp.region<|Aa.op (Ab.move rf) rf<|Aa.AW [1,0,2,3,4,5] 6 rf rf rf<|Aa.Fi (Bc.call YC rf (XN hq5 ha4)) rf ?_
   rintro _ H9 _ hl9 ⟨xs9,rfl,hq11,rfl⟩
   refine Aa.Ah<|Wp.seq ?_
   obtain⟨x8,hx8,hd⟩:=Ag hd
   refine Wp.region<|Aa.op (Ab.move rf) rf ?_
   refine Aa.Bk (i:=0) rf fun hb10=>?_
   refine Aa.freeze (i:=0) rf fun H10 hl10 hs1=>?_
   have hv8:=AL.of (c:=Ar) hs1 rfl (hq11.mono hl10) hb10
   refine Aa.op (Ab.call T1 rf (L9 hv8 (hG.mono (((((((hl1.trans hl2).trans hl3).trans hl4).trans hl5).trans hl6).trans hl9).trans hl10)) hx8)) rf<|Aa.op (Ab.assign rf) rf<|Aa.Ah<|Wp.seq<|Wp.seq ?_
   rcases Bool.eq_false_or_eq_true (decide ((((DB l3).length:Nat):Int)=0))with hg1|hg1
   ·
    obtain⟨hg1_,hd⟩:=bT hg1 hd
    refine Wp.region<|Aa.op (Ab.move rf) rf ?_
    have hb11:=hv8.le
    refine Aa.op (Ab.len Cv rf hv8.sl) rf<|Aa.op (Ab.BR (b:=decide ((((DB l3).length:Nat):Int)=0)) (c:=true) (Ab.eql rf rf) hg1) rf<|Aa.op (Ab.move rf) rf<|Aa.Ak rf rf rf rf<|Aa.Ak rf rf rf rf<|Aa.Ak rf rf rf rf<|Aa.op (Ab.AU rf rf) rf<|Aa.Ah ?_
    refine Wp.EY rf<|Wp.exit<|At.Ao<|At.AB<|At.Ae<|Wp.region<|Aa.op (Ab.add rf rf (Av (by omega))) rf<|Aa.op (Ab.move rf) rf ?_
    refine Aa.nil<|At.AW [2,3,4] 5 rf rf rf ?_
    refine At.AZ ((hl6.trans hl9).trans hl10) ⟨l2,m4,(k2+1),v9,xs4,rf,rf,(by rw[←hn2];exact hd),(hq4.mono ((hl6.trans hl9).trans hl10))⟩ (Sub.of rf)
   obtain⟨hg1_,hd⟩:=bF hg1 hd
   obtain⟨ha5,hd⟩:=Al hd
   refine Wp.region<|Aa.op (Ab.move rf) rf ?_
   have hb11:=hv8.le
   refine Aa.op (Ab.len Cv rf hv8.sl) rf<|Aa.op (Ab.BR (b:=decide ((((DB l3).length:Nat):Int)=0)) (c:=false) (Ab.eql rf rf) hg1) rf<|Aa.op (Ab.move rf) rf<|Aa.AQ rf rf (Ab.move rf) rf<|Aa.AQ rf rf (Ab.move rf) rf<|Aa.AQ rf rf (Ab.lookup (K:=(Jt u9)) (M:=(Vj u4)) (i:=4) (k:=x8) (z:=false) Y7 JY trivial rf rf ha5 rf) rf<|Aa.op (Ab.AP rf rf) rf<|Aa.Ah ?_
   refine Wp.cond rf (fun hb12=>?_) (fun hb12=>?_)
   ·
    replace hd:=Gl hb12 hd
    refine Wp.exit<|At.Ao<|At.AB<|At.Ae<|Wp.region<|Aa.op (Ab.add rf rf (Av (by omega))) rf<|Aa.op (Ab.move rf) rf<|Aa.nil ?_
    refine At.AW [2,3,4] 5 rf rf rf ?_
    refine At.AZ ((hl6.trans hl9).trans hl10) ⟨l2,m4,(k2+1),v9,xs4,rf,rf,(by rw[←hn2];exact hd),(hq4.mono ((hl6.trans hl9).trans hl10))⟩ (Sub.of rf)
   replace hd:=Gm hb12 hd
   refine Wp.skip<|At.Ae<|Wp.seq<|Wp.sr<|Aa.op (Ab.move rf) rf<|Aa.op (Ab.Nw (K:=(Jt u9)) (M:=(Vj u4)) (i:=4) Y7 rf rf) rf<|Aa.op (Ab.eql rf rf) rf<|Aa.Ah ?_
   refine Wp.cond rf (fun hb13=>?_) (fun hb13=>?_)
   ·
    obtain⟨hb13,hd⟩:=bT hb13 hd
    refine Wp.sr<|Aa.op (Ab.assign rf) rf<|Aa.Ah<|Wp.ret<|At.Au<|At.A9<|At.Au<|At.Au ?_
    refine At.A9<|At.A9<|At.Au<|At.Au<|At.A9<|At.Au ?_
    obtain rfl:=si hd
    exact At.C_ rf (RV.tmp (v:=(.bool true)) rf) (fun w hs=>⟨rf,(hs.AW [3] 5 rf rf rf).weaken (((((((hl1.trans hl2).trans hl3).trans hl4).trans hl5).trans hl6).trans hl9).trans hl10)⟩)
   obtain⟨hb13,hd⟩:=bF hb13 hd
   refine Wp.skip<|At.Ae<|Wp.seq ?_
   obtain⟨ha6,hd⟩:=Al hd
   obtain⟨ha7,hd⟩:=Al hd
   refine Wp.region<|Aa.op (Ab.move rf) rf<|Aa.op (Ab.move rf) rf<|Aa.mapUpdate (K:=(Jt u9)) (M:=(Vj u4)) (k:=x8) (v:=true) 4 Y7 rf rf rf ha6 trivial ha7 rf<|Aa.Ah ?_
   obtain⟨x9,hx9,hd⟩:=Ag hd
   obtain⟨ha8,hd⟩:=Al hd
   refine Wp.region<|Aa.op (Ab.move rf) rf<|Aa.op (Ab.move rf) rf<|Aa.op (Ab.move rf) rf<|Aa.AW [3,0,1,2,4] 5 rf rf rf<|Aa.Fi (Bc.call QR rf (D9 (hv1.mono (((((((hl1.trans hl2).trans hl3).trans hl4).trans hl5).trans hl6).trans hl9).trans hl10)) (hv2.mono (((((((hl1.trans hl2).trans hl3).trans hl4).trans hl5).trans hl6).trans hl9).trans hl10)) (hq6.mono (hl9.trans hl10)) hx9)) rf ?_
   rintro _ H11 _ hl11 ⟨⟨v16,rfl,hv9⟩,rfl⟩
   refine Aa.Bv (c:=(cL Ar)) (y:=x9) (cs:=[v16]) FH Eo rf rf rf (Ef hv9.one) (⟨_,rf,hv9⟩) rf fun v17 xs10 hq12=>Aa.Hz (i:=3) (j:=0) (hq4.mono (((hl6.trans hl9).trans hl10).trans hl11)) hq12 FH Eo rf (by decide) rf rf rf rf (by decide) ha8 rf fun v18 xs11 hq13=>Aa.drop (i:=0)<|Aa.op (Ab.assign rf) rf<|Aa.nil<|At.AF<|At.Ae<|Wp.region ?_
   refine Aa.op (Ab.add rf rf (Av (by omega))) rf<|Aa.op (Ab.move rf) rf<|Aa.nil<|At.AW [2,0,3] 4 rf rf rf ?_
   refine At.AZ (((hl6.trans hl9).trans hl10).trans hl11) ⟨(l2++([x9]:List (List Int))),(Di m4 x8 true),(k2+1),v18,xs11,rf,rf,(by rw[←hn2];exact hd),hq13⟩ (Sub.of rf)
  obtain⟨hb4,hd⟩:=bF hb4 hd
  refine Wp.exit<|At.Ao<|At.Ao<|At.AB<|At.AF<|At.Ae<|Wp.region<|Aa.op (Ab.move rf) rf ?_
  refine Aa.op (Ab.add rf rf (Av (by omega))) rf<|Aa.op (Ab.assign rf) rf<|Aa.nil ?_
  refine At.AZ hl5 ⟨l2,m4,(k1+1),v9,xs4,rf,rf,(by rw[←hn1];exact hd),hq4⟩ (Sub.of rf)
 obtain⟨hb2,hd⟩:=bF hb2 hd
 refine Wp.exit<|At.Ao<|At.Ao<|At.AB<|At.Ae<|Wp.sr<|Aa.op (Ab.assign rf) rf<|Aa.Ah ?_
 refine Wp.ret ?_
 obtain rfl:=si hd
 exact At.C_ rf (RV.tmp (v:=(.bool false)) rf) (fun w hs=>⟨rf,(hs.AW [1] 3 rf rf rf).weaken (((hl1.trans hl2).trans hl3).trans hl4)⟩)
theorem K_{fu:Nat}{a0:List Int}{a1:Int}{v1:Value}{r:Int}(hv1:AL Ar H a0 v1)(hd:FI fu a0 a1=some r):
    CB Tryz.prog 58 [v1,(.int .i64 a1)] H O (.int .i64 r):=by
 intro w hs
 refine Bo Tryz.func58 rf rf rf ?_ hs
 clear hs w
 unfold FI at hd
 refine Wp.sr<|Aa.op (Ab.assign rf) rf<|Aa.Ah<|Wp.seq<|Wp.sr<|Aa.op (Ab.move rf) rf ?_
 have hb1:=hv1.le
 refine Aa.op (Ab.len Cv rf hv1.sl) rf<|Aa.op (Ab.move rf) rf<|Aa.Ah<|Wp.block<|Wp.Bt (fun m LL HH OO=> ∃(k1:Nat),[(0,v1),(1,(.int .i64 a1)),(7,(.int .i64 (a0.length:Int))),(8,(.int .i64 (k1:Int)))]=LL∧O=OO∧Ax m (CY fu a0 a1) k1=some r) fu ⟨0,rf,rf,hd⟩ (Sub.of rf) ?_
 intro m1 L1 H1 O1 hl1 hI1
 obtain⟨k1,rfl,rfl,hd⟩:=hI1
 obtain⟨m2,nx1,rfl,hn1,hd⟩:=Bm hd
 replace hd:CY fu a0 a1 k1 nx1=some r:=hd
 unfold CY at hd
 refine Wp.sr<|Aa.op (Ab.lss rf rf) rf<|Aa.Ah<|Wp.seq ?_
 refine Wp.cond rf (fun hb2=>?_) (fun hb2=>?_)
 ·
  obtain⟨hb2,hd⟩:=bT hb2 hd
  refine Wp.skip<|At.Ae<|Wp.seq<|Wp.block<|Wp.sr<|Aa.op (Ab.move rf) rf<|Aa.op (Ab.assign rf) rf<|Aa.Ah ?_
  refine Wp.seq ?_
  obtain⟨x1,hx1,hd⟩:=Ag hd
  have hx1_:=Aj hx1
  refine Wp.region<|Aa.op (Ab.move rf) rf<|Aa.op (Ab.move rf) rf<|Aa.op (Ab.move rf) rf ?_
  obtain⟨_,rfl,hc1⟩:=AL.get (hv1.mono hl1) hx1
  refine Aa.op (Ab.Bz Cv DP rf (hv1.mono hl1).sl rf (Aj hx1)) rf<|Aa.op (Ab.HN u3 rf rf (hc1 0 _ rf)) rf<|Aa.op (Ab.eql rf rf) rf<|Aa.Ah ?_
  refine Wp.cond rf (fun hb3=>?_) (fun hb3=>?_)
  ·
   obtain⟨hb3,hd⟩:=bT hb3 hd
   refine Wp.sr<|Aa.op (Ab.move rf) rf<|Aa.op (Ab.assign rf) rf<|Aa.Ah<|Wp.ret<|At.A9<|At.Au<|At.Au ?_
   refine At.A9<|At.Au ?_
   obtain rfl:=si hd
   exact At.q1 0 hl1 rf (RV.tmp rf) rf
  obtain⟨hb3,hd⟩:=bF hb3 hd
  refine Wp.skip<|At.AF<|At.Ae<|Wp.region<|Aa.op (Ab.add rf rf (Av (by omega))) rf<|Aa.op (Ab.move rf) rf<|Aa.nil ?_
  refine At.AZ (Hp.le.refl _) ⟨(k1+1),rf,rf,(by rw[←hn1];exact hd)⟩ (Sub.of rf)
 obtain⟨hb2,hd⟩:=bF hb2 hd
 refine Wp.exit<|At.Ao<|At.Ao<|At.AB<|At.Ae<|Wp.sr<|Aa.op (Ab.assign rf) rf<|Aa.Ah ?_
 refine Wp.ret ?_
 obtain rfl:=si hd
 exact At.q1 0 hl1 rf (RV.tmp rf) rf
theorem Jh{fu:Nat}{a0:List Int}{a1:Int}{v1:Value}{r:Bool}(hv1:AL Ar H a0 v1)(hd:DC fu a0 a1=some r):
  CB Tryz.prog 36 [v1,(.int .i64 a1)] H O (.bool r):=by
 intro w hs
 refine Bo Tryz.func36 rf rf rf ?_ hs
 clear hs w
 unfold DC at hd
 refine Wp.sr<|Aa.op (Ab.assign rf) rf<|Aa.Ah<|Wp.seq ?_
 obtain⟨x1,hx1,hd⟩:=Ag hd
 refine Wp.region<|Aa.op (Ab.move rf) rf<|Aa.op (Ab.move rf) rf<|Aa.op (Ab.call Yo rf (K_ hv1 hx1)) rf<|Aa.op (Ab.geq rf rf) rf<|Aa.op (Ab.assign rf) rf<|Aa.Ah<|Wp.ret ?_
 obtain rfl:=si hd
 exact At.q1 0 (Hp.le.refl _) rf (RV.tmp rf) rf
end Go.Proofs.YtjmbmodmepdmjabGreatDoor
