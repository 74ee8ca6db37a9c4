/- Part 5 of the texts of this claim: what its theorem leans on. -/
import Derived.Test.YtjmbmodmepdmjaaGreatDoorZAutomatonOf4
import Derived.Test.YtjmbmodmepdmjaaGreatDoorCards
import Derived.Test.YtjmbmodmepdmjaaGreatDoorTie
import Derived.Deep.DeepHandedRow
import Derived.LaidMore
import Derived.Stop.LaidErr
import Derived.WalkSmall
set_option maxRecDepth 100000
set_option maxHeartbeats 4000000
namespace Go.Proofs.YtjmbmodmepdmjaaGreatDoor
open Go.GK
variable {H : Hp} {O : List Bj}
theorem Ke{fu:Nat}{a0:(List (List Int))×(List (List (AD×Int×Int)))×Int}{a1:Int}{a2:Int}{v1 v2:Value}{B0:Nat}{r:List (Bool×(List (Int×Int×Int)))}(hv1:AW (cL Ao) H a0.1 v1)(hv2:AW (cL (cP IG (cP Ao Ao))) H a0.2.1 v2)(hG:E1 Tryz.prog H)(hd:C8 fu a0 a1 a2=some r):
    ED Tryz.prog 39 [(ptr B0 0),(.int .i64 a1),(.int .i64 a2)] H (.AM B0 (.cells #[v1,v2,(.int .i64 a0.2.2)] 66 (0,0))::O) (fun v H' O'=>(∃v3:Value,v3=v∧AW (cP cB (cL (cP AZ (cP AZ Ao)))) H' r v3)∧ .AM B0 (.cells #[v1,v2,(.int .i64 a0.2.2)] 66 (0,0))::O=O'):=by
 intro w hs
 refine Bz Tryz.func39 rf rf rf ?_ hs
 clear hs w
 unfold C8 at hd
 refine Wp.sr<|Aa.op (Ab.assign rf) rf<|Aa.Af<|Wp.seq ?_
 obtain⟨x1,hx1,hd⟩:=Ae hd
 obtain⟨ha1,hd⟩:=Al hd
 refine Wp.region<|Aa.op (Ab.move rf) rf<|Aa.E8 (BC.call W8 rf (ED.atR 0 rf (JR hv1 hv2 hx1))) rf ?_
 rintro _ H1 _ hl1 ⟨⟨v4,rfl,hv3⟩,rfl⟩
 refine Aa.E8 (BC.call W9 rf (OL hv3 ha1)) rf ?_
 rintro _ H2 _ hl2 ⟨⟨v5,rfl,hv4⟩,rfl⟩
 refine Aa.op (Ab.assign rf) rf<|Aa.Af<|Wp.seq ?_
 obtain⟨x2,hx2,hd⟩:=Ae hd
 refine Wp.region<|Aa.op (Ab.move rf) rf<|Aa.op (Ab.move rf) rf<|Aa.A1 (c:=Ao) (y:=a1) (cs:=[(.int .i64 a1)]) BF Cp rf rf rf rf (rf) rf fun v6 xs1 hq1=>Aa.AR [1,0] 2 rf rf rf<|Aa.E8 (BC.call Sn rf (EP (hv1.mono (hl1.trans hl2)) (hv2.mono (hl1.trans hl2)) hq1 hx2)) rf ?_
 rintro _ H3 _ hl3 ⟨⟨v7,rfl,hv5⟩,rfl⟩
 refine Aa.A1 (c:=(cL Ao)) (y:=x2) (cs:=[v7]) Ey Dx rf rf rf (DZ hv5.one) (⟨_,rf,hv5⟩) rf fun v8 xs2 hq2=>Aa.op (Ab.assign rf) rf<|Aa.Af<|Wp.seq ?_
 obtain⟨x3,hx3,hd⟩:=Ae hd
 have hx3_:=Ah hx3
 obtain⟨x4,hx4,hd⟩:=Ae hd
 obtain⟨ha2,hd⟩:=Al hd
 obtain⟨ha3,hd⟩:=Al hd
 refine Wp.region<|Aa.makeMap (Ku u9) (I7 u3) rf fun B2=>Aa.op (Ab.move rf) rf ?_
 obtain⟨_,⟨v9,rfl,hv6⟩,hc1,hc1_⟩:=Au.get hq2 (AG hx3).2
 refine Aa.op (Ab.Bu (j:=1) Ey Dx rf rf rf (Ah hx3)) rf<|Aa.op (Ab.Ch (i:=1) (k:=0*1+0) BF rf rf rf (hc1 0 _ rf)) rf<|Aa.op (Ab.call UW rf (M_ hv6 (hG.mono ((hl1.trans hl2).trans hl3)) hx4)) rf<|Aa.insert (K:=(Ku u9)) (M:=(I7 u3)) (k:=x4) (v:=0) 0 VF rf rf rf ha2 (show C0 0 by decide) ha3 rf<|Aa.op (Ab.move rf) rf<|Aa.op (Ab.assign rf) rf<|Aa.Af<|Wp.sr ?_
 refine Aa.op (Ab.assign rf) rf<|Aa.Af<|Wp.seq<|Wp.sr<|Aa.op (Ab.assign rf) rf<|Aa.Af<|Wp.block<|Wp.BG 43 2 ?_
 refine Wp.A_ (fun m LL HH OO=> ∃(l1:List (List Int)),∃(l2:List (Bool×(List (Int×Int×Int)))),∃(m1:List (Cb×Int)),∃(k1:Nat),∃(v10:Value),∃(xs3:List Value),∃(v11:Value),∃(xs4:List Value),[(0,(ptr B0 0)),(2,(.int .i64 a2)),(7,v5),(8,v10),(9,(.map (some B2))),(10,v11),(11,(.int .i64 (k1:Int)))]=LL∧ .row v11 43 2 l2.length xs4::Es (Ku u9) (I7 u3) B2 m1:: .row v10 55 1 l1.length xs3:: .AM B0 (.cells #[v1,v2,(.int .i64 a0.2.2)] 66 (0,0))::O=OO∧Ax m (fun p nx=>CX fu a0 a2 x1 p.1 p.2.1 p.2.2.1 p.2.2.2 nx) (l1,l2,m1,k1)=some r∧Au (cL Ao) HH l1 xs3∧Au (cP cB (cL (cP AZ (cP AZ Ao)))) HH l2 xs4) fu ⟨([x2]:List (List Int)),([]:List (Bool×(List (Int×Int×Int)))),(DY ([]:List (Cb×Int)) x4 0),0,v8,xs2,(.slice none 0 0),[],rf,rf,hd,hq2,(Au.nil (c:=(cP cB (cL (cP AZ (cP AZ Ao))))) (H:=H3))⟩ (Sub.of rf) ?_
 intro m2 L1 H4 O1 hl4 hI1
 obtain⟨l1,l2,m1,k1,v10,xs3,v11,xs4,rfl,rfl,hd,hq3,hq4⟩:=hI1
 obtain⟨m3,nx1,rfl,hn1,hd⟩:=A9 hd
 replace hd:CX fu a0 a2 x1 l1 l2 m1 k1 nx1=some r:=hd
 unfold CX at hd
 refine Wp.seq<|Wp.sr<|Aa.op (Ab.move rf) rf<|Aa.op (Ab.move rf) rf ?_
 refine Aa.A7 (i:=2) rf fun hb1=>?_
 refine Aa.op (Ab.BR (i:=2) Ey rf rf) rf<|Aa.op (Ab.lss rf rf) rf<|Aa.Af ?_
 refine Wp.cond rf (fun hb2=>?_) (fun hb2=>?_)
 ·
  obtain⟨hb2,hd⟩:=bT hb2 hd
  refine Wp.skip<|At.Ad<|Wp.seq<|Wp.block<|Wp.sr<|Aa.op (Ab.assign rf) rf<|Aa.Af<|Wp.seq ?_
  refine Wp.sr<|Aa.op (Ab.move rf) rf ?_
  have hb3:=hv4.le
  refine Aa.op (Ab.len Yd rf (hv4.mono (hl3.trans hl4)).sl) rf<|Aa.op (Ab.move rf) rf<|Aa.Af<|Wp.block<|Wp.BG 109 5<|Wp.A_ (fun m LL HH OO=> ∃(l3:List (List Int)),∃(l4:List (AD×Int)),∃(m4:List (Cb×Int)),∃(k2:Nat),∃(v12:Value),∃(xs5:List Value),∃(v13:Value),∃(xs6:List Value),[(0,(ptr B0 0)),(2,(.int .i64 a2)),(7,v5),(8,v12),(9,(.map (some B2))),(10,v11),(11,(.int .i64 (k1:Int))),(12,v13),(50,v5),(51,(.int .i64 (((BH x1).length:Nat):Int))),(52,(.int .i64 (k2:Int)))]=LL∧ .row v13 109 5 l4.length xs6:: .row v11 43 2 l2.length xs4::Es (Ku u9) (I7 u3) B2 m4:: .row v12 55 1 l3.length xs5:: .AM B0 (.cells #[v1,v2,(.int .i64 a0.2.2)] 66 (0,0))::O=OO∧Ax m (fun p nx=>B' fu a0 a2 x1 l2 k1 nx1 p.1 p.2.1 p.2.2.1 p.2.2.2 nx) (l3,l4,m4,k2)=some r∧Au (cL Ao) HH l3 xs5∧Au (cP IG Ao) HH l4 xs6) fu ⟨l1,([]:List (AD×Int)),m1,0,v10,xs3,(.slice none 0 0),[],rf,rf,hd,hq3,(Au.nil (c:=(cP IG Ao)) (H:=H4))⟩ (Sub.of rf) ?_
  intro m5 L2 H5 O2 hl5 hI2
  obtain⟨l3,l4,m4,k2,v12,xs5,v13,xs6,rfl,rfl,hd,hq5,hq6⟩:=hI2
  obtain⟨m6,nx2,rfl,hn2,hd⟩:=A9 hd
  replace hd:B' fu a0 a2 x1 l2 k1 nx1 l3 l4 m4 k2 nx2=some r:=hd
  unfold B' at hd
  refine Wp.sr<|Aa.op (Ab.lss rf rf) rf<|Aa.Af<|Wp.seq ?_
  refine Wp.cond rf (fun hb4=>?_) (fun hb4=>?_)
  ·
   obtain⟨hb4,hd⟩:=bT hb4 hd
   refine Wp.skip<|At.Ad<|Wp.seq<|Wp.block<|Wp.seq ?_
   obtain⟨x5,hx5,hd⟩:=Ae hd
   have hx5_:=Ah hx5
   refine Wp.region ?_
   obtain⟨_,rfl,hc2⟩:=AW.get (hv4.mono ((hl3.trans hl4).trans hl5)) hx5
   refine Aa.op (Ab.Bo Yd BJ rf (hv4.mono ((hl3.trans hl4).trans hl5)).sl rf (Ah hx5)) rf<|Aa.op (Ab.C9 (vs:=[(Ak (word x5 0)),(Ak (word x5 1)),(Ak (word x5 2)),(Ak (word x5 3))]) LS rf BJ rf rf (fun j u hj=>(hc2 j u hj))) rf<|Aa.alloc (cs:=BV (fun _=>false)) BJ CQ rf fun B3=>Aa.AP (i:=0) (cs':= #[(Ak (word x5 0)),(Ak (word x5 1)),(Ak (word x5 2)),(Ak (word x5 3))]) rf rf BJ rf rf (Bc (Ac rf (Ac rf (Ac rf (Ac rf (As)))))) rf ?_
   refine Aa.own (O:=_::_::_::_::_::_::_) ?_ rf
   refine Aa.Af<|Wp.seq ?_
   have:=HT x5
   refine Wp.region<|Aa.op (Ab.AF (i:=0) LS rf BJ rf rf rf) rf<|Aa.op (Ab.call W7 rf (@Se _ _ x5)) rf<|Aa.op (Ab.move rf) rf<|Aa.op (Ab.extract rf rf) rf<|Aa.op (Ab.extract rf rf) rf<|Aa.op (Ab.assign rf) rf<|Aa.op (Ab.assign rf) rf ?_
   refine Aa.Af<|Wp.sr<|Aa.op (Ab.assign rf) rf<|Aa.Af<|Wp.seq<|Wp.seq ?_
   obtain⟨x6,hx6,hd⟩:=Ae hd
   have hx6_:=Ah hx6
   refine Wp.region<|Aa.op (Ab.move rf) rf<|Aa.op (Ab.move rf) rf ?_
   obtain⟨_,⟨v14,rfl,hv7⟩,hc3,hc3_⟩:=Au.get hq5 (AG hx6).2
   refine Aa.op (Ab.Bu (j:=4) Ey Dx rf rf rf (Ah hx6)) rf<|Aa.op (Ab.Ch (i:=4) (k:=k1*1+0) BF rf rf rf (hc3 0 _ rf)) rf ?_
   have hb5:=hv7.le
   refine Aa.op (Ab.len BF rf hv7.sl) rf<|Aa.op (Ab.move rf) rf<|Aa.Af<|Wp.block<|Wp.BG 3 1<|Wp.A_ (fun m LL HH OO=> ∃(l5:List Int),∃(k3:Nat),∃(v15:Value),∃(xs7:List Value),[(0,(ptr B0 0)),(2,(.int .i64 a2)),(7,v5),(8,v12),(9,(.map (some B2))),(10,v11),(11,(.int .i64 (k1:Int))),(12,v13),(14,(ptr B3 0)),(15,(.int .u8 ((De x5:Nat):Int))),(17,v15),(50,v5),(51,(.int .i64 (((BH x1).length:Nat):Int))),(52,(.int .i64 (k2:Int))),(64,v14),(65,(.int .i64 (x6.length:Int))),(66,(.int .i64 (k3:Int)))]=LL∧ .row v15 3 1 l5.length xs7:: .AM B3 (.cells #[(Ak (word x5 0)),(Ak (word x5 1)),(Ak (word x5 2)),(Ak (word x5 3))] 34 (0,0)):: .row v13 109 5 l4.length xs6:: .row v11 43 2 l2.length xs4::Es (Ku u9) (I7 u3) B2 m4:: .row v12 55 1 l3.length xs5:: .AM B0 (.cells #[v1,v2,(.int .i64 a0.2.2)] 66 (0,0))::O=OO∧Ax m (fun p nx=>B_ fu a0 l3 l4 m4 k2 nx2 x5 x6 p.1 p.2 nx) (l5,k3)=some r∧Au Ao HH l5 xs7) fu ⟨([]:List Int),0,(.slice none 0 0),[],rf,rf,hd,(Au.nil (c:=Ao) (H:=H5))⟩ (Sub.of rf) ?_
   intro m7 L3 H6 O3 hl6 hI3
   obtain⟨l5,k3,v15,xs7,rfl,rfl,hd,hq7⟩:=hI3
   obtain⟨m8,nx3,rfl,hn3,hd⟩:=A9 hd
   replace hd:B_ fu a0 l3 l4 m4 k2 nx2 x5 x6 l5 k3 nx3=some r:=hd
   unfold B_ at hd
   refine Wp.sr<|Aa.op (Ab.lss rf rf) rf<|Aa.Af<|Wp.seq ?_
   refine Wp.cond rf (fun hb6=>?_) (fun hb6=>?_)
   ·
    obtain⟨hb6,hd⟩:=bT hb6 hd
    refine Wp.skip<|At.Ad<|Wp.seq<|Wp.block<|Wp.seq ?_
    obtain⟨x7,hx7,hd⟩:=Ae hd
    have hx7_:=Ah hx7
    refine Wp.region ?_
    obtain⟨_,rfl,hc4⟩:=AW.get (hv7.mono hl6) hx7
    refine Aa.op (Ab.Bo BF Cp rf (hv7.mono hl6).sl rf (Ah hx7)) rf<|Aa.op (Ab.FJ u3 rf rf (hc4 0 _ rf)) rf<|Aa.op (Ab.assign rf) rf<|Aa.Af<|Wp.seq ?_
    obtain⟨x8,hx8,hd⟩:=Ae hd
    have hx8_:=Ah hx8
    refine Wp.region<|Aa.op (Ab.move rf) rf<|Aa.op (Ab.nilCheck rf) rf<|Aa.op (Ab.AV (o':=1) IU rf rf) rf<|Aa.op (Ab.Am (i:=6) (v:=v2) u64 rf rf rf rf) rf<|Aa.op (Ab.move rf) rf ?_
    obtain⟨_,⟨v16,rfl,hv8⟩,hc5⟩:=AW.get (hv2.mono (((((hl1.trans hl2).trans hl3).trans hl4).trans hl5).trans hl6)) hx8
    refine Aa.op (Ab.Bo u64 PG rf (hv2.mono (((((hl1.trans hl2).trans hl3).trans hl4).trans hl5).trans hl6)).sl rf (Ah hx8)) rf<|Aa.op (Ab.FJ TA rf rf (hc5 0 _ rf)) rf ?_
    have hb7:=hv8.le
    refine Aa.op (Ab.len TA rf hv8.sl) rf<|Aa.op (Ab.move rf) rf<|Aa.Af<|Wp.block<|Wp.A_ (fun m LL HH OO=> ∃(l6:List Int),∃(k4:Nat),∃(v17:Value),∃(xs8:List Value),[(0,(ptr B0 0)),(2,(.int .i64 a2)),(7,v5),(8,v12),(9,(.map (some B2))),(10,v11),(11,(.int .i64 (k1:Int))),(12,v13),(14,(ptr B3 0)),(15,(.int .u8 ((De x5:Nat):Int))),(17,v17),(50,v5),(51,(.int .i64 (((BH x1).length:Nat):Int))),(52,(.int .i64 (k2:Int))),(64,v14),(65,(.int .i64 (x6.length:Int))),(66,(.int .i64 (k3:Int))),(76,v16),(77,(.int .i64 (x8.length:Int))),(78,(.int .i64 (k4:Int)))]=LL∧ .row v17 3 1 l6.length xs8:: .AM B3 (.cells #[(Ak (word x5 0)),(Ak (word x5 1)),(Ak (word x5 2)),(Ak (word x5 3))] 34 (0,0)):: .row v13 109 5 l4.length xs6:: .row v11 43 2 l2.length xs4::Es (Ku u9) (I7 u3) B2 m4:: .row v12 55 1 l3.length xs5:: .AM B0 (.cells #[v1,v2,(.int .i64 a0.2.2)] 66 (0,0))::O=OO∧Ax m (fun p nx=>B9 fu x5 k3 nx3 x8 p.1 p.2 nx) (l6,k4)=some r∧Au Ao HH l6 xs8) fu ⟨l5,0,v15,xs7,rf,rf,hd,hq7⟩ (Sub.of rf) ?_
    intro m9 L4 H7 O4 hl7 hI4
    obtain⟨l6,k4,v17,xs8,rfl,rfl,hd,hq8⟩:=hI4
    obtain⟨m10,nx4,rfl,hn4,hd⟩:=A9 hd
    replace hd:B9 fu x5 k3 nx3 x8 l6 k4 nx4=some r:=hd
    unfold B9 at hd
    refine Wp.sr<|Aa.op (Ab.lss rf rf) rf<|Aa.Af<|Wp.seq ?_
    refine Wp.cond rf (fun hb8=>?_) (fun hb8=>?_)
    ·
     obtain⟨hb8,hd⟩:=bT hb8 hd
     refine Wp.skip<|At.Ad<|Wp.seq<|Wp.block<|Wp.seq ?_
     obtain⟨x9,hx9,hd⟩:=Ae hd
     have hx9_:=Ah hx9
     refine Wp.region ?_
     obtain⟨_,⟨_,_,rfl,rfl,⟨_,_,rfl,rfl,rfl⟩⟩,hc6⟩:=AW.get (hv8.mono hl7) hx9
     refine Aa.op (Ab.Bo TA JU rf (hv8.mono hl7).sl rf (Ah hx9)) rf<|Aa.op (Ab.C9 (vs:=[(Ak (word x9.1 0)),(Ak (word x9.1 1)),(Ak (word x9.1 2)),(Ak (word x9.1 3)),(.int .i64 x9.2.1),(.int .i64 x9.2.2)]) ZF rf JU rf rf (fun j u hj=>(hc6 j u hj))) rf<|Aa.alloc (cs:= #[(Ak (word (fun _=>false) 0)),(Ak (word (fun _=>false) 1)),(Ak (word (fun _=>false) 2)),(Ak (word (fun _=>false) 3)),(.int .i64 0),(.int .i64 0)]) JU (by simp only[zw];rfl) rf fun B4=>Aa.AP (i:=0) (cs':= #[(Ak (word x9.1 0)),(Ak (word x9.1 1)),(Ak (word x9.1 2)),(Ak (word x9.1 3)),(.int .i64 x9.2.1),(.int .i64 x9.2.2)]) rf rf JU rf rf (Bc (Ac rf (Ac rf (Ac rf (Ac rf (Ac rf (Ac rf (As)))))))) rf ?_
     refine Aa.own (O:=_::_::_::_::_::_::_::_::_) ?_ rf
     refine Aa.Af<|Wp.sr<|Aa.op (Ab.AV (o':=0) Rq rf rf) rf<|Aa.op (Ab.GS (i:=0) (vs:=[(Ak (word x9.1 0)),(Ak (word x9.1 1)),(Ak (word x9.1 2)),(Ak (word x9.1 3))]) LS rf BJ rf rf rf) rf<|Aa.op (Ab.move rf) rf<|Aa.op (Ab.call M0 rf (@Qt _ _ x9.1 ((De x5:Nat):Int) (by omega) (by omega))) rf<|Aa.Af ?_
     refine Wp.cond rf (fun hb9=>?_) (fun hb9=>?_)
     ·
      replace hd:=Fs hb9 hd
      obtain⟨ha4,hd⟩:=Al hd
      refine Wp.region<|Aa.op (Ab.move rf) rf<|Aa.op (Ab.AV (o':=4) UI rf rf) rf<|Aa.op (Ab.Am (i:=0) (v:=(.int .i64 x9.2.1)) u3 rf rf rf rf) rf<|Aa.A1 (c:=Ao) (y:=x9.2.1) (cs:=[(.int .i64 x9.2.1)]) BF Cp rf rf rf rf (rf) rf fun v18 xs9 hq9=>Aa.Df (i:=2) (j:=0) hq8 hq9 BF Cp rf (by decide) rf rf rf rf (by decide) ha4 rf fun v19 xs10 hq10=>Aa.drop (i:=0)<|Aa.op (Ab.assign rf) rf ?_
      refine Aa.nil<|At.AE<|At.Ad<|Wp.region<|Aa.op (Ab.add rf rf (Aq (by omega))) rf<|Aa.op (Ab.move rf) rf<|Aa.nil<|At.AR [1,2,3,4,5,6,7] 8 rf rf rf ?_
      refine At.AO (Hp.le.refl _) ⟨(l6++([x9.2.1]:List Int)),(k4+1),v19,xs10,rf,rf,(by rw[←hn4];exact hd),hq10⟩ (Sub.of rf)
     replace hd:=Ft hb9 hd
     refine Wp.skip<|At.AE<|At.Ad<|Wp.region<|Aa.op (Ab.add rf rf (Aq (by omega))) rf<|Aa.op (Ab.move rf) rf<|Aa.nil<|At.AR [1,2,3,4,5,6,7] 8 rf rf rf ?_
     refine At.AO (Hp.le.refl _) ⟨l6,(k4+1),v17,xs8,rf,rf,(by rw[←hn4];exact hd),hq8⟩ (Sub.of rf)
    obtain⟨hb8,hd⟩:=bF hb8 hd
    refine Wp.exit<|At.An<|At.An<|At.Az<|At.AE<|At.Ad<|Wp.region<|Aa.op (Ab.add rf rf (Aq (by omega))) rf ?_
    refine Aa.op (Ab.move rf) rf<|Aa.nil ?_
    refine At.AO hl7 ⟨l6,(k3+1),v17,xs8,rf,rf,(by rw[←hn3];exact hd),hq8⟩ (Sub.of rf)
   obtain⟨hb6,hd⟩:=bF hb6 hd
   refine Wp.exit<|At.An<|At.An<|At.Az<|At.Ad<|Wp.seq<|Wp.sr<|Aa.op (Ab.move rf) rf ?_
   refine Aa.A7 (i:=0) rf fun hb10=>?_
   refine Aa.op (Ab.BR (i:=0) BF rf rf) rf<|Aa.op (Ab.eql rf rf) rf<|Aa.Af ?_
   refine Wp.cond rf (fun hb11=>?_) (fun hb11=>?_)
   ·
    obtain⟨hb11,hd⟩:=bT hb11 hd
    refine Wp.exit<|At.An<|At.Az<|At.Ad<|Wp.region<|Aa.op (Ab.add rf rf (Aq (by omega))) rf<|Aa.op (Ab.move rf) rf<|Aa.nil ?_
    refine At.AR [2,3,4,5,6] 7 rf rf rf ?_
    refine At.AO hl6 ⟨l3,l4,m4,(k2+1),v12,xs5,v13,xs6,rf,rf,(by rw[←hn2];exact hd),(hq5.mono hl6),(hq6.mono hl6)⟩ (Sub.of rf)
   obtain⟨hb11,hd⟩:=bF hb11 hd
   refine Wp.skip<|At.Ad<|Wp.seq ?_
   obtain⟨x10,hx10,hd⟩:=Ae hd
   refine Wp.region<|Aa.op (Ab.move rf) rf<|Aa.op (Ab.move rf) rf<|Aa.AR [6,0,1,2,3,4,5] 7 rf rf rf<|Aa.E8 (BC.call Sn rf (EP (hv1.mono (((((hl1.trans hl2).trans hl3).trans hl4).trans hl5).trans hl6)) (hv2.mono (((((hl1.trans hl2).trans hl3).trans hl4).trans hl5).trans hl6)) hq7 hx10)) rf ?_
   rintro _ H8 _ hl8 ⟨⟨v20,rfl,hv9⟩,rfl⟩
   refine Aa.op (Ab.assign rf) rf<|Aa.Af<|Wp.seq ?_
   obtain⟨x11,hx11,hd⟩:=Ae hd
   refine Wp.region<|Aa.op (Ab.move rf) rf<|Aa.op (Ab.call UW rf (M_ hv9 (hG.mono ((((((hl1.trans hl2).trans hl3).trans hl4).trans hl5).trans hl6).trans hl8)) hx11)) rf<|Aa.op (Ab.assign rf) rf<|Aa.Af<|Wp.seq<|Wp.seq ?_
   obtain⟨ha5,hd⟩:=Al hd
   refine Wp.region<|Aa.op (Ab.move rf) rf<|Aa.op (Ab.move rf) rf<|Aa.op (Ab.MN (K:=(Ku u9)) (M:=(I7 u3)) (i:=4) (k:=x11) (z:=0) VF Cp (show C0 0 by decide) rf rf ha5 rf) rf<|Aa.op (Ab.move rf) rf<|Aa.op (Ab.extract rf rf) rf<|Aa.op (Ab.extract rf rf) rf<|Aa.op (Ab.assign rf) rf ?_
   refine Aa.op (Ab.assign rf) rf<|Aa.Af<|Wp.sr<|Aa.op (Ab.move rf) rf<|Aa.op (Ab.not rf) rf<|Aa.Af ?_
   refine Wp.Fp (fun LL HH OO=> ∃(l7:List (List Int)),∃(m11:List (Cb×Int)),∃(v21:Value),∃(xs11:List Value),[(0,(ptr B0 0)),(2,(.int .i64 a2)),(7,v5),(8,v21),(9,(.map (some B2))),(10,v11),(11,(.int .i64 (k1:Int))),(12,v13),(14,(ptr B3 0)),(22,(sv x11)),(50,v5),(51,(.int .i64 (((BH x1).length:Nat):Int))),(52,(.int .i64 (k2:Int)))]=LL∧ .AM B0 (.cells #[v1,v2,(.int .i64 a0.2.2)] 66 (0,0)):: .AM B3 (.cells #[(Ak (word x5 0)),(Ak (word x5 1)),(Ak (word x5 2)),(Ak (word x5 3))] 34 (0,0)):: .row v13 109 5 l4.length xs6:: .row v11 43 2 l2.length xs4::Es (Ku u9) (I7 u3) B2 m11:: .row v21 55 1 l7.length xs11::O=OO∧Ct fu l4 k2 nx2 x5 x11 l7 m11=some r∧Au (cL Ao) HH l7 xs11) ?_ ?_
   ·
    refine Wp.cond rf (fun hb12=>?_) (fun hb12=>?_)
    ·
     replace hd:=Fs hb12 hd
     refine Wp.seq ?_
     obtain⟨ha6,hd⟩:=Al hd
     obtain⟨ha7,hd⟩:=Al hd
     obtain⟨ha8,hd⟩:=Al hd
     refine Wp.region<|Aa.op (Ab.move rf) rf<|Aa.op (Ab.move rf) rf<|Aa.op (Ab.move rf) rf ?_
     refine Aa.A7 (i:=5) rf fun hb13=>?_
     refine Aa.op (Ab.BR (i:=5) Ey rf rf) rf<|Aa.mapUpdate (K:=(Ku u9)) (M:=(I7 u3)) (k:=x11) (v:=(l3.length:Int)) 4 VF rf rf rf ha6 ha7 ha8 rf<|Aa.Af ?_
     obtain⟨ha9,hd⟩:=Al hd
     refine Wp.region<|Aa.op (Ab.move rf) rf<|Aa.op (Ab.move rf) rf<|Aa.A1 (c:=(cL Ao)) (y:=x10) (cs:=[v20]) Ey Dx rf rf rf (DZ hv9.one) (⟨_,rf,hv9⟩) rf fun v22 xs12 hq11=>Aa.Df (i:=6) (j:=0) (hq5.mono (hl6.trans hl8)) hq11 Ey Dx rf (by decide) rf rf rf rf (by decide) ha9 rf fun v23 xs13 hq12=>Aa.drop (i:=0)<|Aa.op (Ab.assign rf) rf<|Aa.nil ?_
     refine At.Cn (Hp.le.refl _) ⟨(l3++([x10]:List (List Int))),(DY m4 x11 (l3.length:Int)),v23,xs13,rf,rf,hd,hq12⟩ (Sub.of rf)
    replace hd:=Ft hb12 hd
    refine Wp.skip ?_
    refine At.Cn (Hp.le.refl _) ⟨l3,m4,v12,xs5,rf,rf,hd,(hq5.mono (hl6.trans hl8))⟩ (Sub.of rf)
   intro L5 H9 O5 hl9 hI5
   obtain⟨l7,m11,v21,xs11,rfl,rfl,hd,hq13⟩:=hI5
   unfold Ct at hd
   obtain⟨ha10,hd⟩:=Al hd
   obtain⟨ha11,hd⟩:=Al hd
   refine Wp.region<|Aa.op (Ab.move rf) rf<|Aa.op (Ab.AF (i:=1) LS rf BJ rf rf rf) rf<|Aa.op (Ab.move rf) rf<|Aa.op (Ab.move rf) rf<|Aa.op (Ab.lookup (K:=(Ku u9)) (M:=(I7 u3)) (i:=4) (k:=x11) (z:=0) VF Cp (show C0 0 by decide) rf rf ha10 rf) rf<|Aa.op (Ab.Bi (vs:=[(0,(.agg #[(Ak (word x5 0)),(Ak (word x5 1)),(Ak (word x5 2)),(Ak (word x5 3))])),(1,(.int .i64 ((AQ m11 x11).getD 0)))]) (cs:= #[(Ak (word x5 0)),(Ak (word x5 1)),(Ak (word x5 2)),(Ak (word x5 3)),(.int .i64 ((AQ m11 x11).getD 0))]) XE Mh rf rf (AJ rf (AJ rf (Bd))) rf) rf<|Aa.A1 (c:=(cP IG Ao)) (y:=(x5,(AQ m11 x11).getD 0)) (cs:=[(Ak (word x5 0)),(Ak (word x5 1)),(Ak (word x5 2)),(Ak (word x5 3)),(.int .i64 ((AQ m11 x11).getD 0))]) VH Mh rf rf rf rf (⟨[(Ak (word x5 0)),(Ak (word x5 1)),(Ak (word x5 2)),(Ak (word x5 3))],[(.int .i64 ((AQ m11 x11).getD 0))],rf,rf,rf⟩) rf fun v24 xs14 hq14=>?_
   refine Aa.Df (i:=3) (j:=0) (hq6.mono ((hl6.trans hl8).trans hl9)) hq14 VH Mh rf (by decide) rf rf rf rf (by decide) ha11 rf fun v25 xs15 hq15=>Aa.drop (i:=0)<|Aa.op (Ab.assign rf) rf<|Aa.nil<|At.AE<|At.Ad<|Wp.region<|Aa.op (Ab.add rf rf (Aq (by omega))) rf ?_
   refine Aa.op (Ab.move rf) rf<|Aa.nil<|At.AR [2,3,4,5,0] 6 rf rf rf ?_
   refine At.AO ((hl6.trans hl8).trans hl9) ⟨l7,(l4++([(x5,(AQ m11 x11).getD 0)]:List (AD×Int))),m11,(k2+1),v21,xs11,v25,xs15,rf,rf,(by rw[←hn2];exact hd),hq13,hq15⟩ (Sub.of rf)
  obtain⟨hb4,hd⟩:=bF hb4 hd
  refine Wp.exit<|At.An<|At.An<|At.Az<|At.Ad<|Wp.seq ?_
  obtain⟨x12,hx12,hd⟩:=Ae hd
  have hx12_:=Ah hx12
  obtain⟨x13,hx13,hd⟩:=Ae hd
  refine Wp.region<|Aa.op (Ab.move rf) rf<|Aa.op (Ab.move rf) rf ?_
  obtain⟨_,⟨v26,rfl,hv10⟩,hc7,hc7_⟩:=Au.get hq5 (AG hx12).2
  refine Aa.op (Ab.Bu (j:=3) Ey Dx rf rf rf (Ah hx12)) rf<|Aa.op (Ab.Ch (i:=3) (k:=k1*1+0) BF rf rf rf (hc7 0 _ rf)) rf<|Aa.op (Ab.move rf) rf<|Aa.op (Ab.call Y6 rf (Ki hv10 hx13)) rf<|Aa.op (Ab.Bi (vs:=[(0,(.bool x13))]) (cs:= #[(.bool x13),(.slice none 0 0)]) Hq Bl rf rf (AJ rf (Bd)) rf) rf<|Aa.alloc (cs:= #[(.bool false),(.slice none 0 0)]) Bl rf rf fun B5=>Aa.AP (i:=0) (cs':= #[(.bool x13),(.slice none 0 0)]) rf rf Bl rf rf (Bc (Ac rf (Ac rf (As)))) rf ?_
  refine Aa.own (O:=_::_::_::_::_::_::_) ?_ rf
  refine Aa.Af<|Wp.seq<|Wp.sr<|Aa.op (Ab.move rf) rf ?_
  refine Aa.A7 (i:=1) rf fun hb14=>?_
  refine Aa.op (Ab.BR (i:=1) VH rf rf) rf<|Aa.op (Ab.move rf) rf<|Aa.Af<|Wp.block<|Wp.BG 46 3<|Wp.A_ (fun m LL HH OO=> ∃(l8:List (Int×Int×Int)),∃(k5:Nat),∃(v27:Value),∃(xs16:List Value),[(0,(ptr B0 0)),(2,(.int .i64 a2)),(7,v5),(8,v12),(9,(.map (some B2))),(10,v11),(11,(.int .i64 (k1:Int))),(25,(ptr B5 0)),(133,v13),(134,(.int .i64 (l4.length:Int))),(135,(.int .i64 (k5:Int)))]=LL∧ .row v27 46 3 l8.length xs16:: .AM B5 (.cells #[(.bool x13),v27] 43 (0,0)):: .row v13 109 5 l4.length xs6:: .row v11 43 2 l2.length xs4::Es (Ku u9) (I7 u3) B2 m4:: .row v12 55 1 l3.length xs5:: .AM B0 (.cells #[v1,v2,(.int .i64 a0.2.2)] 66 (0,0))::O=OO∧Ax m (fun p nx=>Cu fu l2 k1 nx1 l3 l4 m4 x13 p.1 p.2 nx) (l8,k5)=some r∧Au (cP AZ (cP AZ Ao)) HH l8 xs16) fu ⟨([]:List (Int×Int×Int)),0,(.slice none 0 0),[],rf,rf,hd,(Au.nil (c:=(cP AZ (cP AZ Ao))) (H:=H5))⟩ (Sub.of rf) ?_
  intro m12 L6 H10 O6 hl10 hI6
  obtain⟨l8,k5,v27,xs16,rfl,rfl,hd,hq16⟩:=hI6
  obtain⟨m13,nx5,rfl,hn5,hd⟩:=A9 hd
  replace hd:Cu fu l2 k1 nx1 l3 l4 m4 x13 l8 k5 nx5=some r:=hd
  unfold Cu at hd
  refine Wp.sr<|Aa.op (Ab.lss rf rf) rf<|Aa.Af<|Wp.seq ?_
  refine Wp.cond rf (fun hb15=>?_) (fun hb15=>?_)
  ·
   obtain⟨hb15,hd⟩:=bT hb15 hd
   refine Wp.skip<|At.Ad<|Wp.seq<|Wp.block<|Wp.seq ?_
   obtain⟨x14,hx14,hd⟩:=Ae hd
   have hx14_:=Ah hx14
   refine Wp.region ?_
   obtain⟨_,⟨_,_,rfl,rfl,rfl⟩,hc8,hc8_⟩:=Au.get (hq6.mono hl10) (AG hx14).2
   refine Aa.op (Ab.Bu (j:=2) VH Mh rf rf rf (Ah hx14)) rf<|Aa.op (Ab.Rl (i:=2) (vs:=[(Ak (word x14.1 0)),(Ak (word x14.1 1)),(Ak (word x14.1 2)),(Ak (word x14.1 3)),(.int .i64 x14.2)]) ZG rf Mh (by simp) rf rf hc8) rf<|Aa.alloc (cs:= #[(Ak (word (fun _=>false) 0)),(Ak (word (fun _=>false) 1)),(Ak (word (fun _=>false) 2)),(Ak (word (fun _=>false) 3)),(.int .i64 0)]) Mh (by simp only[zw];rfl) rf fun B6=>Aa.AP (i:=0) (cs':= #[(Ak (word x14.1 0)),(Ak (word x14.1 1)),(Ak (word x14.1 2)),(Ak (word x14.1 3)),(.int .i64 x14.2)]) rf rf Mh rf rf (Bc (Ac rf (Ac rf (Ac rf (Ac rf (Ac rf (As))))))) rf ?_
   refine Aa.own (O:=_::_::_::_::_::_::_::_::_) ?_ rf
   refine Aa.Af<|Wp.sr<|Aa.op (Ab.AV (o':=0) Wn rf rf) rf<|Aa.op (Ab.GS (i:=0) (vs:=[(Ak (word x14.1 0)),(Ak (word x14.1 1)),(Ak (word x14.1 2)),(Ak (word x14.1 3))]) LS rf BJ rf rf rf) rf<|Aa.E8 (BC.call Y5 rf (@Mw _ _ x14.1)) rf ?_
   rintro _ H11 _ hl11 ⟨⟨v28,rfl,hv11⟩,rfl⟩
   have hb16:=hv11.le
   refine Aa.op (Ab.len Yl rf hv11.sl) rf<|Aa.op (Ab.move rf) rf<|Aa.Af<|Wp.block<|Wp.A_ (fun m LL HH OO=> ∃(l9:List (Int×Int×Int)),∃(k6:Nat),∃(v29:Value),∃(xs17:List Value),[(0,(ptr B0 0)),(2,(.int .i64 a2)),(7,v5),(8,v12),(9,(.map (some B2))),(10,v11),(11,(.int .i64 (k1:Int))),(25,(ptr B5 0)),(27,(ptr B6 0)),(133,v13),(134,(.int .i64 (l4.length:Int))),(135,(.int .i64 (k5:Int))),(141,v28),(142,(.int .i64 (((Py x14.1).length:Nat):Int))),(143,(.int .i64 (k6:Int)))]=LL∧ .AM B6 (.cells #[(Ak (word x14.1 0)),(Ak (word x14.1 1)),(Ak (word x14.1 2)),(Ak (word x14.1 3)),(.int .i64 x14.2)] 109 (0,0)):: .row v29 46 3 l9.length xs17:: .AM B5 (.cells #[(.bool x13),v29] 43 (0,0)):: .row v13 109 5 l4.length xs6:: .row v11 43 2 l2.length xs4::Es (Ku u9) (I7 u3) B2 m4:: .row v12 55 1 l3.length xs5:: .AM B0 (.cells #[v1,v2,(.int .i64 a0.2.2)] 66 (0,0))::O=OO∧Ax m (fun p nx=>B8 fu k5 nx5 x14 p.1 p.2 nx) (l9,k6)=some r∧Au (cP AZ (cP AZ Ao)) HH l9 xs17) fu ⟨l8,0,v27,xs16,rf,rf,hd,(hq16.mono hl11)⟩ (Sub.of rf) ?_
   intro m14 L7 H12 O7 hl12 hI7
   obtain⟨l9,k6,v29,xs17,rfl,rfl,hd,hq17⟩:=hI7
   obtain⟨m15,nx6,rfl,hn6,hd⟩:=A9 hd
   replace hd:B8 fu k5 nx5 x14 l9 k6 nx6=some r:=hd
   unfold B8 at hd
   refine Wp.sr<|Aa.op (Ab.lss rf rf) rf<|Aa.Af<|Wp.seq ?_
   refine Wp.cond rf (fun hb17=>?_) (fun hb17=>?_)
   ·
    obtain⟨hb17,hd⟩:=bT hb17 hd
    refine Wp.skip<|At.Ad<|Wp.seq<|Wp.block<|Wp.seq ?_
    obtain⟨x15,hx15,hd⟩:=Ae hd
    have hx15_:=Ah hx15
    refine Wp.region ?_
    obtain⟨_,⟨_,_,rfl,⟨rfl,hr1,hr2⟩,⟨rfl,hr3,hr4⟩⟩,hc9⟩:=AW.get (hv11.mono hl12) hx15
    refine Aa.op (Ab.Bo Yl I_ rf (hv11.mono hl12).sl rf (Ah hx15)) rf<|Aa.op (Ab.C9 (vs:=[(.int .u8 x15.1),(.int .u8 x15.2)]) Xl rf I_ rf rf (fun j u hj=>(hc9 j u hj))) rf<|Aa.alloc (cs:= #[(.int .u8 0),(.int .u8 0)]) I_ rf rf fun B7=>Aa.AP (i:=0) (cs':= #[(.int .u8 x15.1),(.int .u8 x15.2)]) rf rf I_ rf rf (Bc (Ac rf (Ac rf (As)))) rf ?_
    refine Aa.own (O:=_::_::_::_::_::_::_::_::_::_) ?_ rf
    refine Aa.Af ?_
    obtain⟨ha12,hd⟩:=Al hd
    refine Wp.region<|Aa.op (Ab.AV (o':=1) Bv rf rf) rf<|Aa.op (Ab.Am (i:=3) (v:=v29) CC rf rf rf rf) rf<|Aa.op (Ab.El (off':=0) Xl VO rf rf (by decide) rf) rf<|Aa.op (Ab.Am (i:=0) (v:=(.int .u8 x15.1)) u5 rf rf rf rf) rf<|Aa.op (Ab.El (off':=1) Xl VO rf rf (by decide) rf) rf<|Aa.op (Ab.Am (i:=0) (v:=(.int .u8 x15.2)) u5 rf rf rf rf) rf<|Aa.op (Ab.AV (o':=4) Wm rf rf) rf ?_
    refine Aa.op (Ab.Am (i:=1) (v:=(.int .i64 x14.2)) u3 rf rf rf rf) rf<|Aa.op (Ab.Bi (vs:=[(0,(.int .u8 x15.1)),(1,(.int .u8 x15.2)),(2,(.int .i64 x14.2))]) (cs:= #[(.int .u8 x15.1),(.int .u8 x15.2),(.int .i64 x14.2)]) Ho BA rf rf (AJ rf (AJ rf (AJ rf (Bd)))) rf) rf<|Aa.A1 (c:=(cP AZ (cP AZ Ao))) (y:=(x15.1,x15.2,x14.2)) (cs:=[(.int .u8 x15.1),(.int .u8 x15.2),(.int .i64 x14.2)]) CC BA rf rf rf rf (⟨[(.int .u8 x15.1)],[(.int .u8 x15.2),(.int .i64 x14.2)],rf,⟨rf,(show(0:Int)≤x15.1 by omega),(show x15.1≤(255:Int) by omega)⟩,⟨[(.int .u8 x15.2)],[(.int .i64 x14.2)],rf,⟨rf,(show(0:Int)≤x15.2 by omega),(show x15.2≤(255:Int) by omega)⟩,rf⟩⟩) rf fun v30 xs18 hq18=>Aa.Df (i:=3) (j:=0) hq17 hq18 CC BA rf (by decide) rf rf rf rf (by decide) ha12 rf fun v31 xs19 hq19=>Aa.drop (i:=0)<|Aa.op (Ab.AV (o':=1) Bv rf rf) rf<|Aa.Bm (i:=2) rf fun ho1=>Aa.Cc (i:=3) rf rf ho1 Mg rf (Nat.le_of_ble_eq_true rf) ?_
    refine Aa.own (O:=_::_::_::_::_::_::_::_::_::_) ?_ rf
    refine Aa.nil<|At.AE<|At.Ad<|Wp.region<|Aa.op (Ab.add rf rf (Aq (by omega))) rf<|Aa.op (Ab.move rf) rf<|Aa.nil<|At.AR [1,2,3,4,5,6,7,8] 9 rf rf rf ?_
    refine At.AO (Hp.le.refl _) ⟨(l9++([(x15.1,x15.2,x14.2)]:List (Int×Int×Int))),(k6+1),v31,xs19,rf,rf,(by rw[←hn6];exact hd),hq19⟩ (Sub.of rf)
   obtain⟨hb17,hd⟩:=bF hb17 hd
   refine Wp.exit<|At.An<|At.An<|At.Az<|At.AE<|At.Ad<|Wp.region<|Aa.op (Ab.add rf rf (Aq (by omega))) rf ?_
   refine Aa.op (Ab.move rf) rf<|Aa.nil<|At.AR [1,2,3,4,5,6,7] 8 rf rf rf ?_
   refine At.AO (hl11.trans hl12) ⟨l9,(k5+1),v29,xs17,rf,rf,(by rw[←hn5];exact hd),hq17⟩ (Sub.of rf)
  obtain⟨hb15,hd⟩:=bF hb15 hd
  refine Wp.exit<|At.An<|At.An<|At.Az<|At.Ad<|Wp.seq ?_
  obtain⟨ha13,hd⟩:=Al hd
  obtain⟨ha14,hd⟩:=Al hd
  refine Wp.region<|Aa.op (Ab.AV (o':=1) Bv rf rf) rf<|Aa.op (Ab.Am (i:=1) (v:=v27) CC rf rf rf rf) rf<|Aa.E8 (BC.call Y4 rf (Xt hq16 ha13 ha14)) rf ?_
  rintro _ H13 _ hl13 ⟨xs20,rfl,hq20,rfl⟩
  refine Aa.Af ?_
  obtain⟨ha15,hd⟩:=Al hd
  refine Wp.region<|Aa.op (Ab.move rf) rf<|Aa.op (Ab.AF (i:=1) NA rf Bl rf rf rf) rf ?_
  refine Aa.A7 (i:=0) rf fun hb18=>?_
  refine Aa.freeze (i:=0) rf fun H14 hl14 hs1=>?_
  have hv12:=AW.of (c:=(cP AZ (cP AZ Ao))) hs1 rfl (hq20.mono hl14) hb18
  refine Aa.A1 (c:=(cP cB (cL (cP AZ (cP AZ Ao))))) (y:=(x13,EV FK l8)) (cs:=[(.bool x13),v27]) CG Bl rf rf rf rf (⟨[(.bool x13)],[v27],rf,rf,⟨_,rf,hv12⟩⟩) rf fun v32 xs21 hq21=>Aa.Df (i:=3) (j:=0) (hq4.mono (((hl5.trans hl10).trans hl13).trans hl14)) hq21 CG Bl rf (by decide) rf rf rf rf (by decide) ha15 rf fun v33 xs22 hq22=>Aa.drop (i:=0)<|Aa.op (Ab.assign rf) rf<|Aa.nil<|At.AE<|At.Ad<|Wp.region ?_
  refine Aa.op (Ab.move rf) rf<|Aa.op (Ab.add rf rf (Aq (by omega))) rf<|Aa.op (Ab.assign rf) rf<|Aa.nil<|At.AR [2,3,4,5] 6 rf rf rf ?_
  refine At.AO (((hl5.trans hl10).trans hl13).trans hl14) ⟨l3,(l2++([(x13,EV FK l8)]:List (Bool×(List (Int×Int×Int))))),m4,(k1+1),v12,xs5,v33,xs22,rf,rf,(by rw[←hn1];exact hd),(hq5.mono ((hl10.trans hl13).trans hl14)),hq22⟩ (Sub.of rf)
 obtain⟨hb2,hd⟩:=bF hb2 hd
 refine Wp.exit<|At.An<|At.An<|At.Az<|At.Ad<|Wp.sr<|Aa.op (Ab.move rf) rf<|Aa.op (Ab.assign rf) rf ?_
 refine Aa.Af<|Wp.ret ?_
 refine At.A7 (i:=0) rf fun hb19=>?_
 refine At.freeze (i:=0) rf fun H15 hl15 hs2=>?_
 have hv13:=AW.of (c:=(cP cB (cL (cP AZ (cP AZ Ao))))) hs2 rfl (hq4.mono hl15) hb19
 obtain rfl:=si hd
 exact At.DB rf (RV.tmp (v:=v11) rf) (fun w hs=>⟨_,_,_,rf,((((hl1.trans hl2).trans hl3).trans hl4).trans hl15),(hs.AR [2] 3 rf rf rf),⟨⟨v11,rf,hv13⟩,rf⟩⟩)
theorem Q9{fu:Nat} :∀ {H:Hp} {O:List Bj} {a0:Rx} {a1:Int} {v1:Value} {r:Int} (hv1:AW Kc H a0.AL v1) (hd:CT fu a0 a1=some r),
    Ca Tryz.prog 53 [(.agg #[(.int .i64 a0.kind),(Ak (word a0.set 0)),(Ak (word a0.set 1)),(Ak (word a0.set 2)),(Ak (word a0.set 3)),v1]),(.int .i64 a1)] H O (.int .i64 r):=by
 induction fu with
 |zero=>intros;rename_i hd;exact absurd hd (by simp[CT])
 |succ fu ih=>
 intro H O a0 a1 v1 r hv1 hd
 replace hd:CM fu (CT fu) a0 a1=some r:=hd
 generalize CT fu=slf at hd ih
 intro w hs
 refine Bz Tryz.func53 rf rf rf ?_ hs
 clear hs w
 unfold CM at hd
 refine Wp.sr<|Aa.box (cs:= #[(.int .i64 a0.kind),(Ak (word a0.set 0)),(Ak (word a0.set 1)),(Ak (word a0.set 2)),(Ak (word a0.set 3)),v1]) rf rf rf fun B2=>Aa.op (Ab.assign rf) rf<|Aa.Af<|Wp.seq<|Wp.sr<|Aa.op (Ab.move rf) rf<|Aa.op (Ab.gtr rf rf) rf ?_
 refine Aa.Af ?_
 refine Wp.cond rf (fun hb1=>?_) (fun hb1=>?_)
 ·
  obtain⟨hb1,hd⟩:=bT hb1 hd
  refine Wp.sr<|Aa.op (Ab.assign rf) rf<|Aa.Af<|Wp.ret<|At.Av ?_
  obtain rfl:=si hd
  exact At.q1 1 (Hp.le.refl _) rf (RV.tmp rf) rf
 obtain⟨hb1,hd⟩:=bF hb1 hd
 refine Wp.skip<|At.Ad<|Wp.seq<|Wp.seq ?_
 rcases Bool.eq_false_or_eq_true (decide (a0.kind<0))with hg1|hg1
 ·
  obtain⟨hg1_,hd⟩:=bT hg1 hd
  refine Wp.region<|Aa.op (Ab.AV (o':=0) A3 rf rf) rf<|Aa.op (Ab.Am (i:=0) (v:=(.int .i64 a0.kind)) u3 rf rf rf rf) rf<|Aa.op (Ab.Bg (b:=decide (a0.kind<0)) (c:=true) (Ab.lss rf rf) hg1) rf<|Aa.op (Ab.move rf) rf<|Aa.Ai rf rf rf rf<|Aa.Ai rf rf rf rf<|Aa.Ai rf rf rf rf ?_
  refine Aa.op (Ab.AK rf rf) rf<|Aa.op (Ab.move rf) rf<|Aa.Ai rf rf rf rf<|Aa.Ai rf rf rf rf<|Aa.Ai rf rf rf rf<|Aa.Ai rf rf rf rf<|Aa.CS rf rf rf<|Aa.CS rf rf rf ?_
  refine Aa.CS rf rf rf<|Aa.CS rf rf rf<|Aa.Ai rf rf rf rf<|Aa.op (Ab.AK rf rf) rf<|Aa.Af<|Wp.D_ rf<|Wp.sr<|Aa.op (Ab.assign rf) rf ?_
  refine Aa.Af<|Wp.ret<|At.Av ?_
  obtain rfl:=si hd
  exact At.q1 1 (Hp.le.refl _) rf (RV.tmp rf) rf
 obtain⟨hg1_,hd⟩:=bF hg1 hd
 rcases Bool.eq_false_or_eq_true (decide (5<a0.kind))with hg2|hg2
 ·
  obtain⟨hg2_,hd⟩:=bT hg2 hd
  refine Wp.region<|Aa.op (Ab.AV (o':=0) A3 rf rf) rf<|Aa.op (Ab.Am (i:=0) (v:=(.int .i64 a0.kind)) u3 rf rf rf rf) rf<|Aa.op (Ab.Bg (b:=decide (a0.kind<0)) (c:=false) (Ab.lss rf rf) hg1) rf<|Aa.op (Ab.move rf) rf<|Aa.Ay rf rf (Ab.AV (o':=0) A3 rf rf) rf<|Aa.Ay rf rf (Ab.Am (i:=0) (v:=(.int .i64 a0.kind)) u3 rf rf rf rf) rf<|Aa.Ay rf rf (Ab.Bg (b:=decide (5<a0.kind)) (c:=true) (Ab.gtr rf rf) hg2) rf ?_
  refine Aa.op (Ab.AA rf rf) rf<|Aa.op (Ab.move rf) rf<|Aa.Ai rf rf rf rf<|Aa.Ai rf rf rf rf<|Aa.Ai rf rf rf rf<|Aa.Ai rf rf rf rf<|Aa.CS rf rf rf<|Aa.CS rf rf rf ?_
  refine Aa.CS rf rf rf<|Aa.CS rf rf rf<|Aa.Ai rf rf rf rf<|Aa.op (Ab.AK rf rf) rf<|Aa.Af<|Wp.D_ rf<|Wp.sr<|Aa.op (Ab.assign rf) rf ?_
  refine Aa.Af<|Wp.ret<|At.Av ?_
  obtain rfl:=si hd
  exact At.q1 1 (Hp.le.refl _) rf (RV.tmp rf) rf
 obtain⟨hg2_,hd⟩:=bF hg2 hd
 rcases Bool.eq_false_or_eq_true (decide (a0.kind≠2))with hg3|hg3
 ·
  obtain⟨hg3_,hd⟩:=bT hg3 hd
  refine Wp.region<|Aa.op (Ab.AV (o':=0) A3 rf rf) rf<|Aa.op (Ab.Am (i:=0) (v:=(.int .i64 a0.kind)) u3 rf rf rf rf) rf<|Aa.op (Ab.Bg (b:=decide (a0.kind<0)) (c:=false) (Ab.lss rf rf) hg1) rf<|Aa.op (Ab.move rf) rf<|Aa.Ay rf rf (Ab.AV (o':=0) A3 rf rf) rf<|Aa.Ay rf rf (Ab.Am (i:=0) (v:=(.int .i64 a0.kind)) u3 rf rf rf rf) rf<|Aa.Ay rf rf (Ab.Bg (b:=decide (5<a0.kind)) (c:=false) (Ab.gtr rf rf) hg2) rf ?_
  refine Aa.op (Ab.AA rf rf) rf<|Aa.op (Ab.move rf) rf<|Aa.Ay rf rf (Ab.AV (o':=0) A3 rf rf) rf<|Aa.Ay rf rf (Ab.Am (i:=0) (v:=(.int .i64 a0.kind)) u3 rf rf rf rf) rf<|Aa.Ay rf rf (Ab.Bg (b:=decide (a0.kind≠2)) (c:=true) (Ab.neq rf rf) hg3) rf<|Aa.Ay rf rf (Ab.move rf) rf<|Aa.Ay rf rf (Ab.AV (o':=1) J_ rf rf) rf<|Aa.Ay rf rf (Ab.GS (i:=0) (vs:=[(Ak (word a0.set 0)),(Ak (word a0.set 1)),(Ak (word a0.set 2)),(Ak (word a0.set 3))]) LS rf BJ rf rf rf) rf ?_
  refine Aa.Ay rf rf (Ab.cast (v':=(.agg #[(Ak (word (fun _=>false) 0)),(Ak (word (fun _=>false) 1)),(Ak (word (fun _=>false) 2)),(Ak (word (fun _=>false) 3))])) (Ab.Sy (vs:=[]) (cs:= #[.int .u64 0, .int .u64 0, .int .u64 0, .int .u64 0]) LS BJ FN rf rf (Bd) rf) aa) rf<|Aa.Ay rf rf (Ab.XJ (p:=a0.set) (q:=(fun _=>false)) UP LS u32 FN rf rf) rf<|Aa.Ay rf rf (Ab.AK rf rf) rf<|Aa.op (Ab.AA rf rf) rf<|Aa.Af ?_
  refine Wp.cond rf (fun hb2=>?_) (fun hb2=>?_)
  ·
   replace hd:=Fs hb2 hd
   refine Wp.sr<|Aa.op (Ab.assign rf) rf<|Aa.Af<|Wp.ret<|At.Av ?_
   obtain rfl:=si hd
   exact At.q1 1 (Hp.le.refl _) rf (RV.tmp rf) rf
  replace hd:=Ft hb2 hd
  refine Wp.skip<|At.Ad<|Wp.sr<|Aa.op (Ab.AV (o':=5) Et rf rf) rf<|Aa.op (Ab.Am (i:=0) (v:=v1) HO rf rf rf rf) rf ?_
  have hb3:=hv1.le
  refine Aa.op (Ab.len HO rf hv1.sl) rf<|Aa.op (Ab.assign rf) rf<|Aa.Af<|Wp.seq<|Wp.sr<|Aa.op (Ab.AV (o':=0) A3 rf rf) rf<|Aa.op (Ab.Am (i:=0) (v:=(.int .i64 a0.kind)) u3 rf rf rf rf) rf<|Aa.Af ?_
  refine Wp.Fp (fun LL HH OO=>[(1,(.int .i64 a1)),(2,(ptr B2 0))]=LL∧ .AM B2 (.cells #[(.int .i64 a0.kind),(Ak (word a0.set 0)),(Ak (word a0.set 1)),(Ak (word a0.set 2)),(Ak (word a0.set 3)),v1] 37 (0,0))::O=OO∧DA fu a0 a1 slf=some r) ?_ ?_
  ·
   refine Wp.block<|Wp.seq<|Wp.sr<|Aa.op (Ab.eql rf rf) rf<|Aa.op (Ab.assign rf) rf<|Aa.Af ?_
   refine Wp.Fp (fun LL HH OO=> ∃(b1:Bool),[(1,(.int .i64 a1)),(2,(ptr B2 0)),(5,(.int .i64 (a0.AL.length:Int))),(34,(.int .i64 a0.kind)),(37,(.bool b1))]=LL∧ .AM B2 (.cells #[(.int .i64 a0.kind),(Ak (word a0.set 0)),(Ak (word a0.set 1)),(Ak (word a0.set 2)),(Ak (word a0.set 3)),v1] 37 (0,0))::O=OO∧Dz fu a0 a1 slf b1=some r) ?_ ?_
   ·
    refine Wp.cond rf (fun hb4=>?_) (fun hb4=>?_)
    ·
     obtain⟨hb4,hd⟩:=bT hb4 hd
     refine Wp.skip ?_
     refine At.Cn (Hp.le.refl _) ⟨(decide (a0.kind=3)),rf,rf,hd⟩ (Sub.of rf)
    obtain⟨hb4,hd⟩:=bF hb4 hd
    refine Wp.region<|Aa.op (Ab.eql rf rf) rf<|Aa.op (Ab.assign rf) rf<|Aa.nil ?_
    refine At.Cn (Hp.le.refl _) ⟨(decide (a0.kind=4)),rf,rf,hd⟩ (Sub.of rf)
   intro L1 H1 O1 hl1 hI1
   obtain⟨b1,rfl,rfl,hd⟩:=hI1
   unfold Dz at hd
   refine Wp.cond rf (fun hb5=>?_) (fun hb5=>?_)
   ·
    replace hd:=Fs hb5 hd
    refine Wp.sr<|Aa.op (Ab.move rf) rf<|Aa.op (Ab.lss rf rf) rf<|Aa.Af ?_
    refine Wp.cond rf (fun hb6=>?_) (fun hb6=>?_)
    ·
     obtain⟨hb6,hd⟩:=bT hb6 hd
     refine Wp.sr<|Aa.op (Ab.assign rf) rf<|Aa.Af<|Wp.ret<|At.Be<|At.Av ?_
     obtain rfl:=si hd
     exact At.q1 1 hl1 rf (RV.tmp rf) rf
    obtain⟨hb6,hd⟩:=bF hb6 hd
    refine Wp.skip<|At.AE ?_
    refine At.Cn hl1 ⟨rf,rf,hd⟩ (Sub.of rf)
   replace hd:=Ft hb5 hd
   refine Wp.sr<|Aa.op (Ab.eql rf rf) rf<|Aa.op (Ab.assign rf) rf<|Aa.Af ?_
   refine Wp.cond rf (fun hb7=>?_) (fun hb7=>?_)
   ·
    obtain⟨hb7,hd⟩:=bT hb7 hd
    refine Wp.sr<|Aa.op (Ab.move rf) rf<|Aa.op (Ab.neq rf rf) rf<|Aa.Af ?_
    refine Wp.cond rf (fun hb8=>?_) (fun hb8=>?_)
    ·
     obtain⟨hb8,hd⟩:=bT hb8 hd
     refine Wp.sr<|Aa.op (Ab.assign rf) rf<|Aa.Af<|Wp.ret<|At.Be<|At.Av ?_
     obtain rfl:=si hd
     exact At.q1 1 hl1 rf (RV.tmp rf) rf
    obtain⟨hb8,hd⟩:=bF hb8 hd
    refine Wp.skip<|At.AE ?_
    refine At.Cn hl1 ⟨rf,rf,hd⟩ (Sub.of rf)
   obtain⟨hb7,hd⟩:=bF hb7 hd
   refine Wp.sr<|Aa.op (Ab.move rf) rf<|Aa.op (Ab.neq rf rf) rf<|Aa.Af ?_
   refine Wp.cond rf (fun hb9=>?_) (fun hb9=>?_)
   ·
    obtain⟨hb9,hd⟩:=bT hb9 hd
    refine Wp.sr<|Aa.op (Ab.assign rf) rf<|Aa.Af<|Wp.ret<|At.Be<|At.Av ?_
    obtain rfl:=si hd
    exact At.q1 1 hl1 rf (RV.tmp rf) rf
   obtain⟨hb9,hd⟩:=bF hb9 hd
   refine Wp.skip<|At.AE ?_
   refine At.Cn hl1 ⟨rf,rf,hd⟩ (Sub.of rf)
  intro L2 H2 O2 hl2 hI2
  obtain⟨rfl,rfl,hd⟩:=hI2
  unfold DA at hd
  refine Wp.seq<|Wp.sr<|Aa.op (Ab.AV (o':=5) Et rf rf) rf<|Aa.op (Ab.Am (i:=0) (v:=v1) HO rf rf rf rf) rf ?_
  have hb10:=hv1.le
  refine Aa.op (Ab.len HO rf (hv1.mono hl2).sl) rf<|Aa.op (Ab.move rf) rf<|Aa.Af<|Wp.block<|Wp.A_ (fun m LL HH OO=> ∃(k1:Nat),[(1,(.int .i64 a1)),(47,v1),(48,(.int .i64 (a0.AL.length:Int))),(49,(.int .i64 (k1:Int)))]=LL∧ .AM B2 (.cells #[(.int .i64 a0.kind),(Ak (word a0.set 0)),(Ak (word a0.set 1)),(Ak (word a0.set 2)),(Ak (word a0.set 3)),v1] 37 (0,0))::O=OO∧Ax m (E' fu a0 a1 slf) k1=some r) fu ⟨0,rf,rf,hd⟩ (Sub.of rf) ?_
  intro m1 L3 H3 O3 hl3 hI3
  obtain⟨k1,rfl,rfl,hd⟩:=hI3
  obtain⟨m2,nx1,rfl,hn1,hd⟩:=A9 hd
  replace hd:E' fu a0 a1 slf k1 nx1=some r:=hd
  unfold E' at hd
  refine Wp.sr<|Aa.op (Ab.lss rf rf) rf<|Aa.Af<|Wp.seq ?_
  refine Wp.cond rf (fun hb11=>?_) (fun hb11=>?_)
  ·
   obtain⟨hb11,hd⟩:=bT hb11 hd
   refine Wp.skip<|At.Ad<|Wp.seq<|Wp.block<|Wp.seq ?_
   obtain⟨x1,hx1,hd⟩:=Ae hd
   have hx1_:=Ah hx1
   refine Wp.region ?_
   obtain⟨_,hz1,hc1⟩:=AW.get (hv1.mono (hl2.trans hl3)) hx1
   obtain⟨v2,rfl,hv2⟩:=HJ.1 hz1
   refine Aa.op (Ab.Bo HO Cj rf (hv1.mono (hl2.trans hl3)).sl rf (Ah hx1)) rf<|Aa.op (Ab.C9 (vs:=[(.int .i64 x1.kind),(Ak (word x1.set 0)),(Ak (word x1.set 1)),(Ak (word x1.set 2)),(Ak (word x1.set 3)),v2]) JH rf Cj rf rf (fun j u hj=>(hc1 j u hj))) rf<|Aa.alloc (cs:= #[(.int .i64 0),(Ak (word (fun _=>false) 0)),(Ak (word (fun _=>false) 1)),(Ak (word (fun _=>false) 2)),(Ak (word (fun _=>false) 3)),(.slice none 0 0)]) Cj (by simp only[zw];rfl) rf fun B3=>Aa.AP (i:=0) (cs':= #[(.int .i64 x1.kind),(Ak (word x1.set 0)),(Ak (word x1.set 1)),(Ak (word x1.set 2)),(Ak (word x1.set 3)),v2]) rf rf Cj rf rf (Bc (Ac rf (Ac rf (Ac rf (Ac rf (Ac rf (Ac hv2.one (As)))))))) rf ?_
   refine Aa.own (O:=_::_::_) ?_ rf
   refine Aa.Af<|Wp.seq ?_
   obtain⟨ha1,hd⟩:=Al hd
   obtain⟨x2,hx2,hd⟩:=Ae hd
   refine Wp.region<|Aa.op (Ab.AF (i:=0) JH rf Cj rf rf rf) rf<|Aa.op (Ab.move rf) rf<|Aa.op (Ab.add rf rf (Aq ha1)) rf<|Aa.op (Ab.call UX rf (ih hv2 hx2)) rf<|Aa.op (Ab.assign rf) rf<|Aa.Af<|Wp.sr ?_
   refine Aa.op (Ab.move rf) rf<|Aa.op (Ab.neq rf rf) rf<|Aa.Af ?_
   refine Wp.cond rf (fun hb12=>?_) (fun hb12=>?_)
   ·
    obtain⟨hb12,hd⟩:=bT hb12 hd
    refine Wp.sr<|Aa.op (Ab.move rf) rf<|Aa.op (Ab.assign rf) rf<|Aa.Af<|Wp.ret<|At.Be<|At.Av<|At.Av ?_
    refine At.Be<|At.Av ?_
    obtain rfl:=si hd
    exact At.q1 2 (hl2.trans hl3) rf (RV.tmp rf) rf
   obtain⟨hb12,hd⟩:=bF hb12 hd
   refine Wp.skip<|At.AE<|At.Ad<|Wp.region<|Aa.op (Ab.add rf rf (Aq (by omega))) rf<|Aa.op (Ab.move rf) rf<|Aa.nil<|At.AR [1] 2 rf rf rf ?_
   refine At.AO (Hp.le.refl _) ⟨(k1+1),rf,rf,(by rw[←hn1];exact hd)⟩ (Sub.of rf)
  obtain⟨hb11,hd⟩:=bF hb11 hd
  refine Wp.exit<|At.An<|At.An<|At.Az<|At.Ad<|Wp.sr<|Aa.op (Ab.assign rf) rf<|Aa.Af ?_
  refine Wp.ret ?_
  obtain rfl:=si hd
  exact At.q1 1 (hl2.trans hl3) rf (RV.tmp rf) rf
 obtain⟨hg3_,hd⟩:=bF hg3 hd
 refine Wp.region<|Aa.op (Ab.AV (o':=0) A3 rf rf) rf<|Aa.op (Ab.Am (i:=0) (v:=(.int .i64 a0.kind)) u3 rf rf rf rf) rf<|Aa.op (Ab.Bg (b:=decide (a0.kind<0)) (c:=false) (Ab.lss rf rf) hg1) rf<|Aa.op (Ab.move rf) rf<|Aa.Ay rf rf (Ab.AV (o':=0) A3 rf rf) rf<|Aa.Ay rf rf (Ab.Am (i:=0) (v:=(.int .i64 a0.kind)) u3 rf rf rf rf) rf<|Aa.Ay rf rf (Ab.Bg (b:=decide (5<a0.kind)) (c:=false) (Ab.gtr rf rf) hg2) rf ?_
 refine Aa.op (Ab.AA rf rf) rf<|Aa.op (Ab.move rf) rf<|Aa.Ay rf rf (Ab.AV (o':=0) A3 rf rf) rf<|Aa.Ay rf rf (Ab.Am (i:=0) (v:=(.int .i64 a0.kind)) u3 rf rf rf rf) rf<|Aa.Ay rf rf (Ab.Bg (b:=decide (a0.kind≠2)) (c:=false) (Ab.neq rf rf) hg3) rf<|Aa.Ay rf rf (Ab.move rf) rf<|Aa.Ai rf rf rf rf<|Aa.Ai rf rf rf rf ?_
 refine Aa.Ai rf rf rf rf<|Aa.Ai rf rf rf rf<|Aa.Ay rf rf (Ab.AA rf rf) rf<|Aa.op (Ab.AA rf rf) rf<|Aa.Af<|Wp.C2 rf<|Wp.skip<|At.Ad ?_
 refine Wp.sr<|Aa.op (Ab.AV (o':=5) Et rf rf) rf<|Aa.op (Ab.Am (i:=0) (v:=v1) HO rf rf rf rf) rf ?_
 have hb13:=hv1.le
 refine Aa.op (Ab.len HO rf hv1.sl) rf<|Aa.op (Ab.assign rf) rf<|Aa.Af<|Wp.seq<|Wp.sr<|Aa.op (Ab.AV (o':=0) A3 rf rf) rf<|Aa.op (Ab.Am (i:=0) (v:=(.int .i64 a0.kind)) u3 rf rf rf rf) rf<|Aa.Af ?_
 refine Wp.Fp (fun LL HH OO=>[(1,(.int .i64 a1)),(2,(ptr B2 0))]=LL∧ .AM B2 (.cells #[(.int .i64 a0.kind),(Ak (word a0.set 0)),(Ak (word a0.set 1)),(Ak (word a0.set 2)),(Ak (word a0.set 3)),v1] 37 (0,0))::O=OO∧Gu fu a0 a1 slf=some r) ?_ ?_
 ·
  refine Wp.block<|Wp.seq<|Wp.sr<|Aa.op (Ab.eql rf rf) rf<|Aa.op (Ab.assign rf) rf<|Aa.Af ?_
  refine Wp.Fp (fun LL HH OO=> ∃(b2:Bool),[(1,(.int .i64 a1)),(2,(ptr B2 0)),(5,(.int .i64 (a0.AL.length:Int))),(34,(.int .i64 a0.kind)),(37,(.bool b2))]=LL∧ .AM B2 (.cells #[(.int .i64 a0.kind),(Ak (word a0.set 0)),(Ak (word a0.set 1)),(Ak (word a0.set 2)),(Ak (word a0.set 3)),v1] 37 (0,0))::O=OO∧Gt fu a0 a1 slf b2=some r) ?_ ?_
  ·
   refine Wp.cond rf (fun hb14=>?_) (fun hb14=>?_)
   ·
    obtain⟨hb14,hd⟩:=bT hb14 hd
    refine Wp.skip ?_
    refine At.Cn (Hp.le.refl _) ⟨(decide (a0.kind=3)),rf,rf,hd⟩ (Sub.of rf)
   obtain⟨hb14,hd⟩:=bF hb14 hd
   refine Wp.region<|Aa.op (Ab.eql rf rf) rf<|Aa.op (Ab.assign rf) rf<|Aa.nil ?_
   refine At.Cn (Hp.le.refl _) ⟨(decide (a0.kind=4)),rf,rf,hd⟩ (Sub.of rf)
  intro L4 H4 O4 hl4 hI4
  obtain⟨b2,rfl,rfl,hd⟩:=hI4
  unfold Gt at hd
  refine Wp.cond rf (fun hb15=>?_) (fun hb15=>?_)
  ·
   replace hd:=Fs hb15 hd
   refine Wp.sr<|Aa.op (Ab.move rf) rf<|Aa.op (Ab.lss rf rf) rf<|Aa.Af ?_
   refine Wp.cond rf (fun hb16=>?_) (fun hb16=>?_)
   ·
    obtain⟨hb16,hd⟩:=bT hb16 hd
    refine Wp.sr<|Aa.op (Ab.assign rf) rf<|Aa.Af<|Wp.ret<|At.Be<|At.Av ?_
    obtain rfl:=si hd
    exact At.q1 1 hl4 rf (RV.tmp rf) rf
   obtain⟨hb16,hd⟩:=bF hb16 hd
   refine Wp.skip<|At.AE ?_
   refine At.Cn hl4 ⟨rf,rf,hd⟩ (Sub.of rf)
  replace hd:=Ft hb15 hd
  refine Wp.sr<|Aa.op (Ab.eql rf rf) rf<|Aa.op (Ab.assign rf) rf<|Aa.Af ?_
  refine Wp.cond rf (fun hb17=>?_) (fun hb17=>?_)
  ·
   obtain⟨hb17,hd⟩:=bT hb17 hd
   refine Wp.sr<|Aa.op (Ab.move rf) rf<|Aa.op (Ab.neq rf rf) rf<|Aa.Af ?_
   refine Wp.cond rf (fun hb18=>?_) (fun hb18=>?_)
   ·
    obtain⟨hb18,hd⟩:=bT hb18 hd
    refine Wp.sr<|Aa.op (Ab.assign rf) rf<|Aa.Af<|Wp.ret<|At.Be<|At.Av ?_
    obtain rfl:=si hd
    exact At.q1 1 hl4 rf (RV.tmp rf) rf
   obtain⟨hb18,hd⟩:=bF hb18 hd
   refine Wp.skip<|At.AE ?_
   refine At.Cn hl4 ⟨rf,rf,hd⟩ (Sub.of rf)
  obtain⟨hb17,hd⟩:=bF hb17 hd
  refine Wp.sr<|Aa.op (Ab.move rf) rf<|Aa.op (Ab.neq rf rf) rf<|Aa.Af ?_
  refine Wp.cond rf (fun hb19=>?_) (fun hb19=>?_)
  ·
   obtain⟨hb19,hd⟩:=bT hb19 hd
   refine Wp.sr<|Aa.op (Ab.assign rf) rf<|Aa.Af<|Wp.ret<|At.Be<|At.Av ?_
   obtain rfl:=si hd
   exact At.q1 1 hl4 rf (RV.tmp rf) rf
  obtain⟨hb19,hd⟩:=bF hb19 hd
  refine Wp.skip<|At.AE ?_
  refine At.Cn hl4 ⟨rf,rf,hd⟩ (Sub.of rf)
 intro L5 H5 O5 hl5 hI5
 obtain⟨rfl,rfl,hd⟩:=hI5
 unfold Gu at hd
 refine Wp.seq<|Wp.sr<|Aa.op (Ab.AV (o':=5) Et rf rf) rf<|Aa.op (Ab.Am (i:=0) (v:=v1) HO rf rf rf rf) rf ?_
 have hb20:=hv1.le
 refine Aa.op (Ab.len HO rf (hv1.mono hl5).sl) rf<|Aa.op (Ab.move rf) rf<|Aa.Af<|Wp.block<|Wp.A_ (fun m LL HH OO=> ∃(k2:Nat),[(1,(.int .i64 a1)),(47,v1),(48,(.int .i64 (a0.AL.length:Int))),(49,(.int .i64 (k2:Int)))]=LL∧ .AM B2 (.cells #[(.int .i64 a0.kind),(Ak (word a0.set 0)),(Ak (word a0.set 1)),(Ak (word a0.set 2)),(Ak (word a0.set 3)),v1] 37 (0,0))::O=OO∧Ax m (HF fu a0 a1 slf) k2=some r) fu ⟨0,rf,rf,hd⟩ (Sub.of rf) ?_
 intro m3 L6 H6 O6 hl6 hI6
 obtain⟨k2,rfl,rfl,hd⟩:=hI6
 obtain⟨m4,nx2,rfl,hn2,hd⟩:=A9 hd
 replace hd:HF fu a0 a1 slf k2 nx2=some r:=hd
 unfold HF at hd
 refine Wp.sr<|Aa.op (Ab.lss rf rf) rf<|Aa.Af<|Wp.seq ?_
 refine Wp.cond rf (fun hb21=>?_) (fun hb21=>?_)
 ·
  obtain⟨hb21,hd⟩:=bT hb21 hd
  refine Wp.skip<|At.Ad<|Wp.seq<|Wp.block<|Wp.seq ?_
  obtain⟨x3,hx3,hd⟩:=Ae hd
  have hx3_:=Ah hx3
  refine Wp.region ?_
  obtain⟨_,hz2,hc2⟩:=AW.get (hv1.mono (hl5.trans hl6)) hx3
  obtain⟨v3,rfl,hv3⟩:=HJ.1 hz2
  refine Aa.op (Ab.Bo HO Cj rf (hv1.mono (hl5.trans hl6)).sl rf (Ah hx3)) rf<|Aa.op (Ab.C9 (vs:=[(.int .i64 x3.kind),(Ak (word x3.set 0)),(Ak (word x3.set 1)),(Ak (word x3.set 2)),(Ak (word x3.set 3)),v3]) JH rf Cj rf rf (fun j u hj=>(hc2 j u hj))) rf<|Aa.alloc (cs:= #[(.int .i64 0),(Ak (word (fun _=>false) 0)),(Ak (word (fun _=>false) 1)),(Ak (word (fun _=>false) 2)),(Ak (word (fun _=>false) 3)),(.slice none 0 0)]) Cj (by simp only[zw];rfl) rf fun B4=>Aa.AP (i:=0) (cs':= #[(.int .i64 x3.kind),(Ak (word x3.set 0)),(Ak (word x3.set 1)),(Ak (word x3.set 2)),(Ak (word x3.set 3)),v3]) rf rf Cj rf rf (Bc (Ac rf (Ac rf (Ac rf (Ac rf (Ac rf (Ac hv3.one (As)))))))) rf ?_
  refine Aa.own (O:=_::_::_) ?_ rf
  refine Aa.Af<|Wp.seq ?_
  obtain⟨ha2,hd⟩:=Al hd
  obtain⟨x4,hx4,hd⟩:=Ae hd
  refine Wp.region<|Aa.op (Ab.AF (i:=0) JH rf Cj rf rf rf) rf<|Aa.op (Ab.move rf) rf<|Aa.op (Ab.add rf rf (Aq ha2)) rf<|Aa.op (Ab.call UX rf (ih hv3 hx4)) rf<|Aa.op (Ab.assign rf) rf<|Aa.Af<|Wp.sr ?_
  refine Aa.op (Ab.move rf) rf<|Aa.op (Ab.neq rf rf) rf<|Aa.Af ?_
  refine Wp.cond rf (fun hb22=>?_) (fun hb22=>?_)
  ·
   obtain⟨hb22,hd⟩:=bT hb22 hd
   refine Wp.sr<|Aa.op (Ab.move rf) rf<|Aa.op (Ab.assign rf) rf<|Aa.Af<|Wp.ret<|At.Be<|At.Av<|At.Av ?_
   refine At.Be<|At.Av ?_
   obtain rfl:=si hd
   exact At.q1 2 (hl5.trans hl6) rf (RV.tmp rf) rf
  obtain⟨hb22,hd⟩:=bF hb22 hd
  refine Wp.skip<|At.AE<|At.Ad<|Wp.region<|Aa.op (Ab.add rf rf (Aq (by omega))) rf<|Aa.op (Ab.move rf) rf<|Aa.nil<|At.AR [1] 2 rf rf rf ?_
  refine At.AO (Hp.le.refl _) ⟨(k2+1),rf,rf,(by rw[←hn2];exact hd)⟩ (Sub.of rf)
 obtain⟨hb21,hd⟩:=bF hb21 hd
 refine Wp.exit<|At.An<|At.An<|At.Az<|At.Ad<|Wp.sr<|Aa.op (Ab.assign rf) rf<|Aa.Af ?_
 refine Wp.ret ?_
 obtain rfl:=si hd
 exact At.q1 1 (hl5.trans hl6) rf (RV.tmp rf) rf
theorem Q_{fu:Nat}{a0:Rx}{v1:Value}{r:Int}(hv1:AW Kc H a0.AL v1)(hd:Ie fu a0=some r):
  Ca Tryz.prog 35 [(.agg #[(.int .i64 a0.kind),(Ak (word a0.set 0)),(Ak (word a0.set 1)),(Ak (word a0.set 2)),(Ak (word a0.set 3)),v1])] H O (.int .i64 r):=by
 intro w hs
 refine Bz Tryz.func35 rf rf rf ?_ hs
 clear hs w
 unfold Ie at hd
 refine Wp.sr<|Aa.box (cs:= #[(.int .i64 a0.kind),(Ak (word a0.set 0)),(Ak (word a0.set 1)),(Ak (word a0.set 2)),(Ak (word a0.set 3)),v1]) rf rf rf fun B2=>Aa.op (Ab.assign rf) rf<|Aa.Af<|Wp.seq ?_
 obtain⟨x1,hx1,hd⟩:=Ae hd
 refine Wp.region<|Aa.op (Ab.AF (i:=0) JH rf Cj rf rf rf) rf<|Aa.op (Ab.call UX rf (Q9 hv1 hx1)) rf<|Aa.op (Ab.assign rf) rf<|Aa.Af<|Wp.ret ?_
 obtain rfl:=si hd
 exact At.q1 1 (Hp.le.refl _) rf (RV.tmp rf) rf
theorem Pn{fu:Nat} :∀ {H:Hp} {O:List Bj} {a0:(List (List Int))×(List (List (AD×Int×Int)))×Int} {a1:Rx} {a2:Int} {a3:Int} {u1 u2:Value} {F1:K3 Int} {G1:K3 (AD×Int×Int)} {B0:Nat} {v1:Value} {r:(List (List Int))×(List (List (AD×Int×Int)))×Int} (hNF:Bk Ao H a0.1 F1) (hNG:Bk Vx H a0.2.1 G1) (hv1:AW Kc H a1.AL v1) (hd:Cr fu a0 a1 a2 a3=some r),
    ED Tryz.prog 37 [(ptr B0 0),(.agg #[(.int .i64 a1.kind),(Ak (word a1.set 0)),(Ak (word a1.set 1)),(Ak (word a1.set 2)),(Ak (word a1.set 3)),v1]),(.int .i64 a2),(.int .i64 a3)] H (.AM B0 (.cells #[u1,u2,(.int .i64 a0.2.2)] 66 (0,0)):: .row u1 55 1 (A4 F1).length (A4 F1):: .row u2 94 1 (A4 G1).length (A4 G1)::(BE 3 1 F1++(BE 96 6 G1++O))) (fun v H' O'=> ∃v1 v2 F G, .tuple #[]=v∧Bk Ao H' r.1 F∧Bk Vx H' r.2.1 G∧QV B0 v1 v2 r.2.2 F G O=O'):=by
 induction fu with
 |zero=>intros;rename_i hd;exact absurd hd (by simp[Cr])
 |succ fu ih=>
 intro H O a0 a1 a2 a3 u1 u2 F1 G1 B0 v1 r hNF hNG hv1 hd
 replace hd:DK fu (Cr fu) a0 a1 a2 a3=some r:=hd
 generalize Cr fu=slf at hd ih
 intro w hs
 refine Bz Tryz.func37 rf rf rf ?_ hs
 clear hs w
 unfold DK at hd
 refine Wp.sr<|Aa.box (cs:= #[(.int .i64 a1.kind),(Ak (word a1.set 0)),(Ak (word a1.set 1)),(Ak (word a1.set 2)),(Ak (word a1.set 3)),v1]) rf rf rf fun B2=>Aa.Af<|Wp.sr<|Aa.op (Ab.AV (o':=0) A3 rf rf) rf<|Aa.op (Ab.Am (i:=0) (v:=(.int .i64 a1.kind)) u3 rf rf rf rf) rf<|Aa.Af<|Wp.block ?_
 refine Wp.sr<|Aa.op (Ab.eql rf rf) rf<|Aa.op (Ab.assign rf) rf<|Aa.Af ?_
 refine Wp.cond rf (fun hb1=>?_) (fun hb1=>?_)
 ·
  obtain⟨hb1,hd⟩:=bT hb1 hd
  obtain⟨x1,hx1,hd⟩:=Ae hd
  obtain⟨v3,xs1,hf1,hL1,hi1⟩:=Bk.get hNF hx1
  refine Wp.Lh [.AM B2 (.cells #[(.int .i64 a1.kind),(Ak (word a1.set 0)),(Ak (word a1.set 1)),(Ak (word a1.set 2)),(Ak (word a1.set 3)),v1] 37 (0,0)), .AM B0 (.cells #[u1,u2,(.int .i64 a0.2.2)] 66 (0,0)), .row u1 55 1 (A4 F1).length (A4 F1), .row u2 94 1 (A4 G1).length (A4 G1)] hf1 ?_
  obtain⟨ha1,hd⟩:=Al hd
  obtain⟨_,⟨rfl,_⟩,hc1,hc1_⟩:=Au.get (Bk.row hNF) (AG hi1).2
  obtain⟨_,⟨rfl,_⟩,hc2,hc2_⟩:=Au.get (Bk.row hNF) (AG hi1).2
  refine Wp.emp<|Aj.runK 6 [AU,AU,AU,⟨[3],[],[]⟩,AU,AU,AU,AU,⟨[3],[],[]⟩,AU,⟨[4],[],[]⟩,⟨[4],[],[]⟩,AU,⟨[0],[0],[13]⟩,⟨[0,1],[1],[14]⟩,⟨[4],[],[]⟩,⟨[4],[4],[14]⟩] follows rf (by kernel_rfl)<|Aj.op (val:=fun p1=>(ptr B0 0)) rf rf (fun _=>rfl) (fun _ p1 _ hx hf hy=>Ab.move rf) rf<|Aj.op (val:=fun p1=>(ptr B0 0)) rf rf (fun _=>rfl) (fun _ p1 _ hx hf hy=>Ab.nilCheck rf) rf<|Aj.op (val:=fun p1=>(ptr B0 0)) rf rf (fun _=>rfl) (fun _ p1 _ hx hf hy=>Ab.AV (o':=0) IV rf rf) rf<|Aj.op (val:=fun p1=>u1) rf rf (fun _=>rfl) (fun _ p1 _ hx hf hy=>Ab.Am (i:=3) (v:=u1) Ey rf rf (hy 3 _ rf rf) rf) rf<|Aj.op (val:=fun p1=>(.int .i64 a2)) rf rf (fun _=>rfl) (fun _ p1 _ hx hf hy=>Ab.move rf) rf<|Aj.op (val:=fun p1=>(ptr B0 0)) rf rf (fun _=>rfl) (fun _ p1 _ hx hf hy=>Ab.move rf) rf ?_
  refine Aj.op (val:=fun p1=>(ptr B0 0)) rf rf (fun _=>rfl) (fun _ p1 _ hx hf hy=>Ab.nilCheck rf) rf<|Aj.op (val:=fun p1=>(ptr B0 0)) rf rf (fun _=>rfl) (fun _ p1 _ hx hf hy=>Ab.AV (o':=0) IV rf rf) rf<|Aj.op (val:=fun p1=>u1) rf rf (fun _=>rfl) (fun _ p1 _ hx hf hy=>Ab.Am (i:=3) (v:=u1) Ey rf rf (hy 3 _ rf rf) rf) rf<|Aj.op (val:=fun p1=>(.int .i64 a2)) rf rf (fun _=>rfl) (fun _ p1 _ hx hf hy=>Ab.move rf) rf<|Aj.op (val:=fun p1=>(A2 u1 ((Int.toNat a2)*1))) rf rf (fun _=>rfl) (fun _ p1 _ hx hf hy=>Ab.Bu (j:=4) Ey Dx rf (hy 4 _ rf rf) rf (Ah hi1)) rf<|Aj.op (val:=fun p1=>v3) rf rf (fun _=>rfl) (fun _ p1 _ hx hf hy=>Ab.Ch (i:=4) (k:=(Int.toNat a2)*1+0) BF rf rf (hy 4 _ rf rf) (hc1 0 _ rf)) rf<|Aj.op (val:=fun p1=>(.int .i64 a3)) rf rf (fun _=>rfl) (fun _ p1 _ hx hf hy=>Ab.move rf) rf<|Aj.Hs (res:=fun p1=> .row (p1 13) 3 1 1 [(.int .i64 a3)]) 0 rf rf rf (fun _=>rfl) (fun _ p1 _ hx hf hy=>BC.EO (v:=(.int .i64 a3)) (cs:=[(.int .i64 a3)]) 0 BF Cp rf rf rf rf rf (hy 0 _ rf rf)) rf (fun _=>⟨_,_,_,_,rf⟩) ?_
  refine Aj.Hs (res:=fun p1=> .row (p1 14) 3 1 (x1.length+1) (xs1++[(.int .i64 a3)])) 1 rf rf rf (fun _=>rfl) (fun _ p1 _ hx hf hy=>BC.M' 1 0 BF Cp rf rf rf rf (hy 1 _ rf rf) (hy 0 _ rf rf) (Ac rf (As)) rf ha1) rf (fun _=>⟨_,_,_,_,rf⟩)<|Aj.op (val:=fun p1=>(A2 u1 ((Int.toNat a2)*1))) rf rf (fun _=>rfl) (fun _ p1 _ hx hf hy=>Ab.Bu (j:=4) Ey Dx rf (hy 4 _ rf rf) rf (Ah hi1)) rf<|Aj.Kr (res:=fun p1=> .row u1 55 1 (A4 F1).length (GP (A4 F1) ((Int.toNat a2)*1+0) [(p1 14)])) 4 rf rf rf (fun _=>rfl) (fun _ p1 _ hx hf hy=>BC.Mk (k:=(Int.toNat a2)*1+0) (vs:=[(p1 14)]) rf rf (DZ (hf 14 rf rf)) Dx rf rf (Ac (hf 14 rf rf) (As)) (hy 4 _ rf rf) (by have h1:_=_*1:=(Bk.row hNF).len;have h2:=Ah hi1;simp only[List.length_cons,List.length_nil];omega))<|Aj.done fun H1 p1 hl1 hF1=>At.sub (L':=[]) (Sub.of rf) ?_
  refine At.own (O:= .row (p1 13) 3 1 ([a3]:List Int).length [(.int .i64 a3)]:: .row (p1 14) 3 1 (x1++([a3]:List Int)).length (xs1++[(.int .i64 a3)]):: .AM B2 (.cells #[(.int .i64 a1.kind),(Ak (word a1.set 0)),(Ak (word a1.set 1)),(Ak (word a1.set 2)),(Ak (word a1.set 3)),v1] 37 (0,0)):: .AM B0 (.cells #[u1,u2,(.int .i64 a0.2.2)] 66 (0,0)):: .row u1 55 1 ((A4 F1).set (Int.toNat a2) (p1 14)).length (GP (A4 F1) ((Int.toNat a2)*1+0) [(p1 14)]):: .row u2 94 1 (A4 G1).length (A4 G1)::(BE 3 1 (List.eraseIdx F1 (Int.toNat a2))++(BE 96 6 G1++O))) ?_ (by first|rfl|(simp only[List.length_append,List.length_set];rfl)|simp)
  have hq1:Au Ao H1 (x1++([a3]:List Int)) (xs1++[(.int .i64 a3)]):=(Au.app (hL1.mono hl1) (Au.Kj (c:=Ao) (a:=a3) (cs:=[(.int .i64 a3)]) rfl))
  refine At.Bm (i:=1) rf fun ho1=>?_
  refine At.own (O:= .row (p1 13) 3 1 ([a3]:List Int).length [(.int .i64 a3)]:: .row (p1 14) 3 1 (x1++([a3]:List Int)).length (xs1++[(.int .i64 a3)]):: .AM B2 (.cells #[(.int .i64 a1.kind),(Ak (word a1.set 0)),(Ak (word a1.set 1)),(Ak (word a1.set 2)),(Ak (word a1.set 3)),v1] 37 (0,0)):: .AM B0 (.cells #[u1,u2,(.int .i64 a0.2.2)] 66 (0,0)):: .row u1 55 1 (A4 (List.set F1 (Int.toNat a2) ((p1 14),x1++([a3]:List Int),xs1++[(.int .i64 a3)]))).length (A4 (List.set F1 (Int.toNat a2) ((p1 14),x1++([a3]:List Int),xs1++[(.int .i64 a3)]))):: .row u2 94 1 (A4 G1).length (A4 G1)::(BE 3 1 (List.eraseIdx F1 (Int.toNat a2))++(BE 96 6 G1++O))) ?_ (by rw[show GP (A4 F1) ((Int.toNat a2)*1+0) [(p1 14)]=A4 (List.set F1 (Int.toNat a2) ((p1 14),x1++([a3]:List Int),xs1++[(.int .i64 a3)]))from Pf _ _ _ hf1,show(A4 F1).set (Int.toNat a2) (p1 14)=A4 (List.set F1 (Int.toNat a2) ((p1 14),x1++([a3]:List Int),xs1++[(.int .i64 a3)]))from MY _ _ _])
  refine At.AR [1,2,3,4,5] 6 rf rf rf<|At.K4 [.AM B2 (.cells #[(.int .i64 a1.kind),(Ak (word a1.set 0)),(Ak (word a1.set 1)),(Ak (word a1.set 2)),(Ak (word a1.set 3)),v1] 37 (0,0)), .AM B0 (.cells #[u1,u2,(.int .i64 a0.2.2)] 66 (0,0)), .row u1 55 1 (A4 (List.set F1 (Int.toNat a2) ((p1 14),x1++([a3]:List Int),xs1++[(.int .i64 a3)]))).length (A4 (List.set F1 (Int.toNat a2) ((p1 14),x1++([a3]:List Int),xs1++[(.int .i64 a3)]))), .row u2 94 1 (A4 G1).length (A4 G1)] ((p1 14),x1++([a3]:List Int),xs1++[(.int .i64 a3)]) hf1 ?_
  have hN1:Bk Ao H1 (List.set a0.1 (Int.toNat a2) (x1++([a3]:List Int))) (List.set F1 (Int.toNat a2) ((p1 14),x1++([a3]:List Int),xs1++[(.int .i64 a3)])):=Bk.set (hNF.mono hl1) hq1 ho1
  refine At.AE ?_
  obtain rfl:=si hd
  exact At.Km rf (fun w hs=>⟨_,_,_,rf,hl1,(hs.Cg 1),u1,u2,(List.set F1 (Int.toNat a2) ((p1 14),x1++([a3]:List Int),xs1++[(.int .i64 a3)])),G1,rf,hN1,(hNG.mono hl1),rf⟩)
 obtain⟨hb1,hd⟩:=bF hb1 hd
 refine Wp.sr<|Aa.op (Ab.eql rf rf) rf<|Aa.op (Ab.assign rf) rf<|Aa.Af ?_
 refine Wp.cond rf (fun hb2=>?_) (fun hb2=>?_)
 ·
  obtain⟨hb2,hd⟩:=bT hb2 hd
  refine Wp.seq ?_
  obtain⟨x2,hx2,hd⟩:=Ae hd
  obtain⟨v4,xs2,hf2,hL2,hi2⟩:=Bk.get hNG hx2
  refine Wp.Uq [.AM B2 (.cells #[(.int .i64 a1.kind),(Ak (word a1.set 0)),(Ak (word a1.set 1)),(Ak (word a1.set 2)),(Ak (word a1.set 3)),v1] 37 (0,0)), .AM B0 (.cells #[u1,u2,(.int .i64 a0.2.2)] 66 (0,0)), .row u1 55 1 (A4 F1).length (A4 F1), .row u2 94 1 (A4 G1).length (A4 G1)] hf2 ?_
  obtain⟨ha2,hd⟩:=Al hd
  obtain⟨_,⟨rfl,_⟩,hc3,hc3_⟩:=Au.get (Bk.row hNG) (AG hi2).2
  obtain⟨_,⟨rfl,_⟩,hc4,hc4_⟩:=Au.get (Bk.row hNG) (AG hi2).2
  refine Wp.emp<|Aj.runK 6 [AU,AU,AU,⟨[3],[],[]⟩,AU,AU,AU,AU,⟨[3],[],[]⟩,AU,⟨[5],[],[]⟩,⟨[5],[],[]⟩,AU,⟨[2],[],[]⟩,AU,AU,AU,AU,⟨[3],[],[]⟩,AU,⟨[0],[0],[20]⟩,⟨[0,1],[1],[21]⟩,⟨[5],[],[]⟩,⟨[5],[5],[21]⟩] follows rf (by kernel_rfl)<|Aj.op (val:=fun p2=>(ptr B0 0)) rf rf (fun _=>rfl) (fun _ p2 _ hx hf hy=>Ab.move rf) rf<|Aj.op (val:=fun p2=>(ptr B0 0)) rf rf (fun _=>rfl) (fun _ p2 _ hx hf hy=>Ab.nilCheck rf) rf<|Aj.op (val:=fun p2=>(ptr B0 1)) rf rf (fun _=>rfl) (fun _ p2 _ hx hf hy=>Ab.AV (o':=1) IU rf rf) rf<|Aj.op (val:=fun p2=>u2) rf rf (fun _=>rfl) (fun _ p2 _ hx hf hy=>Ab.Am (i:=3) (v:=u2) u64 rf rf (hy 3 _ rf rf) rf) rf<|Aj.op (val:=fun p2=>(.int .i64 a2)) rf rf (fun _=>rfl) (fun _ p2 _ hx hf hy=>Ab.move rf) rf<|Aj.op (val:=fun p2=>(ptr B0 0)) rf rf (fun _=>rfl) (fun _ p2 _ hx hf hy=>Ab.move rf) rf ?_
  refine Aj.op (val:=fun p2=>(ptr B0 0)) rf rf (fun _=>rfl) (fun _ p2 _ hx hf hy=>Ab.nilCheck rf) rf<|Aj.op (val:=fun p2=>(ptr B0 1)) rf rf (fun _=>rfl) (fun _ p2 _ hx hf hy=>Ab.AV (o':=1) IU rf rf) rf<|Aj.op (val:=fun p2=>u2) rf rf (fun _=>rfl) (fun _ p2 _ hx hf hy=>Ab.Am (i:=3) (v:=u2) u64 rf rf (hy 3 _ rf rf) rf) rf<|Aj.op (val:=fun p2=>(.int .i64 a2)) rf rf (fun _=>rfl) (fun _ p2 _ hx hf hy=>Ab.move rf) rf<|Aj.op (val:=fun p2=>(A2 u2 ((Int.toNat a2)*1))) rf rf (fun _=>rfl) (fun _ p2 _ hx hf hy=>Ab.Bu (j:=5) u64 PG rf (hy 5 _ rf rf) rf (Ah hi2)) rf<|Aj.op (val:=fun p2=>v4) rf rf (fun _=>rfl) (fun _ p2 _ hx hf hy=>Ab.Ch (i:=5) (k:=(Int.toNat a2)*1+0) TA rf rf (hy 5 _ rf rf) (hc3 0 _ rf)) rf<|Aj.op (val:=fun p2=>(ptr B2 1)) rf rf (fun _=>rfl) (fun _ p2 _ hx hf hy=>Ab.AV (o':=1) J_ rf rf) rf<|Aj.op (val:=fun p2=>(.agg #[(Ak (word a1.set 0)),(Ak (word a1.set 1)),(Ak (word a1.set 2)),(Ak (word a1.set 3))])) rf rf (fun _=>rfl) (fun _ p2 _ hx hf hy=>Ab.GS (i:=2) (vs:=[(Ak (word a1.set 0)),(Ak (word a1.set 1)),(Ak (word a1.set 2)),(Ak (word a1.set 3))]) LS rf BJ rf (hy 2 _ rf rf) rf) rf ?_
  refine Aj.op (val:=fun p2=>(.int .i64 a3)) rf rf (fun _=>rfl) (fun _ p2 _ hx hf hy=>Ab.move rf) rf<|Aj.op (val:=fun p2=>(ptr B0 0)) rf rf (fun _=>rfl) (fun _ p2 _ hx hf hy=>Ab.move rf) rf<|Aj.op (val:=fun p2=>(ptr B0 0)) rf rf (fun _=>rfl) (fun _ p2 _ hx hf hy=>Ab.nilCheck rf) rf<|Aj.op (val:=fun p2=>(ptr B0 2)) rf rf (fun _=>rfl) (fun _ p2 _ hx hf hy=>Ab.AV (o':=2) Rr rf rf) rf<|Aj.op (val:=fun p2=>(.int .i64 a0.2.2)) rf rf (fun _=>rfl) (fun _ p2 _ hx hf hy=>Ab.Am (i:=3) (v:=(.int .i64 a0.2.2)) u3 rf rf (hy 3 _ rf rf) rf) rf<|Aj.op (val:=fun p2=>(.agg #[(Ak (word a1.set 0)),(Ak (word a1.set 1)),(Ak (word a1.set 2)),(Ak (word a1.set 3)),(.int .i64 a3),(.int .i64 a0.2.2)])) rf rf (fun _=>rfl) (fun _ p2 _ hx hf hy=>Ab.Bi (vs:=[(0,(.agg #[(Ak (word a1.set 0)),(Ak (word a1.set 1)),(Ak (word a1.set 2)),(Ak (word a1.set 3))])),(1,(.int .i64 a3)),(2,(.int .i64 a0.2.2))]) (cs:= #[(Ak (word a1.set 0)),(Ak (word a1.set 1)),(Ak (word a1.set 2)),(Ak (word a1.set 3)),(.int .i64 a3),(.int .i64 a0.2.2)]) YA JU rf rf (AJ rf (AJ rf (AJ rf (Bd)))) rf) rf<|Aj.Hs (res:=fun p2=> .row (p2 20) 96 6 1 [(Ak (word a1.set 0)),(Ak (word a1.set 1)),(Ak (word a1.set 2)),(Ak (word a1.set 3)),(.int .i64 a3),(.int .i64 a0.2.2)]) 0 rf rf rf (fun _=>rfl) (fun _ p2 _ hx hf hy=>BC.EO (v:=(.agg #[(Ak (word a1.set 0)),(Ak (word a1.set 1)),(Ak (word a1.set 2)),(Ak (word a1.set 3)),(.int .i64 a3),(.int .i64 a0.2.2)])) (cs:=[(Ak (word a1.set 0)),(Ak (word a1.set 1)),(Ak (word a1.set 2)),(Ak (word a1.set 3)),(.int .i64 a3),(.int .i64 a0.2.2)]) 0 TA JU rf rf rf rf rf (hy 0 _ rf rf)) rf (fun _=>⟨_,_,_,_,rf⟩)<|Aj.Hs (res:=fun p2=> .row (p2 21) 96 6 (x2.length+1) (xs2++[(Ak (word a1.set 0)),(Ak (word a1.set 1)),(Ak (word a1.set 2)),(Ak (word a1.set 3)),(.int .i64 a3),(.int .i64 a0.2.2)])) 1 rf rf rf (fun _=>rfl) (fun _ p2 _ hx hf hy=>BC.M' 1 0 TA JU rf rf rf rf (hy 1 _ rf rf) (hy 0 _ rf rf) (Ac rf (Ac rf (Ac rf (Ac rf (Ac rf (Ac rf (As))))))) rf ha2) rf (fun _=>⟨_,_,_,_,rf⟩) ?_
  refine Aj.op (val:=fun p2=>(A2 u2 ((Int.toNat a2)*1))) rf rf (fun _=>rfl) (fun _ p2 _ hx hf hy=>Ab.Bu (j:=5) u64 PG rf (hy 5 _ rf rf) rf (Ah hi2)) rf<|Aj.Kr (res:=fun p2=> .row u2 94 1 (A4 G1).length (GP (A4 G1) ((Int.toNat a2)*1+0) [(p2 21)])) 5 rf rf rf (fun _=>rfl) (fun _ p2 _ hx hf hy=>BC.Mk (k:=(Int.toNat a2)*1+0) (vs:=[(p2 21)]) rf rf (DZ (hf 21 rf rf)) PG rf rf (Ac (hf 21 rf rf) (As)) (hy 5 _ rf rf) (by have h1:_=_*1:=(Bk.row hNG).len;have h2:=Ah hi2;simp only[List.length_cons,List.length_nil];omega))<|Aj.done fun H2 p2 hl2 hF2=>At.sub (L':=[(0,(ptr B0 0))]) (Sub.of rf) ?_
  refine At.own (O:= .row (p2 20) 96 6 ([(a1.set,a3,a0.2.2)]:List (AD×Int×Int)).length [(Ak (word a1.set 0)),(Ak (word a1.set 1)),(Ak (word a1.set 2)),(Ak (word a1.set 3)),(.int .i64 a3),(.int .i64 a0.2.2)]:: .row (p2 21) 96 6 (x2++([(a1.set,a3,a0.2.2)]:List (AD×Int×Int))).length (xs2++[(Ak (word a1.set 0)),(Ak (word a1.set 1)),(Ak (word a1.set 2)),(Ak (word a1.set 3)),(.int .i64 a3),(.int .i64 a0.2.2)]):: .AM B2 (.cells #[(.int .i64 a1.kind),(Ak (word a1.set 0)),(Ak (word a1.set 1)),(Ak (word a1.set 2)),(Ak (word a1.set 3)),v1] 37 (0,0)):: .AM B0 (.cells #[u1,u2,(.int .i64 a0.2.2)] 66 (0,0)):: .row u1 55 1 (A4 F1).length (A4 F1):: .row u2 94 1 ((A4 G1).set (Int.toNat a2) (p2 21)).length (GP (A4 G1) ((Int.toNat a2)*1+0) [(p2 21)])::(BE 3 1 F1++(BE 96 6 (List.eraseIdx G1 (Int.toNat a2))++O))) ?_ (by first|rfl|(simp only[List.length_append,List.length_set];rfl)|simp)
  have hq2:Au (cP IG (cP Ao Ao)) H2 (x2++([(a1.set,a3,a0.2.2)]:List (AD×Int×Int))) (xs2++[(Ak (word a1.set 0)),(Ak (word a1.set 1)),(Ak (word a1.set 2)),(Ak (word a1.set 3)),(.int .i64 a3),(.int .i64 a0.2.2)]):=(Au.app (hL2.mono hl2) (Au.Kj (c:=(cP IG (cP Ao Ao))) (a:=(a1.set,a3,a0.2.2)) (cs:=[(Ak (word a1.set 0)),(Ak (word a1.set 1)),(Ak (word a1.set 2)),(Ak (word a1.set 3)),(.int .i64 a3),(.int .i64 a0.2.2)]) (⟨[(Ak (word a1.set 0)),(Ak (word a1.set 1)),(Ak (word a1.set 2)),(Ak (word a1.set 3))],[(.int .i64 a3),(.int .i64 a0.2.2)],rfl,rfl,⟨[(.int .i64 a3)],[(.int .i64 a0.2.2)],rfl,rfl,rfl⟩⟩)))
  refine At.Bm (i:=1) rf fun ho2=>?_
  refine At.own (O:= .row (p2 20) 96 6 ([(a1.set,a3,a0.2.2)]:List (AD×Int×Int)).length [(Ak (word a1.set 0)),(Ak (word a1.set 1)),(Ak (word a1.set 2)),(Ak (word a1.set 3)),(.int .i64 a3),(.int .i64 a0.2.2)]:: .row (p2 21) 96 6 (x2++([(a1.set,a3,a0.2.2)]:List (AD×Int×Int))).length (xs2++[(Ak (word a1.set 0)),(Ak (word a1.set 1)),(Ak (word a1.set 2)),(Ak (word a1.set 3)),(.int .i64 a3),(.int .i64 a0.2.2)]):: .AM B2 (.cells #[(.int .i64 a1.kind),(Ak (word a1.set 0)),(Ak (word a1.set 1)),(Ak (word a1.set 2)),(Ak (word a1.set 3)),v1] 37 (0,0)):: .AM B0 (.cells #[u1,u2,(.int .i64 a0.2.2)] 66 (0,0)):: .row u1 55 1 (A4 F1).length (A4 F1):: .row u2 94 1 (A4 (List.set G1 (Int.toNat a2) ((p2 21),x2++([(a1.set,a3,a0.2.2)]:List (AD×Int×Int)),xs2++[(Ak (word a1.set 0)),(Ak (word a1.set 1)),(Ak (word a1.set 2)),(Ak (word a1.set 3)),(.int .i64 a3),(.int .i64 a0.2.2)]))).length (A4 (List.set G1 (Int.toNat a2) ((p2 21),x2++([(a1.set,a3,a0.2.2)]:List (AD×Int×Int)),xs2++[(Ak (word a1.set 0)),(Ak (word a1.set 1)),(Ak (word a1.set 2)),(Ak (word a1.set 3)),(.int .i64 a3),(.int .i64 a0.2.2)])))::(BE 3 1 F1++(BE 96 6 (List.eraseIdx G1 (Int.toNat a2))++O))) ?_ (by rw[show GP (A4 G1) ((Int.toNat a2)*1+0) [(p2 21)]=A4 (List.set G1 (Int.toNat a2) ((p2 21),x2++([(a1.set,a3,a0.2.2)]:List (AD×Int×Int)),xs2++[(Ak (word a1.set 0)),(Ak (word a1.set 1)),(Ak (word a1.set 2)),(Ak (word a1.set 3)),(.int .i64 a3),(.int .i64 a0.2.2)]))from Pf _ _ _ hf2,show(A4 G1).set (Int.toNat a2) (p2 21)=A4 (List.set G1 (Int.toNat a2) ((p2 21),x2++([(a1.set,a3,a0.2.2)]:List (AD×Int×Int)),xs2++[(Ak (word a1.set 0)),(Ak (word a1.set 1)),(Ak (word a1.set 2)),(Ak (word a1.set 3)),(.int .i64 a3),(.int .i64 a0.2.2)]))from MY _ _ _])
  refine At.AR [1,2,3,4,5] 6 rf rf rf<|At.Ot [.AM B2 (.cells #[(.int .i64 a1.kind),(Ak (word a1.set 0)),(Ak (word a1.set 1)),(Ak (word a1.set 2)),(Ak (word a1.set 3)),v1] 37 (0,0)), .AM B0 (.cells #[u1,u2,(.int .i64 a0.2.2)] 66 (0,0)), .row u1 55 1 (A4 F1).length (A4 F1), .row u2 94 1 (A4 (List.set G1 (Int.toNat a2) ((p2 21),x2++([(a1.set,a3,a0.2.2)]:List (AD×Int×Int)),xs2++[(Ak (word a1.set 0)),(Ak (word a1.set 1)),(Ak (word a1.set 2)),(Ak (word a1.set 3)),(.int .i64 a3),(.int .i64 a0.2.2)]))).length (A4 (List.set G1 (Int.toNat a2) ((p2 21),x2++([(a1.set,a3,a0.2.2)]:List (AD×Int×Int)),xs2++[(Ak (word a1.set 0)),(Ak (word a1.set 1)),(Ak (word a1.set 2)),(Ak (word a1.set 3)),(.int .i64 a3),(.int .i64 a0.2.2)])))] ((p2 21),x2++([(a1.set,a3,a0.2.2)]:List (AD×Int×Int)),xs2++[(Ak (word a1.set 0)),(Ak (word a1.set 1)),(Ak (word a1.set 2)),(Ak (word a1.set 3)),(.int .i64 a3),(.int .i64 a0.2.2)]) hf2 ?_
  have hN2:Bk Vx H2 (List.set a0.2.1 (Int.toNat a2) (x2++([(a1.set,a3,a0.2.2)]:List (AD×Int×Int)))) (List.set G1 (Int.toNat a2) ((p2 21),x2++([(a1.set,a3,a0.2.2)]:List (AD×Int×Int)),xs2++[(Ak (word a1.set 0)),(Ak (word a1.set 1)),(Ak (word a1.set 2)),(Ak (word a1.set 3)),(.int .i64 a3),(.int .i64 a0.2.2)])):=Bk.set (hNG.mono hl2) hq2 ho2
  refine At.Ad ?_
  obtain⟨ha3,hd⟩:=Al hd
  refine Wp.region<|Aa.op (Ab.move rf) rf<|Aa.op (Ab.nilCheck rf) rf<|Aa.op (Ab.AV (o':=2) Rr rf rf) rf<|Aa.op (Ab.Am (i:=1) (v:=(.int .i64 a0.2.2)) u3 rf rf rf rf) rf<|Aa.op (Ab.add rf rf (Aq ha3)) rf<|Aa.op (Ab.nilCheck rf) rf<|Aa.op (Ab.AV (o':=2) Rr rf rf) rf ?_
  refine Aa.Cc (i:=1) rf rf rf Cp rf (Nat.le_of_ble_eq_true rf) ?_
  refine Aa.own (O:=_::_::_::_::_) ?_ rf
  refine Aa.nil<|At.AE ?_
  obtain rfl:=si hd
  exact At.Km rf (fun w hs=>⟨_,_,_,rf,hl2,(hs.Cg 1),u1,u2,F1,(List.set G1 (Int.toNat a2) ((p2 21),x2++([(a1.set,a3,a0.2.2)]:List (AD×Int×Int)),xs2++[(Ak (word a1.set 0)),(Ak (word a1.set 1)),(Ak (word a1.set 2)),(Ak (word a1.set 3)),(.int .i64 a3),(.int .i64 a0.2.2)])),rf,(hNF.mono hl2),hN2,rf⟩)
 obtain⟨hb2,hd⟩:=bF hb2 hd
 refine Wp.sr<|Aa.op (Ab.eql rf rf) rf<|Aa.op (Ab.assign rf) rf<|Aa.Af ?_
 refine Wp.cond rf (fun hb3=>?_) (fun hb3=>?_)
 ·
  obtain⟨hb3,hd⟩:=bT hb3 hd
  refine Wp.sr<|Aa.op (Ab.AV (o':=5) Et rf rf) rf<|Aa.op (Ab.Am (i:=0) (v:=v1) HO rf rf rf rf) rf ?_
  have hb4:=hv1.le
  refine Aa.op (Ab.len HO rf hv1.sl) rf<|Aa.op (Ab.move rf) rf<|Aa.Af<|Wp.block<|Wp.A_ (fun m LL HH OO=> ∃(d1:List (List Int)),∃(e1:List (List (AD×Int×Int))),∃(k1:Nat),∃(i1:Int),∃(F2:K3 Int),∃(G2:K3 (AD×Int×Int)),∃(v5:Value),∃(v6:Value),[(0,(ptr B0 0)),(2,(.int .i64 a2)),(3,(.int .i64 a3)),(70,v1),(71,(.int .i64 (a1.AL.length:Int))),(72,(.int .i64 (k1:Int)))]=LL∧ .AM B2 (.cells #[(.int .i64 a1.kind),(Ak (word a1.set 0)),(Ak (word a1.set 1)),(Ak (word a1.set 2)),(Ak (word a1.set 3)),v1] 37 (0,0)):: .AM B0 (.cells #[v5,v6,(.int .i64 i1)] 66 (0,0)):: .row v5 55 1 (A4 F2).length (A4 F2):: .row v6 94 1 (A4 G2).length (A4 G2)::(BE 3 1 F2++(BE 96 6 G2++O))=OO∧Ax m (fun p nx=>BO fu a1 a2 a3 slf p.1 p.2.1 p.2.2.1 p.2.2.2 nx) (d1,e1,k1,i1)=some r∧Bk Ao HH d1 F2∧Bk Vx HH e1 G2) fu ⟨a0.1,a0.2.1,0,a0.2.2,F1,G1,u1,u2,rf,rf,hd,hNF,hNG⟩ (Sub.of rf) ?_
  intro m1 L1 H3 O1 hl3 hI1
  obtain⟨d1,e1,k1,i1,F2,G2,v5,v6,rfl,rfl,hd,hN3,hN4⟩:=hI1
  obtain⟨m2,nx1,rfl,hn1,hd⟩:=A9 hd
  replace hd:BO fu a1 a2 a3 slf d1 e1 k1 i1 nx1=some r:=hd
  unfold BO at hd
  refine Wp.sr<|Aa.op (Ab.lss rf rf) rf<|Aa.Af<|Wp.seq ?_
  refine Wp.cond rf (fun hb5=>?_) (fun hb5=>?_)
  ·
   obtain⟨hb5,hd⟩:=bT hb5 hd
   refine Wp.skip<|At.Ad<|Wp.seq<|Wp.block<|Wp.seq ?_
   obtain⟨x3,hx3,hd⟩:=Ae hd
   have hx3_:=Ah hx3
   refine Wp.region ?_
   obtain⟨_,hz1,hc5⟩:=AW.get (hv1.mono hl3) hx3
   obtain⟨v7,rfl,hv2⟩:=HJ.1 hz1
   refine Aa.op (Ab.Bo HO Cj rf (hv1.mono hl3).sl rf (Ah hx3)) rf<|Aa.op (Ab.C9 (vs:=[(.int .i64 x3.kind),(Ak (word x3.set 0)),(Ak (word x3.set 1)),(Ak (word x3.set 2)),(Ak (word x3.set 3)),v7]) JH rf Cj rf rf (fun j u hj=>(hc5 j u hj))) rf<|Aa.alloc (cs:= #[(.int .i64 0),(Ak (word (fun _=>false) 0)),(Ak (word (fun _=>false) 1)),(Ak (word (fun _=>false) 2)),(Ak (word (fun _=>false) 3)),(.slice none 0 0)]) Cj (by simp only[zw];rfl) rf fun B3=>Aa.AP (i:=0) (cs':= #[(.int .i64 x3.kind),(Ak (word x3.set 0)),(Ak (word x3.set 1)),(Ak (word x3.set 2)),(Ak (word x3.set 3)),v7]) rf rf Cj rf rf (Bc (Ac rf (Ac rf (Ac rf (Ac rf (Ac rf (Ac hv2.one (As)))))))) rf ?_
   refine Aa.own (O:=_::_::_::_::_::_) ?_ rf
   refine Aa.Af ?_
   obtain⟨x4,hx4,hd⟩:=Ae hd
   refine Wp.region<|Aa.op (Ab.move rf) rf<|Aa.op (Ab.AF (i:=0) JH rf Cj rf rf rf) rf<|Aa.op (Ab.move rf) rf<|Aa.op (Ab.move rf) rf<|Aa.HR [.AM B3 (.cells #[(.int .i64 x3.kind),(Ak (word x3.set 0)),(Ak (word x3.set 1)),(Ak (word x3.set 2)),(Ak (word x3.set 3)),v7] 37 (0,0)), .AM B2 (.cells #[(.int .i64 a1.kind),(Ak (word a1.set 0)),(Ak (word a1.set 1)),(Ak (word a1.set 2)),(Ak (word a1.set 3)),v1] 37 (0,0))]<|Aa.E8 (BC.call Sr rf (ih (a0:=(d1,e1,i1)) hN3 hN4 hv2 hx4)) rf ?_
   rintro _ H4 _ hl4 ⟨v8,v9,F3,G3,rfl,hN5,hN6,rfl⟩
   refine Aa.JK [.AM B3 (.cells #[(.int .i64 x3.kind),(Ak (word x3.set 0)),(Ak (word x3.set 1)),(Ak (word x3.set 2)),(Ak (word x3.set 3)),v7] 37 (0,0)), .AM B2 (.cells #[(.int .i64 a1.kind),(Ak (word a1.set 0)),(Ak (word a1.set 1)),(Ak (word a1.set 2)),(Ak (word a1.set 3)),v1] 37 (0,0))] ?_
   refine Aa.own (O:=_::_::_::_::_::_) ?_ rf
   refine Aa.nil<|At.AE<|At.Ad<|Wp.region<|Aa.op (Ab.add rf rf (Aq (by omega))) rf<|Aa.op (Ab.move rf) rf<|Aa.nil<|At.AR [1,2,3,4] 5 rf rf rf ?_
   refine At.AO hl4 ⟨x4.1,x4.2.1,(k1+1),x4.2.2,F3,G3,v8,v9,rf,rf,(by rw[←hn1];exact hd),hN5,hN6⟩ (Sub.of rf)
  obtain⟨hb5,hd⟩:=bF hb5 hd
  refine Wp.exit<|At.An<|At.An<|At.Az<|At.AE ?_
  obtain rfl:=si hd
  exact At.Km rf (fun w hs=>⟨_,_,_,rf,hl3,(hs.Cg 1),v5,v6,F2,G2,rf,hN3,hN4,rf⟩)
 obtain⟨hb3,hd⟩:=bF hb3 hd
 refine Wp.sr<|Aa.op (Ab.eql rf rf) rf<|Aa.op (Ab.assign rf) rf<|Aa.Af ?_
 refine Wp.cond rf (fun hb6=>?_) (fun hb6=>?_)
 ·
  obtain⟨hb6,hd⟩:=bT hb6 hd
  refine Wp.sr<|Aa.op (Ab.move rf) rf<|Aa.op (Ab.assign rf) rf<|Aa.Af<|Wp.sr<|Aa.op (Ab.AV (o':=5) Et rf rf) rf<|Aa.op (Ab.Am (i:=0) (v:=v1) HO rf rf rf rf) rf ?_
  have hb7:=hv1.le
  refine Aa.op (Ab.len HO rf hv1.sl) rf<|Aa.op (Ab.move rf) rf<|Aa.Af<|Wp.block<|Wp.A_ (fun m LL HH OO=> ∃(d2:List (List Int)),∃(e2:List (List (AD×Int×Int))),∃(i2:Int),∃(k2:Nat),∃(i3:Int),∃(F4:K3 Int),∃(G4:K3 (AD×Int×Int)),∃(v10:Value),∃(v11:Value),[(0,(ptr B0 0)),(3,(.int .i64 a3)),(5,(ptr B2 0)),(10,(.int .i64 i2)),(86,v1),(87,(.int .i64 (a1.AL.length:Int))),(88,(.int .i64 (k2:Int)))]=LL∧ .AM B2 (.cells #[(.int .i64 a1.kind),(Ak (word a1.set 0)),(Ak (word a1.set 1)),(Ak (word a1.set 2)),(Ak (word a1.set 3)),v1] 37 (0,0)):: .AM B0 (.cells #[v10,v11,(.int .i64 i3)] 66 (0,0)):: .row v10 55 1 (A4 F4).length (A4 F4):: .row v11 94 1 (A4 G4).length (A4 G4)::(BE 3 1 F4++(BE 96 6 G4++O))=OO∧Ax m (fun p nx=>BN fu a1 a3 slf p.1 p.2.1 p.2.2.1 p.2.2.2.1 p.2.2.2.2 nx) (d2,e2,i2,k2,i3)=some r∧Bk Ao HH d2 F4∧Bk Vx HH e2 G4) fu ⟨a0.1,a0.2.1,a2,0,a0.2.2,F1,G1,u1,u2,rf,rf,hd,hNF,hNG⟩ (Sub.of rf) ?_
  intro m3 L2 H5 O2 hl5 hI2
  obtain⟨d2,e2,i2,k2,i3,F4,G4,v10,v11,rfl,rfl,hd,hN7,hN8⟩:=hI2
  obtain⟨m4,nx2,rfl,hn2,hd⟩:=A9 hd
  replace hd:BN fu a1 a3 slf d2 e2 i2 k2 i3 nx2=some r:=hd
  unfold BN at hd
  refine Wp.sr<|Aa.op (Ab.lss rf rf) rf<|Aa.Af<|Wp.seq ?_
  refine Wp.cond rf (fun hb8=>?_) (fun hb8=>?_)
  ·
   obtain⟨hb8,hd⟩:=bT hb8 hd
   refine Wp.skip<|At.Ad<|Wp.seq<|Wp.block<|Wp.seq ?_
   obtain⟨x5,hx5,hd⟩:=Ae hd
   have hx5_:=Ah hx5
   refine Wp.region<|Aa.op (Ab.move rf) rf ?_
   obtain⟨_,hz2,hc6⟩:=AW.get (hv1.mono hl5) hx5
   obtain⟨v12,rfl,hv3⟩:=HJ.1 hz2
   refine Aa.op (Ab.Bo HO Cj rf (hv1.mono hl5).sl rf (Ah hx5)) rf<|Aa.op (Ab.C9 (vs:=[(.int .i64 x5.kind),(Ak (word x5.set 0)),(Ak (word x5.set 1)),(Ak (word x5.set 2)),(Ak (word x5.set 3)),v12]) JH rf Cj rf rf (fun j u hj=>(hc6 j u hj))) rf<|Aa.alloc (cs:= #[(.int .i64 0),(Ak (word (fun _=>false) 0)),(Ak (word (fun _=>false) 1)),(Ak (word (fun _=>false) 2)),(Ak (word (fun _=>false) 3)),(.slice none 0 0)]) Cj (by simp only[zw];rfl) rf fun B4=>Aa.op (Ab.assign rf) rf<|Aa.AP (i:=0) (cs':= #[(.int .i64 x5.kind),(Ak (word x5.set 0)),(Ak (word x5.set 1)),(Ak (word x5.set 2)),(Ak (word x5.set 3)),v12]) rf rf Cj rf rf (Bc (Ac rf (Ac rf (Ac rf (Ac rf (Ac rf (Ac hv3.one (As)))))))) rf ?_
   refine Aa.own (O:=_::_::_::_::_::_) ?_ rf
   refine Aa.Af<|Wp.sr<|Aa.op (Ab.move rf) rf<|Aa.op (Ab.assign rf) rf<|Aa.Af<|Wp.seq<|Wp.sr<|Aa.op (Ab.move rf) rf ?_
   refine Aa.op (Ab.add rf rf (Aq (by omega))) rf<|Aa.op (Ab.AV (o':=5) Et rf rf) rf<|Aa.op (Ab.Am (i:=1) (v:=v1) HO rf rf rf rf) rf ?_
   have hb9:=hv1.le
   refine Aa.op (Ab.len HO rf (hv1.mono hl5).sl) rf<|Aa.op (Ab.lss rf rf) rf<|Aa.Af ?_
   refine Wp.Fp (fun LL HH OO=> ∃(d3:List (List Int)),∃(e3:List (List (AD×Int×Int))),∃(i4:Int),∃(F5:K3 Int),∃(G5:K3 (AD×Int×Int)),∃(v13:Value),∃(v14:Value),[(0,(ptr B0 0)),(3,(.int .i64 a3)),(5,(ptr B2 0)),(10,(.int .i64 i2)),(12,(ptr B4 0)),(13,(.int .i64 i4)),(86,v1),(87,(.int .i64 (a1.AL.length:Int))),(88,(.int .i64 (k2:Int)))]=LL∧ .AM B4 (.cells #[(.int .i64 x5.kind),(Ak (word x5.set 0)),(Ak (word x5.set 1)),(Ak (word x5.set 2)),(Ak (word x5.set 3)),v12] 37 (0,0)):: .AM B2 (.cells #[(.int .i64 a1.kind),(Ak (word a1.set 0)),(Ak (word a1.set 1)),(Ak (word a1.set 2)),(Ak (word a1.set 3)),v1] 37 (0,0)):: .AM B0 (.cells #[v13,v14,(.int .i64 i3)] 66 (0,0)):: .row v13 55 1 (A4 F5).length (A4 F5):: .row v14 94 1 (A4 G5).length (A4 G5)::(BE 3 1 F5++(BE 96 6 G5++O))=OO∧C3 fu slf i2 k2 i3 nx2 x5 d3 e3 i4=some r∧Bk Ao HH d3 F5∧Bk Vx HH e3 G5) ?_ ?_
   ·
    refine Wp.cond rf (fun hb10=>?_) (fun hb10=>?_)
    ·
     obtain⟨hb10,hd⟩:=bT hb10 hd
     obtain⟨ha4,hd⟩:=Al hd
     obtain⟨ha5,hd⟩:=Al hd
     refine Wp.region<|Aa.op (Ab.move rf) rf<|Aa.HR [.AM B4 (.cells #[(.int .i64 x5.kind),(Ak (word x5.set 0)),(Ak (word x5.set 1)),(Ak (word x5.set 2)),(Ak (word x5.set 3)),v12] 37 (0,0)), .AM B2 (.cells #[(.int .i64 a1.kind),(Ak (word a1.set 0)),(Ak (word a1.set 1)),(Ak (word a1.set 2)),(Ak (word a1.set 3)),v1] 37 (0,0))]<|Aa.E8 (BC.call Ss rf (LU hN7 hN8 ha4 ha5)) rf ?_
     rintro _ H6 _ hl6 ⟨v15,v16,rfl,rfl⟩
     refine Aa.JK [.AM B4 (.cells #[(.int .i64 x5.kind),(Ak (word x5.set 0)),(Ak (word x5.set 1)),(Ak (word x5.set 2)),(Ak (word x5.set 3)),v12] 37 (0,0)), .AM B2 (.cells #[(.int .i64 a1.kind),(Ak (word a1.set 0)),(Ak (word a1.set 1)),(Ak (word a1.set 2)),(Ak (word a1.set 3)),v1] 37 (0,0))] ?_
     have hN9:=Bk.mono (Bk.add hN7) hl6;have hN10:=Bk.mono (Bk.add hN8) hl6
     refine Aa.own (O:=_::_::_::_::_::_) ?_ rf
     refine Aa.op (Ab.assign rf) rf<|Aa.nil ?_
     refine At.Cn hl6 ⟨(d2++[[]]),(e2++[[]]),(e2.length:Int),(F4++[(Value.slice none 0 0,[],[])]),(G4++[(Value.slice none 0 0,[],[])]),v15,v16,rf,rf,hd,hN9,hN10⟩ (Sub.of rf)
    obtain⟨hb10,hd⟩:=bF hb10 hd
    refine Wp.skip ?_
    refine At.Cn (Hp.le.refl _) ⟨d2,e2,a3,F4,G4,v10,v11,rf,rf,hd,hN7,hN8⟩ (Sub.of rf)
   intro L3 H7 O3 hl7 hI3
   obtain⟨d3,e3,i4,F5,G5,v13,v14,rfl,rfl,hd,hN11,hN12⟩:=hI3
   unfold C3 at hd
   refine Wp.seq ?_
   obtain⟨x6,hx6,hd⟩:=Ae hd
   refine Wp.region<|Aa.op (Ab.move rf) rf<|Aa.op (Ab.AF (i:=0) JH rf Cj rf rf rf) rf<|Aa.op (Ab.move rf) rf<|Aa.op (Ab.move rf) rf<|Aa.HR [.AM B4 (.cells #[(.int .i64 x5.kind),(Ak (word x5.set 0)),(Ak (word x5.set 1)),(Ak (word x5.set 2)),(Ak (word x5.set 3)),v12] 37 (0,0)), .AM B2 (.cells #[(.int .i64 a1.kind),(Ak (word a1.set 0)),(Ak (word a1.set 1)),(Ak (word a1.set 2)),(Ak (word a1.set 3)),v1] 37 (0,0))]<|Aa.E8 (BC.call Sr rf (ih (a0:=(d3,e3,i3)) hN11 hN12 (hv3.mono hl7) hx6)) rf ?_
   rintro _ H8 _ hl8 ⟨v17,v18,F6,G6,rfl,hN13,hN14,rfl⟩
   refine Aa.JK [.AM B4 (.cells #[(.int .i64 x5.kind),(Ak (word x5.set 0)),(Ak (word x5.set 1)),(Ak (word x5.set 2)),(Ak (word x5.set 3)),v12] 37 (0,0)), .AM B2 (.cells #[(.int .i64 a1.kind),(Ak (word a1.set 0)),(Ak (word a1.set 1)),(Ak (word a1.set 2)),(Ak (word a1.set 3)),v1] 37 (0,0))] ?_
   refine Aa.own (O:=_::_::_::_::_::_) ?_ rf
   refine Aa.Af<|Wp.region<|Aa.op (Ab.move rf) rf<|Aa.op (Ab.assign rf) rf<|Aa.nil<|At.AE<|At.Ad<|Wp.region ?_
   refine Aa.op (Ab.add rf rf (Aq (by omega))) rf<|Aa.op (Ab.move rf) rf<|Aa.nil<|At.AR [1,2,3,4] 5 rf rf rf ?_
   refine At.AO (hl7.trans hl8) ⟨x6.1,x6.2.1,i4,(k2+1),x6.2.2,F6,G6,v17,v18,rf,rf,(by rw[←hn2];exact hd),hN13,hN14⟩ (Sub.of rf)
  obtain⟨hb8,hd⟩:=bF hb8 hd
  refine Wp.exit<|At.An<|At.An<|At.Az<|At.AE ?_
  obtain rfl:=si hd
  exact At.Km rf (fun w hs=>⟨_,_,_,rf,hl5,(hs.Cg 1),v10,v11,F4,G4,rf,hN7,hN8,rf⟩)
 obtain⟨hb6,hd⟩:=bF hb6 hd
 refine Wp.sr<|Aa.op (Ab.eql rf rf) rf<|Aa.op (Ab.assign rf) rf<|Aa.Af ?_
 refine Wp.cond rf (fun hb11=>?_) (fun hb11=>?_)
 ·
  obtain⟨hb11,hd⟩:=bT hb11 hd
  refine Wp.seq ?_
  obtain⟨ha6,hd⟩:=Al hd
  obtain⟨ha7,hd⟩:=Al hd
  refine Wp.region<|Aa.op (Ab.move rf) rf<|Aa.HR [.AM B2 (.cells #[(.int .i64 a1.kind),(Ak (word a1.set 0)),(Ak (word a1.set 1)),(Ak (word a1.set 2)),(Ak (word a1.set 3)),v1] 37 (0,0))]<|Aa.E8 (BC.call Ss rf (LU hNF hNG ha6 ha7)) rf ?_
  rintro _ H9 _ hl9 ⟨v19,v20,rfl,rfl⟩
  refine Aa.JK [.AM B2 (.cells #[(.int .i64 a1.kind),(Ak (word a1.set 0)),(Ak (word a1.set 1)),(Ak (word a1.set 2)),(Ak (word a1.set 3)),v1] 37 (0,0))] ?_
  have hN15:=Bk.mono (Bk.add hNF) hl9;have hN16:=Bk.mono (Bk.add hNG) hl9
  refine Aa.own (O:=_::_::_::_::_) ?_ rf
  refine Aa.op (Ab.assign rf) rf<|Aa.Af<|Wp.seq ?_
  obtain⟨x7,hx7,hd⟩:=Ae hd
  obtain⟨v21,xs3,hf3,hL3,hi3⟩:=Bk.get hN15 hx7
  refine Wp.Lh [.AM B2 (.cells #[(.int .i64 a1.kind),(Ak (word a1.set 0)),(Ak (word a1.set 1)),(Ak (word a1.set 2)),(Ak (word a1.set 3)),v1] 37 (0,0)), .AM B0 (.cells #[v19,v20,(.int .i64 a0.2.2)] 66 (0,0)), .row v19 55 1 (A4 (F1++[(Value.slice none 0 0,[],[])])).length (A4 (F1++[(Value.slice none 0 0,[],[])])), .row v20 94 1 (A4 (G1++[(Value.slice none 0 0,[],[])])).length (A4 (G1++[(Value.slice none 0 0,[],[])]))] hf3 ?_
  obtain⟨ha8,hd⟩:=Al hd
  obtain⟨_,⟨rfl,_⟩,hc7,hc7_⟩:=Au.get (Bk.row hN15) (AG hi3).2
  obtain⟨_,⟨rfl,_⟩,hc8,hc8_⟩:=Au.get (Bk.row hN15) (AG hi3).2
  refine Wp.emp<|Aj.runK 6 [AU,AU,AU,⟨[3],[],[]⟩,AU,AU,AU,AU,⟨[3],[],[]⟩,AU,⟨[4],[],[]⟩,⟨[4],[],[]⟩,AU,⟨[0],[0],[13]⟩,⟨[0,1],[1],[14]⟩,⟨[4],[],[]⟩,⟨[4],[4],[14]⟩] follows rf (by kernel_rfl)<|Aj.op (val:=fun p3=>(ptr B0 0)) rf rf (fun _=>rfl) (fun _ p3 _ hx hf hy=>Ab.move rf) rf<|Aj.op (val:=fun p3=>(ptr B0 0)) rf rf (fun _=>rfl) (fun _ p3 _ hx hf hy=>Ab.nilCheck rf) rf<|Aj.op (val:=fun p3=>(ptr B0 0)) rf rf (fun _=>rfl) (fun _ p3 _ hx hf hy=>Ab.AV (o':=0) IV rf rf) rf<|Aj.op (val:=fun p3=>v19) rf rf (fun _=>rfl) (fun _ p3 _ hx hf hy=>Ab.Am (i:=3) (v:=v19) Ey rf rf (hy 3 _ rf rf) rf) rf<|Aj.op (val:=fun p3=>(.int .i64 a2)) rf rf (fun _=>rfl) (fun _ p3 _ hx hf hy=>Ab.move rf) rf<|Aj.op (val:=fun p3=>(ptr B0 0)) rf rf (fun _=>rfl) (fun _ p3 _ hx hf hy=>Ab.move rf) rf ?_
  refine Aj.op (val:=fun p3=>(ptr B0 0)) rf rf (fun _=>rfl) (fun _ p3 _ hx hf hy=>Ab.nilCheck rf) rf<|Aj.op (val:=fun p3=>(ptr B0 0)) rf rf (fun _=>rfl) (fun _ p3 _ hx hf hy=>Ab.AV (o':=0) IV rf rf) rf<|Aj.op (val:=fun p3=>v19) rf rf (fun _=>rfl) (fun _ p3 _ hx hf hy=>Ab.Am (i:=3) (v:=v19) Ey rf rf (hy 3 _ rf rf) rf) rf<|Aj.op (val:=fun p3=>(.int .i64 a2)) rf rf (fun _=>rfl) (fun _ p3 _ hx hf hy=>Ab.move rf) rf<|Aj.op (val:=fun p3=>(A2 v19 ((Int.toNat a2)*1))) rf rf (fun _=>rfl) (fun _ p3 _ hx hf hy=>Ab.Bu (j:=4) Ey Dx rf (hy 4 _ rf rf) rf (Ah hi3)) rf<|Aj.op (val:=fun p3=>v21) rf rf (fun _=>rfl) (fun _ p3 _ hx hf hy=>Ab.Ch (i:=4) (k:=(Int.toNat a2)*1+0) BF rf rf (hy 4 _ rf rf) (hc7 0 _ rf)) rf<|Aj.op (val:=fun p3=>(.int .i64 (a0.2.1.length:Int))) rf rf (fun _=>rfl) (fun _ p3 _ hx hf hy=>Ab.move rf) rf<|Aj.Hs (res:=fun p3=> .row (p3 13) 3 1 1 [(.int .i64 (a0.2.1.length:Int))]) 0 rf rf rf (fun _=>rfl) (fun _ p3 _ hx hf hy=>BC.EO (v:=(.int .i64 (a0.2.1.length:Int))) (cs:=[(.int .i64 (a0.2.1.length:Int))]) 0 BF Cp rf rf rf rf rf (hy 0 _ rf rf)) rf (fun _=>⟨_,_,_,_,rf⟩) ?_
  refine Aj.Hs (res:=fun p3=> .row (p3 14) 3 1 (x7.length+1) (xs3++[(.int .i64 (a0.2.1.length:Int))])) 1 rf rf rf (fun _=>rfl) (fun _ p3 _ hx hf hy=>BC.M' 1 0 BF Cp rf rf rf rf (hy 1 _ rf rf) (hy 0 _ rf rf) (Ac rf (As)) rf ha8) rf (fun _=>⟨_,_,_,_,rf⟩)<|Aj.op (val:=fun p3=>(A2 v19 ((Int.toNat a2)*1))) rf rf (fun _=>rfl) (fun _ p3 _ hx hf hy=>Ab.Bu (j:=4) Ey Dx rf (hy 4 _ rf rf) rf (Ah hi3)) rf<|Aj.Kr (res:=fun p3=> .row v19 55 1 (A4 (F1++[(Value.slice none 0 0,[],[])])).length (GP (A4 (F1++[(Value.slice none 0 0,[],[])])) ((Int.toNat a2)*1+0) [(p3 14)])) 4 rf rf rf (fun _=>rfl) (fun _ p3 _ hx hf hy=>BC.Mk (k:=(Int.toNat a2)*1+0) (vs:=[(p3 14)]) rf rf (DZ (hf 14 rf rf)) Dx rf rf (Ac (hf 14 rf rf) (As)) (hy 4 _ rf rf) (by have h1:_=_*1:=(Bk.row hN15).len;have h2:=Ah hi3;simp only[List.length_cons,List.length_nil];omega))<|Aj.done fun H10 p3 hl10 hF3=>At.sub (L':=[(0,(ptr B0 0)),(3,(.int .i64 a3)),(5,(ptr B2 0)),(14,(.int .i64 (a0.2.1.length:Int)))]) (Sub.of rf) ?_
  refine At.own (O:= .row (p3 13) 3 1 ([(a0.2.1.length:Int)]:List Int).length [(.int .i64 (a0.2.1.length:Int))]:: .row (p3 14) 3 1 (x7++([(a0.2.1.length:Int)]:List Int)).length (xs3++[(.int .i64 (a0.2.1.length:Int))]):: .AM B2 (.cells #[(.int .i64 a1.kind),(Ak (word a1.set 0)),(Ak (word a1.set 1)),(Ak (word a1.set 2)),(Ak (word a1.set 3)),v1] 37 (0,0)):: .AM B0 (.cells #[v19,v20,(.int .i64 a0.2.2)] 66 (0,0)):: .row v19 55 1 ((A4 (F1++[(Value.slice none 0 0,[],[])])).set (Int.toNat a2) (p3 14)).length (GP (A4 (F1++[(Value.slice none 0 0,[],[])])) ((Int.toNat a2)*1+0) [(p3 14)]):: .row v20 94 1 (A4 (G1++[(Value.slice none 0 0,[],[])])).length (A4 (G1++[(Value.slice none 0 0,[],[])]))::(BE 3 1 (List.eraseIdx (F1++[(Value.slice none 0 0,[],[])]) (Int.toNat a2))++(BE 96 6 (G1++[(Value.slice none 0 0,[],[])])++O))) ?_ (by first|rfl|(simp only[List.length_append,List.length_set];rfl)|simp)
  have hq3:Au Ao H10 (x7++([(a0.2.1.length:Int)]:List Int)) (xs3++[(.int .i64 (a0.2.1.length:Int))]):=(Au.app (hL3.mono hl10) (Au.Kj (c:=Ao) (a:=(a0.2.1.length:Int)) (cs:=[(.int .i64 (a0.2.1.length:Int))]) rfl))
  refine At.Bm (i:=1) rf fun ho3=>?_
  refine At.own (O:= .row (p3 13) 3 1 ([(a0.2.1.length:Int)]:List Int).length [(.int .i64 (a0.2.1.length:Int))]:: .row (p3 14) 3 1 (x7++([(a0.2.1.length:Int)]:List Int)).length (xs3++[(.int .i64 (a0.2.1.length:Int))]):: .AM B2 (.cells #[(.int .i64 a1.kind),(Ak (word a1.set 0)),(Ak (word a1.set 1)),(Ak (word a1.set 2)),(Ak (word a1.set 3)),v1] 37 (0,0)):: .AM B0 (.cells #[v19,v20,(.int .i64 a0.2.2)] 66 (0,0)):: .row v19 55 1 (A4 (List.set (F1++[(Value.slice none 0 0,[],[])]) (Int.toNat a2) ((p3 14),x7++([(a0.2.1.length:Int)]:List Int),xs3++[(.int .i64 (a0.2.1.length:Int))]))).length (A4 (List.set (F1++[(Value.slice none 0 0,[],[])]) (Int.toNat a2) ((p3 14),x7++([(a0.2.1.length:Int)]:List Int),xs3++[(.int .i64 (a0.2.1.length:Int))]))):: .row v20 94 1 (A4 (G1++[(Value.slice none 0 0,[],[])])).length (A4 (G1++[(Value.slice none 0 0,[],[])]))::(BE 3 1 (List.eraseIdx (F1++[(Value.slice none 0 0,[],[])]) (Int.toNat a2))++(BE 96 6 (G1++[(Value.slice none 0 0,[],[])])++O))) ?_ (by rw[show GP (A4 (F1++[(Value.slice none 0 0,[],[])])) ((Int.toNat a2)*1+0) [(p3 14)]=A4 (List.set (F1++[(Value.slice none 0 0,[],[])]) (Int.toNat a2) ((p3 14),x7++([(a0.2.1.length:Int)]:List Int),xs3++[(.int .i64 (a0.2.1.length:Int))]))from Pf _ _ _ hf3,show(A4 (F1++[(Value.slice none 0 0,[],[])])).set (Int.toNat a2) (p3 14)=A4 (List.set (F1++[(Value.slice none 0 0,[],[])]) (Int.toNat a2) ((p3 14),x7++([(a0.2.1.length:Int)]:List Int),xs3++[(.int .i64 (a0.2.1.length:Int))]))from MY _ _ _])
  refine At.AR [1,2,3,4,5] 6 rf rf rf<|At.K4 [.AM B2 (.cells #[(.int .i64 a1.kind),(Ak (word a1.set 0)),(Ak (word a1.set 1)),(Ak (word a1.set 2)),(Ak (word a1.set 3)),v1] 37 (0,0)), .AM B0 (.cells #[v19,v20,(.int .i64 a0.2.2)] 66 (0,0)), .row v19 55 1 (A4 (List.set (F1++[(Value.slice none 0 0,[],[])]) (Int.toNat a2) ((p3 14),x7++([(a0.2.1.length:Int)]:List Int),xs3++[(.int .i64 (a0.2.1.length:Int))]))).length (A4 (List.set (F1++[(Value.slice none 0 0,[],[])]) (Int.toNat a2) ((p3 14),x7++([(a0.2.1.length:Int)]:List Int),xs3++[(.int .i64 (a0.2.1.length:Int))]))), .row v20 94 1 (A4 (G1++[(Value.slice none 0 0,[],[])])).length (A4 (G1++[(Value.slice none 0 0,[],[])]))] ((p3 14),x7++([(a0.2.1.length:Int)]:List Int),xs3++[(.int .i64 (a0.2.1.length:Int))]) hf3 ?_
  have hN17:Bk Ao H10 (List.set (a0.1++[[]]) (Int.toNat a2) (x7++([(a0.2.1.length:Int)]:List Int))) (List.set (F1++[(Value.slice none 0 0,[],[])]) (Int.toNat a2) ((p3 14),x7++([(a0.2.1.length:Int)]:List Int),xs3++[(.int .i64 (a0.2.1.length:Int))])):=Bk.set (hN15.mono hl10) hq3 ho3
  refine At.Ad<|Wp.seq ?_
  obtain⟨x8,hx8,hd⟩:=Ae hd
  obtain⟨v22,xs4,hf4,hL4,hi4⟩:=Bk.get hN17 hx8
  refine Wp.Lh [.AM B2 (.cells #[(.int .i64 a1.kind),(Ak (word a1.set 0)),(Ak (word a1.set 1)),(Ak (word a1.set 2)),(Ak (word a1.set 3)),v1] 37 (0,0)), .AM B0 (.cells #[v19,v20,(.int .i64 a0.2.2)] 66 (0,0)), .row v19 55 1 (A4 (List.set (F1++[(Value.slice none 0 0,[],[])]) (Int.toNat a2) ((p3 14),x7++([(a0.2.1.length:Int)]:List Int),xs3++[(.int .i64 (a0.2.1.length:Int))]))).length (A4 (List.set (F1++[(Value.slice none 0 0,[],[])]) (Int.toNat a2) ((p3 14),x7++([(a0.2.1.length:Int)]:List Int),xs3++[(.int .i64 (a0.2.1.length:Int))]))), .row v20 94 1 (A4 (G1++[(Value.slice none 0 0,[],[])])).length (A4 (G1++[(Value.slice none 0 0,[],[])]))] hf4 ?_
  obtain⟨ha9,hd⟩:=Al hd
  obtain⟨_,⟨rfl,_⟩,hc9,hc9_⟩:=Au.get (Bk.row hN17) (AG hi4).2
  obtain⟨_,⟨rfl,_⟩,hc10,hc10_⟩:=Au.get (Bk.row hN17) (AG hi4).2
  refine Wp.emp<|Aj.runK 6 [AU,AU,AU,⟨[3],[],[]⟩,AU,AU,AU,AU,⟨[3],[],[]⟩,AU,⟨[4],[],[]⟩,⟨[4],[],[]⟩,AU,⟨[0],[0],[13]⟩,⟨[0,1],[1],[14]⟩,⟨[4],[],[]⟩,⟨[4],[4],[14]⟩] follows rf (by kernel_rfl)<|Aj.op (val:=fun p4=>(ptr B0 0)) rf rf (fun _=>rfl) (fun _ p4 _ hx hf hy=>Ab.move rf) rf<|Aj.op (val:=fun p4=>(ptr B0 0)) rf rf (fun _=>rfl) (fun _ p4 _ hx hf hy=>Ab.nilCheck rf) rf<|Aj.op (val:=fun p4=>(ptr B0 0)) rf rf (fun _=>rfl) (fun _ p4 _ hx hf hy=>Ab.AV (o':=0) IV rf rf) rf<|Aj.op (val:=fun p4=>v19) rf rf (fun _=>rfl) (fun _ p4 _ hx hf hy=>Ab.Am (i:=3) (v:=v19) Ey rf rf (hy 3 _ rf rf) rf) rf<|Aj.op (val:=fun p4=>(.int .i64 (a0.2.1.length:Int))) rf rf (fun _=>rfl) (fun _ p4 _ hx hf hy=>Ab.move rf) rf<|Aj.op (val:=fun p4=>(ptr B0 0)) rf rf (fun _=>rfl) (fun _ p4 _ hx hf hy=>Ab.move rf) rf ?_
  refine Aj.op (val:=fun p4=>(ptr B0 0)) rf rf (fun _=>rfl) (fun _ p4 _ hx hf hy=>Ab.nilCheck rf) rf<|Aj.op (val:=fun p4=>(ptr B0 0)) rf rf (fun _=>rfl) (fun _ p4 _ hx hf hy=>Ab.AV (o':=0) IV rf rf) rf<|Aj.op (val:=fun p4=>v19) rf rf (fun _=>rfl) (fun _ p4 _ hx hf hy=>Ab.Am (i:=3) (v:=v19) Ey rf rf (hy 3 _ rf rf) rf) rf<|Aj.op (val:=fun p4=>(.int .i64 (a0.2.1.length:Int))) rf rf (fun _=>rfl) (fun _ p4 _ hx hf hy=>Ab.move rf) rf<|Aj.op (val:=fun p4=>(A2 v19 (a0.2.1.length*1))) rf rf (fun _=>rfl) (fun _ p4 _ hx hf hy=>Ab.Bu (j:=4) Ey Dx rf (hy 4 _ rf rf) rf (Ah hi4)) rf<|Aj.op (val:=fun p4=>v22) rf rf (fun _=>rfl) (fun _ p4 _ hx hf hy=>Ab.Ch (i:=4) (k:=a0.2.1.length*1+0) BF rf rf (hy 4 _ rf rf) (hc9 0 _ rf)) rf<|Aj.op (val:=fun p4=>(.int .i64 a3)) rf rf (fun _=>rfl) (fun _ p4 _ hx hf hy=>Ab.move rf) rf<|Aj.Hs (res:=fun p4=> .row (p4 13) 3 1 1 [(.int .i64 a3)]) 0 rf rf rf (fun _=>rfl) (fun _ p4 _ hx hf hy=>BC.EO (v:=(.int .i64 a3)) (cs:=[(.int .i64 a3)]) 0 BF Cp rf rf rf rf rf (hy 0 _ rf rf)) rf (fun _=>⟨_,_,_,_,rf⟩) ?_
  refine Aj.Hs (res:=fun p4=> .row (p4 14) 3 1 (x8.length+1) (xs4++[(.int .i64 a3)])) 1 rf rf rf (fun _=>rfl) (fun _ p4 _ hx hf hy=>BC.M' 1 0 BF Cp rf rf rf rf (hy 1 _ rf rf) (hy 0 _ rf rf) (Ac rf (As)) rf ha9) rf (fun _=>⟨_,_,_,_,rf⟩)<|Aj.op (val:=fun p4=>(A2 v19 (a0.2.1.length*1))) rf rf (fun _=>rfl) (fun _ p4 _ hx hf hy=>Ab.Bu (j:=4) Ey Dx rf (hy 4 _ rf rf) rf (Ah hi4)) rf<|Aj.Kr (res:=fun p4=> .row v19 55 1 (A4 (List.set (F1++[(Value.slice none 0 0,[],[])]) (Int.toNat a2) ((p3 14),x7++([(a0.2.1.length:Int)]:List Int),xs3++[(.int .i64 (a0.2.1.length:Int))]))).length (GP (A4 (List.set (F1++[(Value.slice none 0 0,[],[])]) (Int.toNat a2) ((p3 14),x7++([(a0.2.1.length:Int)]:List Int),xs3++[(.int .i64 (a0.2.1.length:Int))]))) (a0.2.1.length*1+0) [(p4 14)])) 4 rf rf rf (fun _=>rfl) (fun _ p4 _ hx hf hy=>BC.Mk (k:=a0.2.1.length*1+0) (vs:=[(p4 14)]) rf rf (DZ (hf 14 rf rf)) Dx rf rf (Ac (hf 14 rf rf) (As)) (hy 4 _ rf rf) (by have h1:_=_*1:=(Bk.row hN17).len;have h2:=Ah hi4;simp only[List.length_cons,List.length_nil];omega))<|Aj.done fun H11 p4 hl11 hF4=>At.sub (L':=[(0,(ptr B0 0)),(5,(ptr B2 0)),(14,(.int .i64 (a0.2.1.length:Int)))]) (Sub.of rf) ?_
  refine At.own (O:= .row (p4 13) 3 1 ([a3]:List Int).length [(.int .i64 a3)]:: .row (p4 14) 3 1 (x8++([a3]:List Int)).length (xs4++[(.int .i64 a3)]):: .AM B2 (.cells #[(.int .i64 a1.kind),(Ak (word a1.set 0)),(Ak (word a1.set 1)),(Ak (word a1.set 2)),(Ak (word a1.set 3)),v1] 37 (0,0)):: .AM B0 (.cells #[v19,v20,(.int .i64 a0.2.2)] 66 (0,0)):: .row v19 55 1 ((A4 (List.set (F1++[(Value.slice none 0 0,[],[])]) (Int.toNat a2) ((p3 14),x7++([(a0.2.1.length:Int)]:List Int),xs3++[(.int .i64 (a0.2.1.length:Int))]))).set a0.2.1.length (p4 14)).length (GP (A4 (List.set (F1++[(Value.slice none 0 0,[],[])]) (Int.toNat a2) ((p3 14),x7++([(a0.2.1.length:Int)]:List Int),xs3++[(.int .i64 (a0.2.1.length:Int))]))) (a0.2.1.length*1+0) [(p4 14)]):: .row v20 94 1 (A4 (G1++[(Value.slice none 0 0,[],[])])).length (A4 (G1++[(Value.slice none 0 0,[],[])]))::(BE 3 1 (List.eraseIdx (List.set (F1++[(Value.slice none 0 0,[],[])]) (Int.toNat a2) ((p3 14),x7++([(a0.2.1.length:Int)]:List Int),xs3++[(.int .i64 (a0.2.1.length:Int))])) a0.2.1.length)++(BE 96 6 (G1++[(Value.slice none 0 0,[],[])])++O))) ?_ (by first|rfl|(simp only[List.length_append,List.length_set];rfl)|simp)
  have hq4:Au Ao H11 (x8++([a3]:List Int)) (xs4++[(.int .i64 a3)]):=(Au.app (hL4.mono hl11) (Au.Kj (c:=Ao) (a:=a3) (cs:=[(.int .i64 a3)]) rfl))
  refine At.Bm (i:=1) rf fun ho4=>?_
  refine At.own (O:= .row (p4 13) 3 1 ([a3]:List Int).length [(.int .i64 a3)]:: .row (p4 14) 3 1 (x8++([a3]:List Int)).length (xs4++[(.int .i64 a3)]):: .AM B2 (.cells #[(.int .i64 a1.kind),(Ak (word a1.set 0)),(Ak (word a1.set 1)),(Ak (word a1.set 2)),(Ak (word a1.set 3)),v1] 37 (0,0)):: .AM B0 (.cells #[v19,v20,(.int .i64 a0.2.2)] 66 (0,0)):: .row v19 55 1 (A4 (List.set (List.set (F1++[(Value.slice none 0 0,[],[])]) (Int.toNat a2) ((p3 14),x7++([(a0.2.1.length:Int)]:List Int),xs3++[(.int .i64 (a0.2.1.length:Int))])) a0.2.1.length ((p4 14),x8++([a3]:List Int),xs4++[(.int .i64 a3)]))).length (A4 (List.set (List.set (F1++[(Value.slice none 0 0,[],[])]) (Int.toNat a2) ((p3 14),x7++([(a0.2.1.length:Int)]:List Int),xs3++[(.int .i64 (a0.2.1.length:Int))])) a0.2.1.length ((p4 14),x8++([a3]:List Int),xs4++[(.int .i64 a3)]))):: .row v20 94 1 (A4 (G1++[(Value.slice none 0 0,[],[])])).length (A4 (G1++[(Value.slice none 0 0,[],[])]))::(BE 3 1 (List.eraseIdx (List.set (F1++[(Value.slice none 0 0,[],[])]) (Int.toNat a2) ((p3 14),x7++([(a0.2.1.length:Int)]:List Int),xs3++[(.int .i64 (a0.2.1.length:Int))])) a0.2.1.length)++(BE 96 6 (G1++[(Value.slice none 0 0,[],[])])++O))) ?_ (by rw[show GP (A4 (List.set (F1++[(Value.slice none 0 0,[],[])]) (Int.toNat a2) ((p3 14),x7++([(a0.2.1.length:Int)]:List Int),xs3++[(.int .i64 (a0.2.1.length:Int))]))) (a0.2.1.length*1+0) [(p4 14)]=A4 (List.set (List.set (F1++[(Value.slice none 0 0,[],[])]) (Int.toNat a2) ((p3 14),x7++([(a0.2.1.length:Int)]:List Int),xs3++[(.int .i64 (a0.2.1.length:Int))])) a0.2.1.length ((p4 14),x8++([a3]:List Int),xs4++[(.int .i64 a3)]))from Pf _ _ _ hf4,show(A4 (List.set (F1++[(Value.slice none 0 0,[],[])]) (Int.toNat a2) ((p3 14),x7++([(a0.2.1.length:Int)]:List Int),xs3++[(.int .i64 (a0.2.1.length:Int))]))).set a0.2.1.length (p4 14)=A4 (List.set (List.set (F1++[(Value.slice none 0 0,[],[])]) (Int.toNat a2) ((p3 14),x7++([(a0.2.1.length:Int)]:List Int),xs3++[(.int .i64 (a0.2.1.length:Int))])) a0.2.1.length ((p4 14),x8++([a3]:List Int),xs4++[(.int .i64 a3)]))from MY _ _ _])
  refine At.AR [1,2,3,4,5] 6 rf rf rf<|At.K4 [.AM B2 (.cells #[(.int .i64 a1.kind),(Ak (word a1.set 0)),(Ak (word a1.set 1)),(Ak (word a1.set 2)),(Ak (word a1.set 3)),v1] 37 (0,0)), .AM B0 (.cells #[v19,v20,(.int .i64 a0.2.2)] 66 (0,0)), .row v19 55 1 (A4 (List.set (List.set (F1++[(Value.slice none 0 0,[],[])]) (Int.toNat a2) ((p3 14),x7++([(a0.2.1.length:Int)]:List Int),xs3++[(.int .i64 (a0.2.1.length:Int))])) a0.2.1.length ((p4 14),x8++([a3]:List Int),xs4++[(.int .i64 a3)]))).length (A4 (List.set (List.set (F1++[(Value.slice none 0 0,[],[])]) (Int.toNat a2) ((p3 14),x7++([(a0.2.1.length:Int)]:List Int),xs3++[(.int .i64 (a0.2.1.length:Int))])) a0.2.1.length ((p4 14),x8++([a3]:List Int),xs4++[(.int .i64 a3)]))), .row v20 94 1 (A4 (G1++[(Value.slice none 0 0,[],[])])).length (A4 (G1++[(Value.slice none 0 0,[],[])]))] ((p4 14),x8++([a3]:List Int),xs4++[(.int .i64 a3)]) hf4 ?_
  have hN18:Bk Ao H11 (List.set (List.set (a0.1++[[]]) (Int.toNat a2) (x7++([(a0.2.1.length:Int)]:List Int))) a0.2.1.length (x8++([a3]:List Int))) (List.set (List.set (F1++[(Value.slice none 0 0,[],[])]) (Int.toNat a2) ((p3 14),x7++([(a0.2.1.length:Int)]:List Int),xs3++[(.int .i64 (a0.2.1.length:Int))])) a0.2.1.length ((p4 14),x8++([a3]:List Int),xs4++[(.int .i64 a3)])):=Bk.set (hN17.mono hl11) hq4 ho4
  refine At.Ad ?_
  obtain⟨x9,hx9,hd⟩:=Ae hd
  have hx9_:=Ah hx9
  obtain⟨x10,hx10,hd⟩:=Ae hd
  refine Wp.region<|Aa.op (Ab.move rf) rf<|Aa.op (Ab.AV (o':=5) Et rf rf) rf<|Aa.op (Ab.Am (i:=0) (v:=v1) HO rf rf rf rf) rf ?_
  obtain⟨_,hz3,hc11⟩:=AW.get (hv1.mono ((hl9.trans hl10).trans hl11)) hx9
  obtain⟨v23,rfl,hv4⟩:=HJ.1 hz3
  refine Aa.op (Ab.Bo HO Cj rf (hv1.mono ((hl9.trans hl10).trans hl11)).sl rf (Ah hx9)) rf<|Aa.op (Ab.C9 (vs:=[(.int .i64 x9.kind),(Ak (word x9.set 0)),(Ak (word x9.set 1)),(Ak (word x9.set 2)),(Ak (word x9.set 3)),v23]) JH rf Cj rf rf (fun j u hj=>(hc11 j u hj))) rf<|Aa.op (Ab.move rf) rf<|Aa.op (Ab.move rf) rf<|Aa.HR [.AM B2 (.cells #[(.int .i64 a1.kind),(Ak (word a1.set 0)),(Ak (word a1.set 1)),(Ak (word a1.set 2)),(Ak (word a1.set 3)),v1] 37 (0,0))]<|Aa.E8 (BC.call Sr rf (ih (a0:=((List.set (List.set (a0.1++[[]]) (Int.toNat a2) (x7++([(a0.2.1.length:Int)]:List Int))) a0.2.1.length (x8++([a3]:List Int))),(a0.2.1++[[]]),a0.2.2)) hN18 ((hN16.mono hl10).mono hl11) hv4 hx10)) rf ?_
  rintro _ H12 _ hl12 ⟨v24,v25,F7,G7,rfl,hN19,hN20,rfl⟩
  refine Aa.JK [.AM B2 (.cells #[(.int .i64 a1.kind),(Ak (word a1.set 0)),(Ak (word a1.set 1)),(Ak (word a1.set 2)),(Ak (word a1.set 3)),v1] 37 (0,0))] ?_
  refine Aa.own (O:=_::_::_::_::_) ?_ rf
  refine Aa.nil<|At.AE ?_
  obtain rfl:=si hd
  exact At.Km rf (fun w hs=>⟨_,_,_,rf,(((hl9.trans hl10).trans hl11).trans hl12),(hs.Cg 1),v24,v25,F7,G7,rf,hN19,hN20,rf⟩)
 obtain⟨hb11,hd⟩:=bF hb11 hd
 refine Wp.skip<|At.AE ?_
 obtain rfl:=si hd
 exact At.Km rf (fun w hs=>⟨_,_,_,rf,(Hp.le.refl _),(hs.Cg 1),u1,u2,F1,G1,rf,hNF,hNG,rf⟩)
theorem Pp{fu:Nat}{a0:Rx}{v1:Value}{r:(List (Bool×(List (Int×Int×Int))))×Int}(hv1:AW Kc H a0.AL v1)(hG:E1 Tryz.prog H)(hd:KS fu a0=some r):
   ED Tryz.prog 14 [(.agg #[(.int .i64 a0.kind),(Ak (word a0.set 0)),(Ak (word a0.set 1)),(Ak (word a0.set 2)),(Ak (word a0.set 3)),v1])] H O (fun v H' O'=>(∃v2:Value,(.tuple #[(.agg #[v2]),(.int .i64 r.2)])=v∧AW (cP cB (cL (cP AZ (cP AZ Ao)))) H' r.1 v2)∧O=O'):=by
 intro w hs
 refine Bz Tryz.func14 rf rf rf ?_ hs
 clear hs w
 unfold KS at hd
 refine Wp.sr<|Aa.box (cs:= #[(.int .i64 a0.kind),(Ak (word a0.set 0)),(Ak (word a0.set 1)),(Ak (word a0.set 2)),(Ak (word a0.set 3)),v1]) rf rf rf fun B2=>Aa.alloc (cs:= #[(.slice none 0 0)]) A5 rf rf fun B3=>Aa.op (Ab.assign rf) rf<|Aa.Af<|Wp.seq<|Wp.seq ?_
 obtain⟨x1,hx1,hd⟩:=Ae hd
 refine Wp.region<|Aa.op (Ab.AF (i:=1) JH rf Cj rf rf rf) rf<|Aa.op (Ab.call Zi rf (Q_ hv1 hx1)) rf<|Aa.op (Ab.assign rf) rf<|Aa.Af<|Wp.sr<|Aa.op (Ab.move rf) rf<|Aa.op (Ab.neq rf rf) rf ?_
 refine Aa.Af ?_
 refine Wp.cond rf (fun hb1=>?_) (fun hb1=>?_)
 ·
  obtain⟨hb1,hd⟩:=bT hb1 hd
  refine Wp.sr<|Aa.op (Ab.Bi (vs:=[]) (cs:= #[(.slice none 0 0)]) FQ A5 rf rf (Bd) rf) rf<|Aa.op (Ab.move rf) rf<|Aa.AP (i:=0) (cs':= #[(.slice none 0 0)]) rf rf A5 rf rf (Bc (Ac rf (As))) rf ?_
  refine Aa.own (O:=_::_::_) ?_ rf
  refine Aa.op (Ab.assign rf) rf<|Aa.Af<|Wp.ret<|At.Av ?_
  obtain rfl:=si hd
  exact At.I5 rf (RV.C' (i:=0) rf Eo rf A5 rf rf) (RV.tmp (v:=(.int .i64 x1)) rf) (fun w hs=>⟨_,_,_,rf,(Hp.le.refl _),(hs.Cg 2),⟨⟨(.slice none 0 0),rf,AW.nil⟩,rf⟩⟩)
 obtain⟨hb1,hd⟩:=bF hb1 hd
 refine Wp.skip<|At.Ad<|Wp.sr<|Aa.op (Ab.Bi (vs:=[]) (cs:= #[(.slice none 0 0),(.slice none 0 0),(.int .i64 0)]) YD ZI rf rf (Bd) rf) rf<|Aa.box (cs:= #[(.slice none 0 0),(.slice none 0 0),(.int .i64 0)]) rf rf rf fun B4=>Aa.op (Ab.assign rf) rf<|Aa.Af<|Wp.seq ?_
 obtain⟨ha1,hd⟩:=Al hd
 obtain⟨ha2,hd⟩:=Al hd
 obtain⟨ha3,hd⟩:=Al hd
 obtain⟨ha4,hd⟩:=Al hd
 refine Wp.region<|Aa.op (Ab.move rf) rf<|Aa.BG 94 1<|Aa.BG 55 1<|Aa.AR [3,4,2,0,1] 5 rf rf rf ?_
 refine Aa.own (O:=_::_::_::_::_::_) ?_ rf
 refine Aa.HR [.AM B3 (.cells #[(.slice none 0 0)] 26 (0,0)), .AM B2 (.cells #[(.int .i64 a0.kind),(Ak (word a0.set 0)),(Ak (word a0.set 1)),(Ak (word a0.set 2)),(Ak (word a0.set 3)),v1] 37 (0,0))]<|Aa.E8 (BC.call Ss rf (LU (Bk.nil (c:=Ao) (H:=H)) (Bk.nil (c:=Vx) (H:=H)) ha1 ha2)) rf ?_
 rintro _ H1 _ hl1 ⟨v3,v4,rfl,rfl⟩
 refine Aa.JK [.AM B3 (.cells #[(.slice none 0 0)] 26 (0,0)), .AM B2 (.cells #[(.int .i64 a0.kind),(Ak (word a0.set 0)),(Ak (word a0.set 1)),(Ak (word a0.set 2)),(Ak (word a0.set 3)),v1] 37 (0,0))] ?_
 have hN1:=Bk.mono (Bk.add (Bk.nil (c:=Ao) (H:=H))) hl1;have hN2:=Bk.mono (Bk.add (Bk.nil (c:=Vx) (H:=H))) hl1
 refine Aa.own (O:=_::_::_::_::_::_) ?_ rf
 refine Aa.op (Ab.move rf) rf<|Aa.HR [.AM B3 (.cells #[(.slice none 0 0)] 26 (0,0)), .AM B2 (.cells #[(.int .i64 a0.kind),(Ak (word a0.set 0)),(Ak (word a0.set 1)),(Ak (word a0.set 2)),(Ak (word a0.set 3)),v1] 37 (0,0))]<|Aa.E8 (BC.call Ss rf (LU hN1 hN2 ha3 ha4)) rf ?_
 rintro _ H2 _ hl2 ⟨v5,v6,rfl,rfl⟩
 refine Aa.JK [.AM B3 (.cells #[(.slice none 0 0)] 26 (0,0)), .AM B2 (.cells #[(.int .i64 a0.kind),(Ak (word a0.set 0)),(Ak (word a0.set 1)),(Ak (word a0.set 2)),(Ak (word a0.set 3)),v1] 37 (0,0))] ?_
 have hN3:=Bk.mono (Bk.add hN1) hl2;have hN4:=Bk.mono (Bk.add hN2) hl2
 refine Aa.own (O:=_::_::_::_::_::_) ?_ rf
 refine Aa.op (Ab.assign rf) rf<|Aa.op (Ab.assign rf) rf<|Aa.Af<|Wp.seq ?_
 obtain⟨x2,hx2,hd⟩:=Ae hd
 refine Wp.region<|Aa.op (Ab.move rf) rf<|Aa.op (Ab.AF (i:=1) JH rf Cj rf rf rf) rf<|Aa.op (Ab.move rf) rf<|Aa.op (Ab.move rf) rf<|Aa.HR [.AM B3 (.cells #[(.slice none 0 0)] 26 (0,0)), .AM B2 (.cells #[(.int .i64 a0.kind),(Ak (word a0.set 0)),(Ak (word a0.set 1)),(Ak (word a0.set 2)),(Ak (word a0.set 3)),v1] 37 (0,0))]<|Aa.E8 (BC.call Sr rf (Pn (a0:=(((([]:List (List Int))++[[]])++[[]]),((([]:List (List (AD×Int×Int)))++[[]])++[[]]),0)) hN3 hN4 (hv1.mono (hl1.trans hl2)) hx2)) rf ?_
 rintro _ H3 _ hl3 ⟨v7,v8,F1,G1,rfl,hN5,hN6,rfl⟩
 refine Aa.JK [.AM B3 (.cells #[(.slice none 0 0)] 26 (0,0)), .AM B2 (.cells #[(.int .i64 a0.kind),(Ak (word a0.set 0)),(Ak (word a0.set 1)),(Ak (word a0.set 2)),(Ak (word a0.set 3)),v1] 37 (0,0))] ?_
 refine Aa.own (O:=_::_::_::_::_::_) ?_ rf
 refine Aa.Af<|Wp.seq<|Wp.seq ?_
 obtain⟨x3,hx3,hd⟩:=Ae hd
 refine Wp.region<|Aa.op (Ab.move rf) rf<|Aa.op (Ab.move rf) rf<|Aa.Ix (c:=Ao) [.AM B3 (.cells #[(.slice none 0 0)] 26 (0,0)), .AM B2 (.cells #[(.int .i64 a0.kind),(Ak (word a0.set 0)),(Ak (word a0.set 1)),(Ak (word a0.set 2)),(Ak (word a0.set 3)),v1] 37 (0,0)), .AM B4 (.cells #[v7,v8,(.int .i64 x2.2.2)] 66 (0,0)), .row v7 55 1 (A4 F1).length (A4 F1), .row v8 94 1 (A4 G1).length (A4 G1)] hN5 fun H4 hl4 hq1=>Aa.Ix (c:=Vx) [.AM B3 (.cells #[(.slice none 0 0)] 26 (0,0)), .AM B2 (.cells #[(.int .i64 a0.kind),(Ak (word a0.set 0)),(Ak (word a0.set 1)),(Ak (word a0.set 2)),(Ak (word a0.set 3)),v1] 37 (0,0)), .AM B4 (.cells #[v7,v8,(.int .i64 x2.2.2)] 66 (0,0)), .row v7 55 1 (A4 F1).length (A4 F1), .row v8 94 1 (A4 G1).length (A4 G1)] (Bk.mono hN6 hl4) fun H5 hl5 hq2=>?_
 refine Aa.own (O:= .AM B3 (.cells #[(.slice none 0 0)] 26 (0,0)):: .AM B2 (.cells #[(.int .i64 a0.kind),(Ak (word a0.set 0)),(Ak (word a0.set 1)),(Ak (word a0.set 2)),(Ak (word a0.set 3)),v1] 37 (0,0)):: .AM B4 (.cells #[v7,v8,(.int .i64 x2.2.2)] 66 (0,0)):: .row v7 55 1 x2.1.length (A4 F1):: .row v8 94 1 x2.2.1.length (A4 G1)::O) ?_ (by rw[KI hN5,KI hN6]<;>rfl)
 refine Aa.A7 (i:=3) rf fun hb2=>?_
 refine Aa.freeze (i:=3) rf fun H6 hl6 hs1=>?_
 have hv2:=AW.of (c:=(cL Ao)) hs1 rfl ((hq1.mono hl5).mono hl6) hb2
 refine Aa.A7 (i:=3) rf fun hb3=>?_
 refine Aa.freeze (i:=3) rf fun H7 hl7 hs2=>?_
 have hv3:=AW.of (c:=(cL (cP IG (cP Ao Ao)))) hs2 rfl ((hq2.mono hl6).mono hl7) hb3
 refine Aa.op (Ab.call Zh rf (Ca.at 2 rf (Nv (hv2.mono hl7) hv3 (hG.mono ((((((hl1.trans hl2).trans hl3).trans hl4).trans hl5).trans hl6).trans hl7)) hx3))) rf<|Aa.Af ?_
 refine Wp.cond rf (fun hb4=>?_) (fun hb4=>?_)
 ·
  replace hd:=Fs hb4 hd
  refine Wp.sr<|Aa.op (Ab.Bi (vs:=[]) (cs:= #[(.slice none 0 0)]) FQ A5 rf rf (Bd) rf) rf<|Aa.AP (i:=0) (cs':= #[(.slice none 0 0)]) rf rf A5 rf rf (Bc (Ac rf (As))) rf ?_
  refine Aa.own (O:=_::_::_::_) ?_ rf
  refine Aa.op (Ab.assign rf) rf<|Aa.Af<|Wp.ret<|At.Av ?_
  obtain rfl:=si hd
  exact At.I5 rf (RV.C' (i:=0) rf Eo rf A5 rf rf) (RV.tmp (v:=(.int .i64 10)) rf) (fun w hs=>⟨_,_,_,rf,((((((hl1.trans hl2).trans hl3).trans hl4).trans hl5).trans hl6).trans hl7),(hs.Cg 3),⟨⟨(.slice none 0 0),rf,AW.nil⟩,rf⟩⟩)
 replace hd:=Ft hb4 hd
 refine Wp.skip<|At.Ad<|Wp.seq ?_
 obtain⟨x4,hx4,hd⟩:=Ae hd
 obtain⟨x5,hx5,hd⟩:=Ae hd
 refine Wp.region<|Aa.op (Ab.move rf) rf<|Aa.op (Ab.move rf) rf<|Aa.op (Ab.move rf) rf<|Aa.E8 (BC.call Zg rf (ED.atR 2 rf (Ke (hv2.mono hl7) hv3 (hG.mono ((((((hl1.trans hl2).trans hl3).trans hl4).trans hl5).trans hl6).trans hl7)) hx4))) rf ?_
 rintro _ H8 _ hl8 ⟨⟨v9,rfl,hv4⟩,rfl⟩
 refine Aa.E8 (BC.call Wr rf (G' hv4 (hG.mono (((((((hl1.trans hl2).trans hl3).trans hl4).trans hl5).trans hl6).trans hl7).trans hl8)) hx5)) rf ?_
 rintro _ H9 _ hl9 ⟨⟨v10,rfl,hv5⟩,rfl⟩
 refine Aa.op (Ab.move rf) rf<|Aa.op (Ab.extract rf rf) rf<|Aa.op (Ab.extract rf rf) rf<|Aa.alloc (cs:= #[(.slice none 0 0)]) A5 rf rf fun B5=>Aa.AP (i:=0) (cs':= #[v10]) rf rf A5 rf rf (Bc (Ac hv5.one (As))) rf ?_
 refine Aa.own (O:=_::_::_::_::_) ?_ rf
 refine Aa.op (Ab.assign rf) rf<|Aa.Af<|Wp.seq<|Wp.sr<|Aa.op (Ab.AV (o':=0) Ck rf rf) rf<|Aa.op (Ab.Am (i:=0) (v:=v10) CG rf rf rf rf) rf ?_
 have hb5:=hv5.le
 refine Aa.op (Ab.len CG rf hv5.sl) rf<|Aa.op (Ab.gtr rf rf) rf<|Aa.Af ?_
 refine Wp.cond rf (fun hb6=>?_) (fun hb6=>?_)
 ·
  obtain⟨hb6,hd⟩:=bT hb6 hd
  refine Wp.sr<|Aa.op (Ab.Bi (vs:=[]) (cs:= #[(.slice none 0 0)]) FQ A5 rf rf (Bd) rf) rf<|Aa.AP (i:=1) (cs':= #[(.slice none 0 0)]) rf rf A5 rf rf (Bc (Ac rf (As))) rf ?_
  refine Aa.own (O:=_::_::_::_::_) ?_ rf
  refine Aa.op (Ab.assign rf) rf<|Aa.Af<|Wp.ret<|At.Av ?_
  obtain rfl:=si hd
  exact At.I5 rf (RV.C' (i:=1) rf Eo rf A5 rf rf) (RV.tmp (v:=(.int .i64 10)) rf) (fun w hs=>⟨_,_,_,rf,((((((((hl1.trans hl2).trans hl3).trans hl4).trans hl5).trans hl6).trans hl7).trans hl8).trans hl9),(hs.Cg 4),⟨⟨(.slice none 0 0),rf,AW.nil⟩,rf⟩⟩)
 obtain⟨hb6,hd⟩:=bF hb6 hd
 refine Wp.skip<|At.Ad<|Wp.sr<|Aa.op (Ab.AF (i:=0) Eo rf A5 rf rf rf) rf<|Aa.AP (i:=1) (cs':= #[v10]) rf rf A5 rf rf (Bc (Ac hv5.one (As))) rf ?_
 refine Aa.own (O:=_::_::_::_::_) ?_ rf
 refine Aa.op (Ab.assign rf) rf<|Aa.Af<|Wp.ret ?_
 obtain rfl:=si hd
 exact At.I5 rf (RV.C' (i:=1) rf Eo rf A5 rf rf) (RV.tmp (v:=(.int .i64 0)) rf) (fun w hs=>⟨_,_,_,rf,((((((((hl1.trans hl2).trans hl3).trans hl4).trans hl5).trans hl6).trans hl7).trans hl8).trans hl9),(hs.Cg 4),⟨⟨v10,rf,hv5⟩,rf⟩⟩)
theorem JG{fu:Nat}{a0:Int}{r:Rx}(hr1:0≤a0)(hr2:a0≤255)(hd:HE fu a0=some r):
    ED Tryz.prog 19 [(.int .u8 a0)] H O (fun v H' O'=>(∃v1:Value,(.agg #[(.int .i64 r.kind),(Ak (word r.set 0)),(Ak (word r.set 1)),(Ak (word r.set 2)),(Ak (word r.set 3)),v1])=v∧AW Kc H' r.AL v1)∧O=O'):=by
 intro w hs
 refine Bz Tryz.func19 rf rf rf ?_ hs
 clear hs w
 unfold HE at hd
 refine Wp.sr<|Aa.alloc (cs:= #[(.int .i64 0),(Ak (word (fun _=>false) 0)),(Ak (word (fun _=>false) 1)),(Ak (word (fun _=>false) 2)),(Ak (word (fun _=>false) 3)),(.slice none 0 0)]) Cj (by simp only[zw];rfl) rf fun B2=>Aa.Af<|Wp.sr<|Aa.op (Ab.Bi (vs:=[(0,(.int .i64 2))]) (cs:= #[(.int .i64 2),(Ak (word (fun _=>false) 0)),(Ak (word (fun _=>false) 1)),(Ak (word (fun _=>false) 2)),(Ak (word (fun _=>false) 3)),(.slice none 0 0)]) T6 Cj rf rf (AJ rf (Bd)) (by simp only[zw];rfl)) rf<|Aa.alloc (cs:= #[(.int .i64 0),(Ak (word (fun _=>false) 0)),(Ak (word (fun _=>false) 1)),(Ak (word (fun _=>false) 2)),(Ak (word (fun _=>false) 3)),(.slice none 0 0)]) Cj (by simp only[zw];rfl) rf fun B3=>Aa.AP (i:=0) (cs':= #[(.int .i64 2),(Ak (word (fun _=>false) 0)),(Ak (word (fun _=>false) 1)),(Ak (word (fun _=>false) 2)),(Ak (word (fun _=>false) 3)),(.slice none 0 0)]) rf rf Cj rf rf (Bc (Ac rf (Ac rf (Ac rf (Ac rf (Ac rf (Ac rf (As)))))))) rf ?_
 refine Aa.own (O:=_::_::_) ?_ rf
 refine Aa.Af<|Wp.seq<|Wp.sr<|Aa.op (Ab.assign rf) rf<|Aa.Af<|Wp.block<|Wp.A_ (fun m LL HH OO=> ∃(i1:Int),∃(w28:BitVec 64),[(0,(.int .u8 a0)),(2,(ptr B2 0)),(3,(ptr B3 0)),(4,(.int .u8 i1))]=LL∧ .AM B3 (.cells #[(.int .i64 2),(Ak (word (fun _=>false) 0)),(Ak w28),(Ak (word (fun _=>false) 2)),(Ak (word (fun _=>false) 3)),(.slice none 0 0)] 37 (0,0)):: .AM B2 (.cells #[(.int .i64 0),(Ak (word (fun _=>false) 0)),(Ak (word (fun _=>false) 1)),(Ak (word (fun _=>false) 2)),(Ak (word (fun _=>false) 3)),(.slice none 0 0)] 37 (0,0))::O=OO∧Ax m (fun p nx=>Fx fu a0 p.1 p.2 nx) (i1,w28)=some r∧0≤i1∧i1≤255) fu ⟨97,(word (fun _=>false) 1),rf,rf,hd,by omega⟩ (Sub.of rf) ?_
 intro m1 L1 H1 O1 hl1 hI1
 obtain⟨i1,w28,rfl,rfl,hd,hr3⟩:=hI1
 obtain⟨m2,nx1,rfl,hn1,hd⟩:=A9 hd
 replace hd:Fx fu a0 i1 w28 nx1=some r:=hd
 unfold Fx at hd
 refine Wp.seq<|Wp.seq ?_
 rcases Bool.eq_false_or_eq_true (decide (i1≤a0))with hg1|hg1
 ·
  obtain⟨hg1_,hd⟩:=bT hg1 hd
  refine Wp.region<|Aa.op (Ab.move rf) rf<|Aa.op (Ab.move rf) rf<|Aa.op (Ab.Bg (b:=decide (i1≤a0)) (c:=true) (Ab.leq rf rf) hg1) rf<|Aa.op (Ab.move rf) rf<|Aa.Ay rf rf (Ab.move rf) rf<|Aa.Ay rf rf (Ab.lss rf rf) rf<|Aa.op (Ab.AK rf rf) rf ?_
  refine Aa.Af ?_
  refine Wp.cond rf (fun hb1=>?_) (fun hb1=>?_)
  ·
   obtain⟨hb1,hd⟩:=bT hb1 hd
   refine Wp.skip<|At.Ad<|Wp.seq<|Wp.block ?_
   obtain⟨ha1,hd⟩:=Al hd
   refine Wp.region<|Aa.op (Ab.AV (o':=1) J_ rf rf) rf<|Aa.op (Ab.El (off':=2) LS FN rf rf (by decide) rf) rf<|Aa.op (Ab.Am (i:=0) (v:=(Ak w28)) u32 rf rf rf rf) rf<|Aa.op (Ab.move rf) rf<|Aa.op (Ab.sub rf rf (Cm ha1)) rf<|Aa.op (Ab.ZL (a:=1#64) rf rf (by omega)) rf<|Aa.op (Ab.Zz (a:=w28) (b:=(1#64)<<<(i1-64).toNat) rf rf) rf ?_
   refine Aa.op (Ab.AV (o':=1) J_ rf rf) rf<|Aa.op (Ab.El (off':=2) LS FN rf rf (by decide) rf) rf<|Aa.Cc (i:=0) rf rf rf FN rf (Nat.le_of_ble_eq_true rf) ?_
   refine Aa.own (O:=_::_::_) ?_ rf
   refine Aa.nil<|At.AE<|At.Ad ?_
   obtain⟨ha2,hd⟩:=Al hd
   refine Wp.region<|Aa.op (Ab.move rf) rf<|Aa.op (Ab.add rf rf (Cm ha2)) rf<|Aa.op (Ab.assign rf) rf<|Aa.nil ?_
   refine At.AO (Hp.le.refl _) ⟨(i1+1),(w28+((1#64)<<<(i1-64).toNat)),rf,rf,(by rw[←hn1];exact hd),by omega⟩ (Sub.of rf)
  obtain⟨hb1,hd⟩:=bF hb1 hd
  refine Wp.exit<|At.An<|At.An<|At.Az<|At.Ad<|Wp.sr<|Aa.op (Ab.AF (i:=0) JH rf Cj rf rf rf) rf<|Aa.AP (i:=1) (cs':= #[(.int .i64 2),(Ak (word (fun _=>false) 0)),(Ak w28),(Ak (word (fun _=>false) 2)),(Ak (word (fun _=>false) 3)),(.slice none 0 0)]) rf rf Cj rf rf (Bc (Ac rf (Ac rf (Ac rf (Ac rf (Ac rf (Ac rf (As)))))))) rf ?_
  refine Aa.own (O:=_::_::_) ?_ rf
  refine Aa.Af<|Wp.ret ?_
  obtain rfl:=si hd
  exact At.DB rf (RV.C' (i:=1) rf JH rf Cj rf rf) (fun w hs=>⟨_,_,_,rf,hl1,(hs.Cg 2),⟨⟨(.slice none 0 0),(by simp only[Rx.kind,Rx.set,Rx.AL,Q1,Q0,QZ,QY]),AW.nil⟩,rf⟩⟩)
 obtain⟨hg1_,hd⟩:=bF hg1 hd
 refine Wp.region<|Aa.op (Ab.move rf) rf<|Aa.op (Ab.move rf) rf<|Aa.op (Ab.Bg (b:=decide (i1≤a0)) (c:=false) (Ab.leq rf rf) hg1) rf<|Aa.op (Ab.move rf) rf<|Aa.Ai rf rf rf rf<|Aa.Ai rf rf rf rf<|Aa.op (Ab.AA rf rf) rf ?_
 refine Aa.Af<|Wp.C2 rf<|Wp.exit<|At.An<|At.An<|At.Az<|At.Ad<|Wp.sr ?_
 refine Aa.op (Ab.AF (i:=0) JH rf Cj rf rf rf) rf<|Aa.AP (i:=1) (cs':= #[(.int .i64 2),(Ak (word (fun _=>false) 0)),(Ak w28),(Ak (word (fun _=>false) 2)),(Ak (word (fun _=>false) 3)),(.slice none 0 0)]) rf rf Cj rf rf (Bc (Ac rf (Ac rf (Ac rf (Ac rf (Ac rf (Ac rf (As)))))))) rf ?_
 refine Aa.own (O:=_::_::_) ?_ rf
 refine Aa.Af<|Wp.ret ?_
 obtain rfl:=si hd
 exact At.DB rf (RV.C' (i:=1) rf JH rf Cj rf rf) (fun w hs=>⟨_,_,_,rf,hl1,(hs.Cg 2),⟨⟨(.slice none 0 0),(by simp only[Rx.kind,Rx.set,Rx.AL,Q1,Q0,QZ,QY]),AW.nil⟩,rf⟩⟩)
theorem Lq{fu:Nat}{r:Bool}(hG:E1 Tryz.prog H)(hd:FV fu=some r):
    Ca Tryz.prog 7 [] H O (.bool r):=by
 intro w hs
 refine Bz Tryz.func7 rf rf rf ?_ hs
 clear hs w
 unfold FV at hd
 refine Wp.sr<|Aa.op (Ab.assign rf) rf<|Aa.Af<|Wp.sr<|Aa.op (Ab.Bi (vs:=[(0,(.int .i64 2))]) (cs:= #[(.int .i64 2),(Ak (word (fun _=>false) 0)),(Ak (word (fun _=>false) 1)),(Ak (word (fun _=>false) 2)),(Ak (word (fun _=>false) 3)),(.slice none 0 0)]) T6 Cj rf rf (AJ rf (Bd)) (by simp only[zw];rfl)) rf<|Aa.alloc (cs:= #[(.int .i64 0),(Ak (word (fun _=>false) 0)),(Ak (word (fun _=>false) 1)),(Ak (word (fun _=>false) 2)),(Ak (word (fun _=>false) 3)),(.slice none 0 0)]) Cj (by simp only[zw];rfl) rf fun B2=>Aa.AP (i:=0) (cs':= #[(.int .i64 2),(Ak (word (fun _=>false) 0)),(Ak (word (fun _=>false) 1)),(Ak (word (fun _=>false) 2)),(Ak (word (fun _=>false) 3)),(.slice none 0 0)]) rf rf Cj rf rf (Bc (Ac rf (Ac rf (Ac rf (Ac rf (Ac rf (Ac rf (As)))))))) rf ?_
 refine Aa.own (O:=_::_) ?_ rf
 refine Aa.Af<|Wp.sr<|Aa.op (Ab.AV (o':=1) J_ rf rf) rf<|Aa.op (Ab.El (off':=2) LS FN rf rf (by decide) rf) rf<|Aa.Cc (i:=0) rf rf rf FN rf (Nat.le_of_ble_eq_true rf) ?_
 refine Aa.own (O:=_::_) ?_ rf
 refine Aa.Af<|Wp.seq ?_
 obtain⟨x1,hx1,hd⟩:=Ae hd
 obtain⟨x2,hx2,hd⟩:=Ae hd
 refine Wp.emp<|Aj.runK 2 [⟨[],[],[0]⟩,⟨[1],[],[]⟩,⟨[],[],[0,2]⟩,⟨[],[],[2]⟩,⟨[],[],[2,4]⟩,⟨[],[],[4]⟩,⟨[],[],[4]⟩,AU,⟨[0],[0],[8]⟩,⟨[0],[0],[4,8]⟩,AU] follows rfl (by kernel_rfl)<|Aj.T_ (val:=fun p1=>(.agg #[(.int .i64 x1.kind),(Ak (word x1.set 0)),(Ak (word x1.set 1)),(Ak (word x1.set 2)),(Ak (word x1.set 3)),(Cv (p1 0) 5)])) (fact:=fun p1 HH=>AW Kc HH x1.AL (Cv (p1 0) 5)) rfl (fun _=>rfl) (fun _=>rfl) (fun _ _ _ hl h=>h.mono hl) (fun _ p1 _ hx hf hy=>(BC.call Xd rfl (JG (by omega) (by omega) hx1)).mono (by rintro v HH OO ⟨⟨v1,rfl,hv1⟩,rfl⟩;exact⟨rfl,hv1,rfl⟩)) rfl<|Aj.op (val:=fun p1=>(.agg #[(.int .i64 2),(Ak (word (fun _=>false) 0)),(Ak (17179869184#64)),(Ak (word (fun _=>false) 2)),(Ak (word (fun _=>false) 3)),(.slice none 0 0)])) rfl rfl (fun _=>rfl) (fun _ p1 _ hx hf hy=>Ab.AF (i:=1) JH rfl Cj rfl rfl (hy 1 _ rfl rfl)) rfl<|Aj.T_ (val:=fun p1=>(p1 2)) (fact:=fun p1 HH=>AW Kc HH ([x1,(Rx.mk 2 (bitsOf (word (fun _=>false) 0) (17179869184#64) (word (fun _=>false) 2) (word (fun _=>false) 3)) ([]:List Rx))]:List Rx) (p1 2)) rfl (fun _=>rfl) (fun _=>rfl) (fun _ _ _ hl h=>h.mono hl) (fun _ p1 _ hx hf hy=>(BC.WD (len:=2) (c:=Kc) (l:=([x1,(Rx.mk 2 (bitsOf (word (fun _=>false) 0) (17179869184#64) (word (fun _=>false) 2) (word (fun _=>false) 3)) ([]:List Rx))]:List Rx)) (z:=(.agg #[.int .i64 0, .int .u64 0, .int .u64 0, .int .u64 0, .int .u64 0, .slice none 0 0])) (zs:= #[.int .i64 0, .int .u64 0, .int .u64 0, .int .u64 0, .int .u64 0, .slice none 0 0]) (vs:=[(0,(.agg #[(.int .i64 x1.kind),(Ak (word x1.set 0)),(Ak (word x1.set 1)),(Ak (word x1.set 2)),(Ak (word x1.set 3)),(Cv (p1 0) 5)])),(1,(.agg #[(.int .i64 2),(Ak (word (fun _=>false) 0)),(Ak (17179869184#64)),(Ak (word (fun _=>false) 2)),(Ak (word (fun _=>false) 3)),(.slice none 0 0)]))]) (cs:= #[(.int .i64 x1.kind),(Ak (word x1.set 0)),(Ak (word x1.set 1)),(Ak (word x1.set 2)),(Ak (word x1.set 3)),(Cv (p1 0) 5),(.int .i64 2),(Ak (word (fun _=>false) 0)),(Ak (17179869184#64)),(Ak (word (fun _=>false) 2)),(Ak (word (fun _=>false) 3)),(.slice none 0 0)]) HO Cj rfl rfl rfl rfl (AJ rfl (AJ rfl (Bd))) (by kernel_rfl) rfl rfl (show Au Kc _ [x1,(Rx.mk 2 (bitsOf (word (fun _=>false) 0) (17179869184#64) (word (fun _=>false) 2) (word (fun _=>false) 3)) ([]:List Rx))] [(.int .i64 x1.kind),(Ak (word x1.set 0)),(Ak (word x1.set 1)),(Ak (word x1.set 2)),(Ak (word x1.set 3)),(Cv (p1 0) 5),(.int .i64 2),(Ak (word (fun _=>false) 0)),(Ak (17179869184#64)),(Ak (word (fun _=>false) 2)),(Ak (word (fun _=>false) 3)),(.slice none 0 0)]from⟨[(.int .i64 x1.kind),(Ak (word x1.set 0)),(Ak (word x1.set 1)),(Ak (word x1.set 2)),(Ak (word x1.set 3)),(Cv (p1 0) 5)],_,rfl,(HJ.2 ⟨_,rfl,(hf 0 rfl rfl)⟩),⟨[(.int .i64 2),(Ak (word (fun _=>false) 0)),(Ak (17179869184#64)),(Ak (word (fun _=>false) 2)),(Ak (word (fun _=>false) 3)),(.slice none 0 0)],_,rfl,(Td AW.nil),rfl⟩⟩)).mono (by rintro v HH OO ⟨rfl,h⟩;exact⟨rfl,h,rfl⟩)) rfl<|Aj.op (val:=fun p1=>(.agg #[(.int .i64 4),(Ak (word (fun _=>false) 0)),(Ak (word (fun _=>false) 1)),(Ak (word (fun _=>false) 2)),(Ak (word (fun _=>false) 3)),(p1 2)])) rfl rfl (fun _=>rfl) (fun _ p1 _ hx hf hy=>Ab.Bi (vs:=[(0,(.int .i64 4)),(2,(p1 2))]) (cs:= #[(.int .i64 4),(Ak (word (fun _=>false) 0)),(Ak (word (fun _=>false) 1)),(Ak (word (fun _=>false) 2)),(Ak (word (fun _=>false) 3)),(p1 2)]) T6 Cj rfl rfl (AJ rfl (AJ (GV ((hf 2 rfl rfl).one)) (Bd))) (by simp only[zw];rfl)) rfl<|Aj.T_ (val:=fun p1=>(.tuple #[(.agg #[(Cv (Cv (p1 4) 0) 0)]),(.int .i64 x2.2)])) (fact:=fun p1 HH=>AW (cP cB (cL (cP AZ (cP AZ Ao)))) HH x2.1 (Cv (Cv (p1 4) 0) 0)) rfl (fun _=>rfl) (fun _=>rfl) (fun _ _ _ hl h=>h.mono hl) (fun _ p1 _ hx hf hy=>(BC.call UZ rfl (Pp (a0:=(Rx.mk 4 (fun _=>false) ([x1,(Rx.mk 2 (bitsOf (word (fun _=>false) 0) (17179869184#64) (word (fun _=>false) 2) (word (fun _=>false) 3)) ([]:List Rx))]:List Rx))) (hf 2 rfl rfl) (hG.mono hx) hx2)).mono (by rintro v HH OO ⟨⟨v2,rfl,hv2⟩,rfl⟩;exact⟨rfl,hv2,rfl⟩)) rfl<|Aj.op (val:=fun p1=>(.tuple #[(.agg #[(Cv (Cv (p1 4) 0) 0)]),(.int .i64 x2.2)])) rfl rfl (fun _=>rfl) (fun _ p1 _ hx hf hy=>Ab.move rfl) rfl ?_
 refine Aj.op (val:=fun p1=>(.agg #[(Cv (Cv (p1 4) 0) 0)])) rf rf (fun _=>rfl) (fun _ p1 _ hx hf hy=>Ab.extract rf rf) rf<|Aj.op (val:=fun p1=>(.int .i64 x2.2)) rf rf (fun _=>rfl) (fun _ p1 _ hx hf hy=>Ab.extract rf rf) rf<|Aj.YE (val:=fun p1=>ptr (BI (p1 8)) 0) (res:=fun p1=> .AM (BI (p1 8)) (.cells #[(.slice none 0 0)] 26 (0,0))) 0 rf rf (fun _=>rfl) (fun _=>rfl) (fun _ p1 _ hx hf hy=>BC.Pq 0 A5 rf (hy 0 _ rf rf)) rf<|Aj.Kr (res:=fun p1=> .AM (BI (p1 8)) (.cells #[(Cv (Cv (p1 4) 0) 0)] 26 (0,0))) 0 rf rf rf (fun _=>rfl) (fun _ p1 _ hx hf hy=>BC.VQ (vs:=[(Cv (Cv (p1 4) 0) 0)]) rf rf rf A5 rf (Ac ((hf 4 rf rf).one) (As)) (hy 0 _ rf rf) rf rf)<|Aj.op (val:=fun p1=>(.int .i64 x2.2)) rf rf (fun _=>rfl) (fun _ p1 _ hx hf hy=>Ab.assign rf) rf<|Aj.done fun H1 p1 hl1 hF1=>?_
 have hf1:AW Kc H1 x1.AL (Cv (p1 0) 5):=hF1 0
 have hf2:AW Kc H1 ([x1,(Rx.mk 2 (bitsOf (word (fun _=>false) 0) (17179869184#64) (word (fun _=>false) 2) (word (fun _=>false) 3)) ([]:List Rx))]:List Rx) (p1 2):=hF1 2
 have hf3:AW (cP cB (cL (cP AZ (cP AZ Ao)))) H1 x2.1 (Cv (Cv (p1 4) 0) 0):=hF1 4
 refine At.sub (L':=[(2,(ptr (BI (p1 8)) 0)),(3,(.int .i64 x2.2))]) (Sub.of rf) ?_
 refine At.own (O:= .AM (BI (p1 8)) (.cells #[(Cv (Cv (p1 4) 0) 0)] 26 (0,0)):: .AM B2 (.cells #[(.int .i64 2),(Ak (word (fun _=>false) 0)),(Ak (17179869184#64)),(Ak (word (fun _=>false) 2)),(Ak (word (fun _=>false) 3)),(.slice none 0 0)] 37 (0,0))::O) ?_ (by first|rfl|(simp only[List.length_append,List.length_set];rfl)|simp)
 refine At.Ad<|Wp.seq ?_
 obtain⟨x3,hx3,hd⟩:=Ae hd
 obtain⟨x4,hx4,hd⟩:=Ae hd
 refine Wp.region<|Aa.E8 (BC.call Xd rf (JG (by omega) (by omega) hx3)) rf ?_
 rintro _ H2 _ hl2 ⟨⟨v3,rfl,hv3⟩,rfl⟩
 refine Aa.E8 (BC.call UZ rf (Pp hv3 (hG.mono (hl1.trans hl2)) hx4)) rf ?_
 rintro _ H3 _ hl3 ⟨⟨v4,rfl,hv4⟩,rfl⟩
 refine Aa.op (Ab.move rf) rf<|Aa.op (Ab.extract rf rf) rf<|Aa.op (Ab.extract rf rf) rf<|Aa.alloc (cs:= #[(.slice none 0 0)]) A5 rf rf fun B3=>Aa.AP (i:=0) (cs':= #[v4]) rf rf A5 rf rf (Bc (Ac hv4.one (As))) rf ?_
 refine Aa.own (O:=_::_::_::_) ?_ rf
 refine Aa.op (Ab.assign rf) rf<|Aa.Af<|Wp.seq ?_
 obtain⟨x5,hx5,hd⟩:=Ae hd
 refine Wp.region<|Aa.op (Ab.Bi (vs:=[]) (cs:= #[(.bool false),(.slice none 0 0)]) Hq Bl rf rf (Bd) rf) rf<|Aa.A1 (c:=(cP cB (cL (cP AZ (cP AZ Ao))))) (y:=(false,([]:List (Int×Int×Int)))) (cs:=[(.bool false),(.slice none 0 0)]) CG Bl rf rf rf rf (⟨[(.bool false)],[(.slice none 0 0)],rf,rf,⟨_,rf,AW.nil⟩⟩) rf fun v5 xs1 hq1=>?_
 refine Aa.A7 (i:=0) rf fun hb1=>?_
 refine Aa.freeze (i:=0) rf fun H4 hl4 hs1=>?_
 have hv5:=AW.of (c:=(cP cB (cL (cP AZ (cP AZ Ao))))) hs1 rfl (hq1.mono hl4) hb1
 refine Aa.E8 (BC.call Wr rf (G' hv5 (hG.mono (((hl1.trans hl2).trans hl3).trans hl4)) hx5)) rf ?_
 rintro _ H5 _ hl5 ⟨⟨v6,rfl,hv6⟩,rfl⟩
 refine Aa.op (Ab.move rf) rf<|Aa.op (Ab.extract rf rf) rf<|Aa.op (Ab.extract rf rf) rf<|Aa.alloc (cs:= #[(.slice none 0 0)]) A5 rf rf fun B4=>Aa.AP (i:=0) (cs':= #[v6]) rf rf A5 rf rf (Bc (Ac hv6.one (As))) rf ?_
 refine Aa.own (O:=_::_::_::_::_) ?_ rf
 refine Aa.op (Ab.assign rf) rf<|Aa.Af<|Wp.seq ?_
 obtain⟨x6,hx6,hd⟩:=Ae hd
 refine Wp.region<|Aa.op (Ab.Bi (vs:=[(0,(.int .u8 2)),(1,(.int .u8 1))]) (cs:= #[(.int .u8 2),(.int .u8 1),(.int .i64 0)]) Ho BA rf rf (AJ rf (AJ rf (Bd))) rf) rf<|Aa.A1 (c:=(cP AZ (cP AZ Ao))) (y:=(2,1,0)) (cs:=[(.int .u8 2),(.int .u8 1),(.int .i64 0)]) CC BA rf rf rf rf (⟨[(.int .u8 2)],[(.int .u8 1),(.int .i64 0)],rf,⟨rf,(show(0:Int)≤2 by omega),(show 2≤(255:Int) by omega)⟩,⟨[(.int .u8 1)],[(.int .i64 0)],rf,⟨rf,(show(0:Int)≤1 by omega),(show 1≤(255:Int) by omega)⟩,rf⟩⟩) rf fun v7 xs2 hq2=>Aa.Bm (i:=0) rf fun ho1=>Aa.op (Ab.Bi (vs:=[(1,v7)]) (cs:= #[(.bool false),v7]) Hq Bl rf rf (AJ (GV ho1) (Bd)) rf) rf ?_
 refine Aa.A7 (i:=0) rf fun hb2=>?_
 refine Aa.freeze (i:=0) rf fun H6 hl6 hs2=>?_
 have hv7:=AW.of (c:=(cP AZ (cP AZ Ao))) hs2 rfl (hq2.mono hl6) hb2
 refine Aa.A1 (c:=(cP cB (cL (cP AZ (cP AZ Ao))))) (y:=(false,([(2,1,0)]:List (Int×Int×Int)))) (cs:=[(.bool false),v7]) CG Bl rf rf rf rf (⟨[(.bool false)],[v7],rf,rf,⟨_,rf,hv7⟩⟩) rf fun v8 xs3 hq3=>?_
 refine Aa.A7 (i:=0) rf fun hb3=>?_
 refine Aa.freeze (i:=0) rf fun H7 hl7 hs3=>?_
 have hv8:=AW.of (c:=(cP cB (cL (cP AZ (cP AZ Ao))))) hs3 rfl (hq3.mono hl7) hb3
 refine Aa.E8 (BC.call Wr rf (G' hv8 (hG.mono ((((((hl1.trans hl2).trans hl3).trans hl4).trans hl5).trans hl6).trans hl7)) hx6)) rf ?_
 rintro _ H8 _ hl8 ⟨⟨v9,rfl,hv9⟩,rfl⟩
 refine Aa.op (Ab.move rf) rf<|Aa.op (Ab.extract rf rf) rf<|Aa.op (Ab.extract rf rf) rf<|Aa.alloc (cs:= #[(.slice none 0 0)]) A5 rf rf fun B5=>Aa.AP (i:=0) (cs':= #[v9]) rf rf A5 rf rf (Bc (Ac hv9.one (As))) rf ?_
 refine Aa.own (O:=_::_::_::_::_::_) ?_ rf
 refine Aa.op (Ab.assign rf) rf<|Aa.Af<|Wp.sr<|Aa.op (Ab.Bi (vs:=[(0,(.int .u8 97)),(1,(.int .u8 98)),(2,(.int .i64 1))]) (cs:= #[(.int .u8 97),(.int .u8 98),(.int .i64 1)]) Ho BA rf rf (AJ rf (AJ rf (AJ rf (Bd)))) rf) rf<|Aa.A1 (c:=(cP AZ (cP AZ Ao))) (y:=(97,98,1)) (cs:=[(.int .u8 97),(.int .u8 98),(.int .i64 1)]) CC BA rf rf rf rf (⟨[(.int .u8 97)],[(.int .u8 98),(.int .i64 1)],rf,⟨rf,(show(0:Int)≤97 by omega),(show 97≤(255:Int) by omega)⟩,⟨[(.int .u8 98)],[(.int .i64 1)],rf,⟨rf,(show(0:Int)≤98 by omega),(show 98≤(255:Int) by omega)⟩,rf⟩⟩) rf fun v10 xs4 hq4=>Aa.Bm (i:=0) rf fun ho2=>Aa.op (Ab.Bi (vs:=[(1,v10)]) (cs:= #[(.bool false),v10]) Hq Bl rf rf (AJ (GV ho2) (Bd)) rf) rf<|Aa.op (Ab.Bi (vs:=[(0,(.bool true))]) (cs:= #[(.bool true),(.slice none 0 0)]) Hq Bl rf rf (AJ rf (Bd)) rf) rf ?_
 refine Aa.A7 (i:=0) rf fun hb4=>?_
 refine Aa.freeze (i:=0) rf fun H9 hl9 hs4=>?_
 have hv10:=AW.of (c:=(cP AZ (cP AZ Ao))) hs4 rfl (hq4.mono hl9) hb4
 refine Aa.Vf (c:=(cP cB (cL (cP AZ (cP AZ Ao))))) (l:=[(false,([(97,98,1)]:List (Int×Int×Int))),(true,([]:List (Int×Int×Int)))]) (z:=(.agg #[.bool false, .slice none 0 0])) (zs:= #[.bool false, .slice none 0 0]) (vs:=[(0,(.agg #[(.bool false),v10])),(1,(.agg #[(.bool true),(.slice none 0 0)]))]) (cs:= #[(.bool false),v10,(.bool true),(.slice none 0 0)]) CG Bl rf rf rf rf (AJ rf (AJ rf (Bd))) (by kernel_rfl) rf ⟨[(.bool false),v10],_,rf,⟨[(.bool false)],[v10],rf,rf,⟨_,rf,hv10⟩⟩,⟨[(.bool true),(.slice none 0 0)],_,rf,⟨[(.bool true)],[(.slice none 0 0)],rf,rf,⟨_,rf,AW.nil⟩⟩,rf⟩⟩ rfl fun v11 xs5 hq5=>Aa.Bm (i:=0) rf fun ho3=>Aa.op (Ab.Bi (vs:=[(0,v11)]) (cs:= #[v11]) FQ A5 rf rf (AJ (GV ho3) (Bd)) rf) rf<|Aa.alloc (cs:= #[(.slice none 0 0)]) A5 rf rf fun B6=>Aa.Bm (i:=1) rf fun ho4=>Aa.AP (i:=0) (cs':= #[v11]) rf rf A5 rf rf (Bc (Ac ho4 (As))) rf ?_
 refine Aa.own (O:=_::_::_::_::_::_::_::_) ?_ rf
 refine Aa.Af<|Wp.sr<|Aa.op (Ab.Bi (vs:=[(0,(.int .u8 0)),(1,(.int .u8 255))]) (cs:= #[(.int .u8 0),(.int .u8 255),(.int .i64 0)]) Ho BA rf rf (AJ rf (AJ rf (Bd))) rf) rf<|Aa.A1 (c:=(cP AZ (cP AZ Ao))) (y:=(0,255,0)) (cs:=[(.int .u8 0),(.int .u8 255),(.int .i64 0)]) CC BA rf rf rf rf (⟨[(.int .u8 0)],[(.int .u8 255),(.int .i64 0)],rf,⟨rf,(show(0:Int)≤0 by omega),(show 0≤(255:Int) by omega)⟩,⟨[(.int .u8 255)],[(.int .i64 0)],rf,⟨rf,(show(0:Int)≤255 by omega),(show 255≤(255:Int) by omega)⟩,rf⟩⟩) rf fun v12 xs6 hq6=>Aa.Bm (i:=0) rf fun ho5=>Aa.op (Ab.Bi (vs:=[(0,(.bool true)),(1,v12)]) (cs:= #[(.bool true),v12]) Hq Bl rf rf (AJ rf (AJ (GV ho5) (Bd))) rf) rf ?_
 refine Aa.A7 (i:=0) rf fun hb5=>?_
 refine Aa.freeze (i:=0) rf fun H10 hl10 hs5=>?_
 have hv11:=AW.of (c:=(cP AZ (cP AZ Ao))) hs5 rfl (hq6.mono hl10) hb5
 refine Aa.A1 (c:=(cP cB (cL (cP AZ (cP AZ Ao))))) (y:=(true,([(0,255,0)]:List (Int×Int×Int)))) (cs:=[(.bool true),v12]) CG Bl rf rf rf rf (⟨[(.bool true)],[v12],rf,rf,⟨_,rf,hv11⟩⟩) rf fun v13 xs7 hq7=>Aa.Bm (i:=0) rf fun ho6=>Aa.op (Ab.Bi (vs:=[(0,v13)]) (cs:= #[v13]) FQ A5 rf rf (AJ (GV ho6) (Bd)) rf) rf<|Aa.alloc (cs:= #[(.slice none 0 0)]) A5 rf rf fun B7=>Aa.Bm (i:=1) rf fun ho7=>Aa.AP (i:=0) (cs':= #[v13]) rf rf A5 rf rf (Bc (Ac ho7 (As))) rf ?_
 refine Aa.own (O:=_::_::_::_::_::_::_::_::_::_) ?_ rf
 refine Aa.Af<|Wp.seq<|Wp.seq ?_
 rcases Bool.eq_false_or_eq_true (decide (x2.2≠0))with hg1|hg1
 ·
  obtain⟨hg1_,hd⟩:=bT hg1 hd
  refine Wp.region<|Aa.op (Ab.move rf) rf<|Aa.op (Ab.Bg (b:=decide (x2.2≠0)) (c:=true) (Ab.neq rf rf) hg1) rf<|Aa.op (Ab.move rf) rf<|Aa.Ai rf rf rf rf<|Aa.Ai rf rf rf rf<|Aa.op (Ab.AK rf rf) rf<|Aa.op (Ab.move rf) rf ?_
  refine Aa.Ai rf rf rf rf<|Aa.Ai rf rf rf rf<|Aa.Ai rf rf rf rf<|Aa.Ai rf rf rf rf<|Aa.op (Ab.AK rf rf) rf<|Aa.op (Ab.move rf) rf<|Aa.Ai rf rf rf rf<|Aa.Ai rf rf rf rf ?_
  refine Aa.Ai rf rf rf rf<|Aa.Ai rf rf rf rf<|Aa.op (Ab.AK rf rf) rf<|Aa.op (Ab.move rf) rf<|Aa.Ai rf rf rf rf<|Aa.Ai rf rf rf rf<|Aa.op (Ab.AK rf rf) rf<|Aa.op (Ab.move rf) rf ?_
  refine Aa.Ai rf rf rf rf<|Aa.Ai rf rf rf rf<|Aa.Ai rf rf rf rf<|Aa.Ai rf rf rf rf<|Aa.op (Ab.AK rf rf) rf<|Aa.op (Ab.move rf) rf<|Aa.Ai rf rf rf rf<|Aa.Ai rf rf rf rf ?_
  refine Aa.op (Ab.AK rf rf) rf<|Aa.Af<|Wp.D_ rf<|Wp.sr<|Aa.op (Ab.assign rf) rf<|Aa.Af<|Wp.ret<|At.Av ?_
  obtain rfl:=si hd
  exact At.q1 9 (((((((((hl1.trans hl2).trans hl3).trans hl4).trans hl5).trans hl6).trans hl7).trans hl8).trans hl9).trans hl10) rf (RV.tmp rf) rf
 obtain⟨hg1_,hd⟩:=bF hg1 hd
 rcases Bool.eq_false_or_eq_true (decide (x4.2≠0))with hg2|hg2
 ·
  obtain⟨hg2_,hd⟩:=bT hg2 hd
  refine Wp.region<|Aa.op (Ab.move rf) rf<|Aa.op (Ab.Bg (b:=decide (x2.2≠0)) (c:=false) (Ab.neq rf rf) hg1) rf<|Aa.op (Ab.move rf) rf<|Aa.Ay rf rf (Ab.move rf) rf<|Aa.Ay rf rf (Ab.Bg (b:=decide (x4.2≠0)) (c:=true) (Ab.neq rf rf) hg2) rf<|Aa.op (Ab.AA rf rf) rf<|Aa.op (Ab.move rf) rf ?_
  refine Aa.Ai rf rf rf rf<|Aa.Ai rf rf rf rf<|Aa.Ai rf rf rf rf<|Aa.Ai rf rf rf rf<|Aa.op (Ab.AK rf rf) rf<|Aa.op (Ab.move rf) rf<|Aa.Ai rf rf rf rf<|Aa.Ai rf rf rf rf ?_
  refine Aa.Ai rf rf rf rf<|Aa.Ai rf rf rf rf<|Aa.op (Ab.AK rf rf) rf<|Aa.op (Ab.move rf) rf<|Aa.Ai rf rf rf rf<|Aa.Ai rf rf rf rf<|Aa.op (Ab.AK rf rf) rf<|Aa.op (Ab.move rf) rf ?_
  refine Aa.Ai rf rf rf rf<|Aa.Ai rf rf rf rf<|Aa.Ai rf rf rf rf<|Aa.Ai rf rf rf rf<|Aa.op (Ab.AK rf rf) rf<|Aa.op (Ab.move rf) rf<|Aa.Ai rf rf rf rf<|Aa.Ai rf rf rf rf ?_
  refine Aa.op (Ab.AK rf rf) rf<|Aa.Af<|Wp.D_ rf<|Wp.sr<|Aa.op (Ab.assign rf) rf<|Aa.Af<|Wp.ret<|At.Av ?_
  obtain rfl:=si hd
  exact At.q1 9 (((((((((hl1.trans hl2).trans hl3).trans hl4).trans hl5).trans hl6).trans hl7).trans hl8).trans hl9).trans hl10) rf (RV.tmp rf) rf
 obtain⟨hg2_,hd⟩:=bF hg2 hd
 obtain⟨x7,hx7,hd⟩:=Ae hd
 rcases Bool.eq_false_or_eq_true (!x7)with hg3|hg3
 ·
  replace hd:=Fs hg3 hd
  refine Wp.region<|Aa.op (Ab.move rf) rf<|Aa.op (Ab.Bg (b:=decide (x2.2≠0)) (c:=false) (Ab.neq rf rf) hg1) rf<|Aa.op (Ab.move rf) rf<|Aa.Ay rf rf (Ab.move rf) rf<|Aa.Ay rf rf (Ab.Bg (b:=decide (x4.2≠0)) (c:=false) (Ab.neq rf rf) hg2) rf<|Aa.op (Ab.AA rf rf) rf<|Aa.op (Ab.move rf) rf ?_
  refine Aa.Ay rf rf (Ab.AF (i:=7) Eo rf A5 rf rf rf) rf<|Aa.Ay rf rf (Ab.AF (i:=2) Eo rf A5 rf rf rf) rf ?_
  refine Aa.A7 (i:=3) rf fun hb6=>?_
  refine Aa.freeze (i:=3) rf fun H11 hl11 hs6=>?_
  have hv12:=AW.of (c:=(cP cB (cL (cP AZ (cP AZ Ao))))) hs6 rfl ((hq5.mono hl10).mono hl11) hb6
  refine Aa.Ay rf rf (Ab.call Fq rf (BK (a1:=([(false,([(97,98,1)]:List (Int×Int×Int))),(true,([]:List (Int×Int×Int)))]:List (Bool×(List (Int×Int×Int))))) (hf3.mono (((((((((hl2.trans hl3).trans hl4).trans hl5).trans hl6).trans hl7).trans hl8).trans hl9).trans hl10).trans hl11)) hv12 hx7)) rf<|Aa.Ay rf rf (Ab.Bg (b:= !x7) (c:=true) (Ab.not rf) hg3) rf<|Aa.op (Ab.AA rf rf) rf<|Aa.op (Ab.move rf) rf<|Aa.Ai rf rf rf rf<|Aa.Ai rf rf rf rf<|Aa.Ai rf rf rf rf<|Aa.Ai rf rf rf rf ?_
  refine Aa.op (Ab.AK rf rf) rf<|Aa.op (Ab.move rf) rf<|Aa.Ai rf rf rf rf<|Aa.Ai rf rf rf rf<|Aa.op (Ab.AK rf rf) rf<|Aa.op (Ab.move rf) rf<|Aa.Ai rf rf rf rf<|Aa.Ai rf rf rf rf ?_
  refine Aa.Ai rf rf rf rf<|Aa.Ai rf rf rf rf<|Aa.op (Ab.AK rf rf) rf<|Aa.op (Ab.move rf) rf<|Aa.Ai rf rf rf rf<|Aa.Ai rf rf rf rf<|Aa.op (Ab.AK rf rf) rf<|Aa.Af ?_
  refine Wp.D_ rf<|Wp.sr<|Aa.op (Ab.assign rf) rf<|Aa.Af<|Wp.ret<|At.Av ?_
  obtain rfl:=si hd
  exact At.q1 8 ((((((((((hl1.trans hl2).trans hl3).trans hl4).trans hl5).trans hl6).trans hl7).trans hl8).trans hl9).trans hl10).trans hl11) rf (RV.tmp rf) rf
 replace hd:=Ft hg3 hd
 obtain⟨x8,hx8,hd⟩:=Ae hd
 rcases Bool.eq_false_or_eq_true (!x8)with hg4|hg4
 ·
  replace hd:=Fs hg4 hd
  refine Wp.region<|Aa.op (Ab.move rf) rf<|Aa.op (Ab.Bg (b:=decide (x2.2≠0)) (c:=false) (Ab.neq rf rf) hg1) rf<|Aa.op (Ab.move rf) rf<|Aa.Ay rf rf (Ab.move rf) rf<|Aa.Ay rf rf (Ab.Bg (b:=decide (x4.2≠0)) (c:=false) (Ab.neq rf rf) hg2) rf<|Aa.op (Ab.AA rf rf) rf<|Aa.op (Ab.move rf) rf ?_
  refine Aa.Ay rf rf (Ab.AF (i:=7) Eo rf A5 rf rf rf) rf<|Aa.Ay rf rf (Ab.AF (i:=2) Eo rf A5 rf rf rf) rf ?_
  refine Aa.A7 (i:=3) rf fun hb6=>?_
  refine Aa.freeze (i:=3) rf fun H11 hl11 hs6=>?_
  have hv12:=AW.of (c:=(cP cB (cL (cP AZ (cP AZ Ao))))) hs6 rfl ((hq5.mono hl10).mono hl11) hb6
  refine Aa.Ay rf rf (Ab.call Fq rf (BK (a1:=([(false,([(97,98,1)]:List (Int×Int×Int))),(true,([]:List (Int×Int×Int)))]:List (Bool×(List (Int×Int×Int))))) (hf3.mono (((((((((hl2.trans hl3).trans hl4).trans hl5).trans hl6).trans hl7).trans hl8).trans hl9).trans hl10).trans hl11)) hv12 hx7)) rf<|Aa.Ay rf rf (Ab.Bg (b:= !x7) (c:=false) (Ab.not rf) hg3) rf<|Aa.op (Ab.AA rf rf) rf<|Aa.op (Ab.move rf) rf<|Aa.Ay rf rf (Ab.AF (i:=5) Eo rf A5 rf rf rf) rf<|Aa.Ay rf rf (Ab.AF (i:=2) Eo rf A5 rf rf rf) rf<|Aa.Ay rf rf (Ab.call Fq rf (BK (a1:=([(false,([(97,98,1)]:List (Int×Int×Int))),(true,([]:List (Int×Int×Int)))]:List (Bool×(List (Int×Int×Int))))) (hv4.mono (((((((hl4.trans hl5).trans hl6).trans hl7).trans hl8).trans hl9).trans hl10).trans hl11)) hv12 hx8)) rf<|Aa.Ay rf rf (Ab.Bg (b:= !x8) (c:=true) (Ab.not rf) hg4) rf ?_
  refine Aa.op (Ab.AA rf rf) rf<|Aa.op (Ab.move rf) rf<|Aa.Ai rf rf rf rf<|Aa.Ai rf rf rf rf<|Aa.op (Ab.AK rf rf) rf<|Aa.op (Ab.move rf) rf<|Aa.Ai rf rf rf rf<|Aa.Ai rf rf rf rf ?_
  refine Aa.Ai rf rf rf rf<|Aa.Ai rf rf rf rf<|Aa.op (Ab.AK rf rf) rf<|Aa.op (Ab.move rf) rf<|Aa.Ai rf rf rf rf<|Aa.Ai rf rf rf rf<|Aa.op (Ab.AK rf rf) rf<|Aa.Af ?_
  refine Wp.D_ rf<|Wp.sr<|Aa.op (Ab.assign rf) rf<|Aa.Af<|Wp.ret<|At.Av ?_
  obtain rfl:=si hd
  exact At.q1 8 ((((((((((hl1.trans hl2).trans hl3).trans hl4).trans hl5).trans hl6).trans hl7).trans hl8).trans hl9).trans hl10).trans hl11) rf (RV.tmp rf) rf
 replace hd:=Ft hg4 hd
 rcases Bool.eq_false_or_eq_true (decide (x5.2≠0))with hg5|hg5
 ·
  obtain⟨hg5_,hd⟩:=bT hg5 hd
  refine Wp.region<|Aa.op (Ab.move rf) rf<|Aa.op (Ab.Bg (b:=decide (x2.2≠0)) (c:=false) (Ab.neq rf rf) hg1) rf<|Aa.op (Ab.move rf) rf<|Aa.Ay rf rf (Ab.move rf) rf<|Aa.Ay rf rf (Ab.Bg (b:=decide (x4.2≠0)) (c:=false) (Ab.neq rf rf) hg2) rf<|Aa.op (Ab.AA rf rf) rf<|Aa.op (Ab.move rf) rf ?_
  refine Aa.Ay rf rf (Ab.AF (i:=7) Eo rf A5 rf rf rf) rf<|Aa.Ay rf rf (Ab.AF (i:=2) Eo rf A5 rf rf rf) rf ?_
  refine Aa.A7 (i:=3) rf fun hb6=>?_
  refine Aa.freeze (i:=3) rf fun H11 hl11 hs6=>?_
  have hv12:=AW.of (c:=(cP cB (cL (cP AZ (cP AZ Ao))))) hs6 rfl ((hq5.mono hl10).mono hl11) hb6
  refine Aa.Ay rf rf (Ab.call Fq rf (BK (a1:=([(false,([(97,98,1)]:List (Int×Int×Int))),(true,([]:List (Int×Int×Int)))]:List (Bool×(List (Int×Int×Int))))) (hf3.mono (((((((((hl2.trans hl3).trans hl4).trans hl5).trans hl6).trans hl7).trans hl8).trans hl9).trans hl10).trans hl11)) hv12 hx7)) rf<|Aa.Ay rf rf (Ab.Bg (b:= !x7) (c:=false) (Ab.not rf) hg3) rf<|Aa.op (Ab.AA rf rf) rf<|Aa.op (Ab.move rf) rf<|Aa.Ay rf rf (Ab.AF (i:=5) Eo rf A5 rf rf rf) rf<|Aa.Ay rf rf (Ab.AF (i:=2) Eo rf A5 rf rf rf) rf<|Aa.Ay rf rf (Ab.call Fq rf (BK (a1:=([(false,([(97,98,1)]:List (Int×Int×Int))),(true,([]:List (Int×Int×Int)))]:List (Bool×(List (Int×Int×Int))))) (hv4.mono (((((((hl4.trans hl5).trans hl6).trans hl7).trans hl8).trans hl9).trans hl10).trans hl11)) hv12 hx8)) rf<|Aa.Ay rf rf (Ab.Bg (b:= !x8) (c:=false) (Ab.not rf) hg4) rf ?_
  refine Aa.op (Ab.AA rf rf) rf<|Aa.op (Ab.move rf) rf<|Aa.Ay rf rf (Ab.move rf) rf<|Aa.Ay rf rf (Ab.Bg (b:=decide (x5.2≠0)) (c:=true) (Ab.neq rf rf) hg5) rf<|Aa.op (Ab.AA rf rf) rf<|Aa.op (Ab.move rf) rf<|Aa.Ai rf rf rf rf<|Aa.Ai rf rf rf rf ?_
  refine Aa.Ai rf rf rf rf<|Aa.Ai rf rf rf rf<|Aa.op (Ab.AK rf rf) rf<|Aa.op (Ab.move rf) rf<|Aa.Ai rf rf rf rf<|Aa.Ai rf rf rf rf<|Aa.op (Ab.AK rf rf) rf<|Aa.Af ?_
  refine Wp.D_ rf<|Wp.sr<|Aa.op (Ab.assign rf) rf<|Aa.Af<|Wp.ret<|At.Av ?_
  obtain rfl:=si hd
  exact At.q1 8 ((((((((((hl1.trans hl2).trans hl3).trans hl4).trans hl5).trans hl6).trans hl7).trans hl8).trans hl9).trans hl10).trans hl11) rf (RV.tmp rf) rf
 obtain⟨hg5_,hd⟩:=bF hg5 hd
 rcases Bool.eq_false_or_eq_true (decide ((x5.1.length:Int)≠0))with hg6|hg6
 ·
  obtain⟨hg6_,hd⟩:=bT hg6 hd
  refine Wp.region<|Aa.op (Ab.move rf) rf<|Aa.op (Ab.Bg (b:=decide (x2.2≠0)) (c:=false) (Ab.neq rf rf) hg1) rf<|Aa.op (Ab.move rf) rf<|Aa.Ay rf rf (Ab.move rf) rf<|Aa.Ay rf rf (Ab.Bg (b:=decide (x4.2≠0)) (c:=false) (Ab.neq rf rf) hg2) rf<|Aa.op (Ab.AA rf rf) rf<|Aa.op (Ab.move rf) rf ?_
  refine Aa.Ay rf rf (Ab.AF (i:=7) Eo rf A5 rf rf rf) rf<|Aa.Ay rf rf (Ab.AF (i:=2) Eo rf A5 rf rf rf) rf ?_
  refine Aa.A7 (i:=3) rf fun hb6=>?_
  refine Aa.freeze (i:=3) rf fun H11 hl11 hs6=>?_
  have hv12:=AW.of (c:=(cP cB (cL (cP AZ (cP AZ Ao))))) hs6 rfl ((hq5.mono hl10).mono hl11) hb6
  refine Aa.Ay rf rf (Ab.call Fq rf (BK (a1:=([(false,([(97,98,1)]:List (Int×Int×Int))),(true,([]:List (Int×Int×Int)))]:List (Bool×(List (Int×Int×Int))))) (hf3.mono (((((((((hl2.trans hl3).trans hl4).trans hl5).trans hl6).trans hl7).trans hl8).trans hl9).trans hl10).trans hl11)) hv12 hx7)) rf<|Aa.Ay rf rf (Ab.Bg (b:= !x7) (c:=false) (Ab.not rf) hg3) rf<|Aa.op (Ab.AA rf rf) rf<|Aa.op (Ab.move rf) rf<|Aa.Ay rf rf (Ab.AF (i:=5) Eo rf A5 rf rf rf) rf<|Aa.Ay rf rf (Ab.AF (i:=2) Eo rf A5 rf rf rf) rf<|Aa.Ay rf rf (Ab.call Fq rf (BK (a1:=([(false,([(97,98,1)]:List (Int×Int×Int))),(true,([]:List (Int×Int×Int)))]:List (Bool×(List (Int×Int×Int))))) (hv4.mono (((((((hl4.trans hl5).trans hl6).trans hl7).trans hl8).trans hl9).trans hl10).trans hl11)) hv12 hx8)) rf<|Aa.Ay rf rf (Ab.Bg (b:= !x8) (c:=false) (Ab.not rf) hg4) rf ?_
  refine Aa.op (Ab.AA rf rf) rf<|Aa.op (Ab.move rf) rf<|Aa.Ay rf rf (Ab.move rf) rf<|Aa.Ay rf rf (Ab.Bg (b:=decide (x5.2≠0)) (c:=false) (Ab.neq rf rf) hg5) rf<|Aa.op (Ab.AA rf rf) rf<|Aa.op (Ab.move rf) rf<|Aa.Ay rf rf (Ab.AV (o':=0) Ck rf rf) rf<|Aa.Ay rf rf (Ab.Am (i:=4) (v:=v6) CG rf rf rf rf) rf ?_
  have hb7:=hv6.le
  refine Aa.Ay rf rf (Ab.len CG rf (hv6.mono (((((hl6.trans hl7).trans hl8).trans hl9).trans hl10).trans hl11)).sl) rf<|Aa.Ay rf rf (Ab.Bg (b:=decide ((x5.1.length:Int)≠0)) (c:=true) (Ab.neq rf rf) hg6) rf<|Aa.op (Ab.AA rf rf) rf<|Aa.op (Ab.move rf) rf<|Aa.Ai rf rf rf rf<|Aa.Ai rf rf rf rf<|Aa.op (Ab.AK rf rf) rf<|Aa.Af ?_
  refine Wp.D_ rf<|Wp.sr<|Aa.op (Ab.assign rf) rf<|Aa.Af<|Wp.ret<|At.Av ?_
  obtain rfl:=si hd
  exact At.q1 8 ((((((((((hl1.trans hl2).trans hl3).trans hl4).trans hl5).trans hl6).trans hl7).trans hl8).trans hl9).trans hl10).trans hl11) rf (RV.tmp rf) rf
 obtain⟨hg6_,hd⟩:=bF hg6 hd
 refine Wp.region<|Aa.op (Ab.move rf) rf<|Aa.op (Ab.Bg (b:=decide (x2.2≠0)) (c:=false) (Ab.neq rf rf) hg1) rf<|Aa.op (Ab.move rf) rf<|Aa.Ay rf rf (Ab.move rf) rf<|Aa.Ay rf rf (Ab.Bg (b:=decide (x4.2≠0)) (c:=false) (Ab.neq rf rf) hg2) rf<|Aa.op (Ab.AA rf rf) rf<|Aa.op (Ab.move rf) rf ?_
 refine Aa.Ay rf rf (Ab.AF (i:=7) Eo rf A5 rf rf rf) rf<|Aa.Ay rf rf (Ab.AF (i:=2) Eo rf A5 rf rf rf) rf ?_
 refine Aa.A7 (i:=3) rf fun hb6=>?_
 refine Aa.freeze (i:=3) rf fun H11 hl11 hs6=>?_
 have hv12:=AW.of (c:=(cP cB (cL (cP AZ (cP AZ Ao))))) hs6 rfl ((hq5.mono hl10).mono hl11) hb6
 refine Aa.Ay rf rf (Ab.call Fq rf (BK (a1:=([(false,([(97,98,1)]:List (Int×Int×Int))),(true,([]:List (Int×Int×Int)))]:List (Bool×(List (Int×Int×Int))))) (hf3.mono (((((((((hl2.trans hl3).trans hl4).trans hl5).trans hl6).trans hl7).trans hl8).trans hl9).trans hl10).trans hl11)) hv12 hx7)) rf<|Aa.Ay rf rf (Ab.Bg (b:= !x7) (c:=false) (Ab.not rf) hg3) rf<|Aa.op (Ab.AA rf rf) rf<|Aa.op (Ab.move rf) rf<|Aa.Ay rf rf (Ab.AF (i:=5) Eo rf A5 rf rf rf) rf<|Aa.Ay rf rf (Ab.AF (i:=2) Eo rf A5 rf rf rf) rf<|Aa.Ay rf rf (Ab.call Fq rf (BK (a1:=([(false,([(97,98,1)]:List (Int×Int×Int))),(true,([]:List (Int×Int×Int)))]:List (Bool×(List (Int×Int×Int))))) (hv4.mono (((((((hl4.trans hl5).trans hl6).trans hl7).trans hl8).trans hl9).trans hl10).trans hl11)) hv12 hx8)) rf<|Aa.Ay rf rf (Ab.Bg (b:= !x8) (c:=false) (Ab.not rf) hg4) rf ?_
 refine Aa.op (Ab.AA rf rf) rf<|Aa.op (Ab.move rf) rf<|Aa.Ay rf rf (Ab.move rf) rf<|Aa.Ay rf rf (Ab.Bg (b:=decide (x5.2≠0)) (c:=false) (Ab.neq rf rf) hg5) rf<|Aa.op (Ab.AA rf rf) rf<|Aa.op (Ab.move rf) rf<|Aa.Ay rf rf (Ab.AV (o':=0) Ck rf rf) rf<|Aa.Ay rf rf (Ab.Am (i:=4) (v:=v6) CG rf rf rf rf) rf ?_
 have hb7:=hv6.le
 refine Aa.Ay rf rf (Ab.len CG rf (hv6.mono (((((hl6.trans hl7).trans hl8).trans hl9).trans hl10).trans hl11)).sl) rf<|Aa.Ay rf rf (Ab.Bg (b:=decide ((x5.1.length:Int)≠0)) (c:=false) (Ab.neq rf rf) hg6) rf<|Aa.op (Ab.AA rf rf) rf<|Aa.op (Ab.move rf) rf<|Aa.Ay rf rf (Ab.move rf) rf<|Aa.Ay rf rf (Ab.neq rf rf) rf<|Aa.op (Ab.AA rf rf) rf<|Aa.Af ?_
 refine Wp.cond rf (fun hb8=>?_) (fun hb8=>?_)
 ·
  obtain⟨hb8,hd⟩:=bT hb8 hd
  refine Wp.sr<|Aa.op (Ab.assign rf) rf<|Aa.Af<|Wp.ret<|At.Av ?_
  obtain rfl:=si hd
  exact At.q1 8 ((((((((((hl1.trans hl2).trans hl3).trans hl4).trans hl5).trans hl6).trans hl7).trans hl8).trans hl9).trans hl10).trans hl11) rf (RV.tmp rf) rf
 obtain⟨hb8,hd⟩:=bF hb8 hd
 refine Wp.skip<|At.Ad<|Wp.seq ?_
 refine Wp.A7 (i:=1) rf fun hb9=>?_
 refine Wp.freeze (i:=1) rf fun H12 hl12 hs7=>?_
 have hv13:=AW.of (c:=(cP cB (cL (cP AZ (cP AZ Ao))))) hs7 rfl ((hq7.mono hl11).mono hl12) hb9
 obtain⟨x9,hx9,hd⟩:=Ae hd
 obtain⟨x10,hx10,hd⟩:=Ae hd
 rcases Bool.eq_false_or_eq_true (x10)with hg7|hg7
 ·
  replace hd:=Fs hg7 hd
  obtain⟨x11,hx11,hd⟩:=Ae hd
  rcases Bool.eq_false_or_eq_true (decide ((x11.length:Int)=3))with hg8|hg8
  ·
   obtain⟨hg8_,hd⟩:=bT hg8 hd
   obtain⟨x12,hx12,hd⟩:=Ae hd
   rcases Bool.eq_false_or_eq_true (x12)with hg9|hg9
   ·
    replace hd:=Fs hg9 hd
    obtain⟨x13,hx13,hd⟩:=Ae hd
    rcases Bool.eq_false_or_eq_true (!x13)with hg10|hg10
    ·
     replace hd:=Fs hg10 hd
     obtain⟨x14,hx14,hd⟩:=Ae hd
     rcases Bool.eq_false_or_eq_true (!x14)with hg11|hg11
     ·
      replace hd:=Fs hg11 hd
      obtain⟨x15,hx15,hd⟩:=Ae hd
      rcases Bool.eq_false_or_eq_true (x15)with hg12|hg12
      ·
       replace hd:=Fs hg12 hd
       obtain⟨x16,hx16,hd⟩:=Ae hd
       rcases Bool.eq_false_or_eq_true (x16)with hg13|hg13
       ·
        replace hd:=Fs hg13 hd
        obtain⟨x17,hx17,hd⟩:=Ae hd
        refine Aj.runK 7 [⟨[],[],[0]⟩,⟨[0],[],[]⟩,⟨[],[],[0]⟩,AU,⟨[],[],[4]⟩,⟨[],[],[4]⟩,⟨[],[],[4]⟩,AU,AU,AU,⟨[5],[],[]⟩,AU,AU,AU,⟨[5],[],[]⟩,AU,AU,AU,AU,⟨[5],[],[]⟩,AU,AU,AU,AU,⟨[1],[],[]⟩,AU,AU,AU,AU,AU,AU,AU,AU,⟨[],[],[33]⟩,⟨[],[],[33]⟩,⟨[],[],[33]⟩,AU,AU,AU] follows rfl (by kernel_rfl)<|Aj.T_ (val:=fun p2=>(.agg #[(Cv (p2 0) 0)])) (fact:=fun p2 HH=>AW (cP cB (cL (cP AZ (cP AZ Ao)))) HH x9 (Cv (p2 0) 0)) rfl (fun _=>rfl) (fun _=>rfl) (fun _ _ _ hl h=>h.mono hl) (fun _ p2 _ hx hf hy=>(BC.call LH rfl (GN hx9)).mono (by rintro v HH OO ⟨⟨v14,rfl,hv14⟩,rfl⟩;exact⟨rfl,hv14,rfl⟩)) rfl<|Aj.op (val:=fun p2=>(.agg #[v13])) rfl rfl (fun _=>rfl) (fun _ p2 _ hx hf hy=>Ab.AF (i:=0) Eo rfl A5 rfl rfl (hy 0 _ rfl rfl)) rfl<|Aj.op (val:=fun p2=>(.bool true)) rfl rfl (fun _=>rfl) (fun _ p2 _ hx hf hy=>Ab.Bg (b:=x10) (c:=true) (Ab.call Fq rfl (BK (a1:=([(true,([(0,255,0)]:List (Int×Int×Int)))]:List (Bool×(List (Int×Int×Int))))) (hf 0 rfl rfl) (hv13.mono hx) hx10)) hg7) rfl<|Aj.op (val:=fun p2=>(.bool true)) rfl rfl (fun _=>rfl) (fun _ p2 _ hx hf hy=>Ab.move rfl) rfl<|Aj.P_ (val:=fun p2=>(.agg #[(Cv (p2 4) 0)])) (fact:=fun p2 HH=>AW (cP cB (cL (cP AZ (cP AZ Ao)))) HH x11 (Cv (p2 4) 0)) rfl (fun _=>rfl) rfl (fun _=>rfl) (fun _=>rfl) (fun _ _ _ hl h=>h.mono hl) (fun _ p2 _ hx hf hy=>(BC.call M1 rfl (Gf hx11)).mono (by rintro v HH OO ⟨⟨v15,rfl,hv15⟩,rfl⟩;exact⟨rfl,hv15,rfl⟩)) rfl<|Aj.Ay (val:=fun p2=>(Cv (p2 4) 0)) rfl (fun _=>rfl) rfl rfl (fun _=>rfl) (fun _ p2 _ hx hf hy=>Ab.J' Ck CG rfl rfl rfl) rfl<|Aj.Ay (val:=fun p2=>(.int .i64 (x11.length:Int))) rfl (fun _=>rfl) rfl rfl (fun _=>rfl) (fun _ p2 _ hx hf hy=>Ab.len CG rfl (hf 4 rfl rfl).sl) rfl ?_
        refine Aj.Ay (val:=fun p2=>(.bool true)) rf (fun _=>rfl) rf rf (fun _=>rfl) (fun _ p2 _ hx hf hy=>Ab.Bg (b:=decide ((x11.length:Int)=3)) (c:=true) (Ab.eql rf rf) hg8) rf<|Aj.op (val:=fun p2=>(.bool true)) rf rf (fun _=>rfl) (fun _ p2 _ hx hf hy=>Ab.AK rf rf) rf<|Aj.op (val:=fun p2=>(.bool true)) rf rf (fun _=>rfl) (fun _ p2 _ hx hf hy=>Ab.move rf) rf<|Aj.Ay (val:=fun p2=>(.agg #[(Cv (Cv (p1 4) 0) 0)])) rf (fun _=>rfl) rf rf (fun _=>rfl) (fun _ p2 _ hx hf hy=>Ab.AF (i:=5) Eo rf A5 rf rf (hy 5 _ rf rf)) rf<|Aj.Ay (val:=fun p2=>(.bool true)) rf (fun _=>rfl) rf rf (fun _=>rfl) (fun _ p2 _ hx hf hy=>Ab.Bg (b:=x12) (c:=true) (Ab.call Hw rf (BQ (hf3.mono (((((((((((hl2.trans hl3).trans hl4).trans hl5).trans hl6).trans hl7).trans hl8).trans hl9).trans hl10).trans hl11).trans hl12).trans hx)) hx12)) hg9) rf<|Aj.op (val:=fun p2=>(.bool true)) rf rf (fun _=>rfl) (fun _ p2 _ hx hf hy=>Ab.AK rf rf) rf<|Aj.op (val:=fun p2=>(.bool true)) rf rf (fun _=>rfl) (fun _ p2 _ hx hf hy=>Ab.move rf) rf<|Aj.Ay (val:=fun p2=>(.agg #[(Cv (Cv (p1 4) 0) 0)])) rf (fun _=>rfl) rf rf (fun _=>rfl) (fun _ p2 _ hx hf hy=>Ab.AF (i:=5) Eo rf A5 rf rf (hy 5 _ rf rf)) rf ?_
        refine Aj.Ay (val:=fun p2=>(.bool x13)) rf (fun _=>rfl) rf rf (fun _=>rfl) (fun _ p2 _ hx hf hy=>Ab.call Hw rf (BQ (hf3.mono (((((((((((hl2.trans hl3).trans hl4).trans hl5).trans hl6).trans hl7).trans hl8).trans hl9).trans hl10).trans hl11).trans hl12).trans hx)) hx13)) rf<|Aj.Ay (val:=fun p2=>(.bool true)) rf (fun _=>rfl) rf rf (fun _=>rfl) (fun _ p2 _ hx hf hy=>Ab.Bg (b:= !x13) (c:=true) (Ab.not rf) hg10) rf<|Aj.op (val:=fun p2=>(.bool true)) rf rf (fun _=>rfl) (fun _ p2 _ hx hf hy=>Ab.AK rf rf) rf<|Aj.op (val:=fun p2=>(.bool true)) rf rf (fun _=>rfl) (fun _ p2 _ hx hf hy=>Ab.move rf) rf<|Aj.Ay (val:=fun p2=>(.agg #[(Cv (Cv (p1 4) 0) 0)])) rf (fun _=>rfl) rf rf (fun _=>rfl) (fun _ p2 _ hx hf hy=>Ab.AF (i:=5) Eo rf A5 rf rf (hy 5 _ rf rf)) rf<|Aj.Ay (val:=fun p2=>(.bool x14)) rf (fun _=>rfl) rf rf (fun _=>rfl) (fun _ p2 _ hx hf hy=>Ab.call Hw rf (BQ (hf3.mono (((((((((((hl2.trans hl3).trans hl4).trans hl5).trans hl6).trans hl7).trans hl8).trans hl9).trans hl10).trans hl11).trans hl12).trans hx)) hx14)) rf<|Aj.Ay (val:=fun p2=>(.bool true)) rf (fun _=>rfl) rf rf (fun _=>rfl) (fun _ p2 _ hx hf hy=>Ab.Bg (b:= !x14) (c:=true) (Ab.not rf) hg11) rf<|Aj.op (val:=fun p2=>(.bool true)) rf rf (fun _=>rfl) (fun _ p2 _ hx hf hy=>Ab.AK rf rf) rf ?_
        refine Aj.op (val:=fun p2=>(.bool true)) rf rf (fun _=>rfl) (fun _ p2 _ hx hf hy=>Ab.move rf) rf<|Aj.Ay (val:=fun p2=>(.agg #[v11])) rf (fun _=>rfl) rf rf (fun _=>rfl) (fun _ p2 _ hx hf hy=>Ab.AF (i:=1) Eo rf A5 rf rf (hy 1 _ rf rf)) rf<|Aj.Ay (val:=fun p2=>(.bool true)) rf (fun _=>rfl) rf rf (fun _=>rfl) (fun _ p2 _ hx hf hy=>Ab.Bg (b:=x15) (c:=true) (Ab.call Oa rf (Gg (a0:=([(false,([(97,98,1)]:List (Int×Int×Int))),(true,([]:List (Int×Int×Int)))]:List (Bool×(List (Int×Int×Int))))) (hv12.mono (hl12.trans hx)) (hG.mono ((((((((((((hl1.trans hl2).trans hl3).trans hl4).trans hl5).trans hl6).trans hl7).trans hl8).trans hl9).trans hl10).trans hl11).trans hl12).trans hx)) hx15)) hg12) rf<|Aj.op (val:=fun p2=>(.bool true)) rf rf (fun _=>rfl) (fun _ p2 _ hx hf hy=>Ab.AK rf rf) rf<|Aj.op (val:=fun p2=>(.bool true)) rf rf (fun _=>rfl) (fun _ p2 _ hx hf hy=>Ab.move rf) rf<|Aj.Ay (val:=fun p2=>(.agg #[(.slice none 0 0)])) rf (fun _=>rfl) rf rf (fun _=>rfl) (fun _ p2 _ hx hf hy=>Ab.Bi (vs:=[]) (cs:= #[(.slice none 0 0)]) FQ A5 rf rf (Bd) rf) rf<|Aj.Ay (val:=fun p2=>(.bool true)) rf (fun _=>rfl) rf rf (fun _=>rfl) (fun _ p2 _ hx hf hy=>Ab.Bg (b:=x16) (c:=true) (Ab.call Oa rf (Gg (a0:=([]:List (Bool×(List (Int×Int×Int))))) AW.nil (hG.mono ((((((((((((hl1.trans hl2).trans hl3).trans hl4).trans hl5).trans hl6).trans hl7).trans hl8).trans hl9).trans hl10).trans hl11).trans hl12).trans hx)) hx16)) hg13) rf<|Aj.op (val:=fun p2=>(.bool true)) rf rf (fun _=>rfl) (fun _ p2 _ hx hf hy=>Ab.AK rf rf) rf ?_
        refine Aj.op (val:=fun p2=>(.bool true)) rfl rfl (fun _=>rfl) (fun _ p2 _ hx hf hy=>Ab.move rfl) rfl<|Aj.Ay (val:=fun p2=>(.agg #[(.bool false),(.slice none 0 0)])) rfl (fun _=>rfl) rfl rfl (fun _=>rfl) (fun _ p2 _ hx hf hy=>Ab.Bi (vs:=[]) (cs:= #[(.bool false),(.slice none 0 0)]) Hq Bl rfl rfl (Bd) rfl) rfl<|Aj.P_ (val:=fun p2=>(p2 33)) (fact:=fun p2 HH=>AW (cP cB (cL (cP AZ (cP AZ Ao)))) HH ([(false,([]:List (Int×Int×Int)))]:List (Bool×(List (Int×Int×Int)))) (p2 33)) rfl (fun _=>rfl) rfl (fun _=>rfl) (fun _=>rfl) (fun _ _ _ hl h=>h.mono hl) (fun _ p2 _ hx hf hy=>(BC.WE (c:=(cP cB (cL (cP AZ (cP AZ Ao))))) (y:=(false,([]:List (Int×Int×Int)))) (v:=(.agg #[(.bool false),(.slice none 0 0)])) (cs:=[(.bool false),(.slice none 0 0)]) CG Bl rfl rfl rfl rfl rfl (Au.Kj (c:=(cP cB (cL (cP AZ (cP AZ Ao))))) (a:=(false,([]:List (Int×Int×Int)))) (cs:=[(.bool false),(.slice none 0 0)]) (⟨[(.bool false)],[(.slice none 0 0)],rfl,rfl,⟨_,rfl,AW.nil⟩⟩))).mono (by rintro v HH OO ⟨rfl,h⟩;exact⟨rfl,h,rfl⟩)) rfl<|Aj.Ay (val:=fun p2=>(.agg #[(p2 33)])) rfl (fun _=>rfl) rfl rfl (fun _=>rfl) (fun _ p2 _ hx hf hy=>Ab.Bi (vs:=[(0,(p2 33))]) (cs:= #[(p2 33)]) FQ A5 rfl rfl (AJ (GV ((hf 33 rfl rfl).one)) (Bd)) rfl) rfl<|Aj.Ay (val:=fun p2=>(.bool x17)) rfl (fun _=>rfl) rfl rfl (fun _=>rfl) (fun _ p2 _ hx hf hy=>Ab.call Oa rfl (Gg (a0:=([(false,([]:List (Int×Int×Int)))]:List (Bool×(List (Int×Int×Int))))) (hf 33 rfl rfl) (hG.mono ((((((((((((hl1.trans hl2).trans hl3).trans hl4).trans hl5).trans hl6).trans hl7).trans hl8).trans hl9).trans hl10).trans hl11).trans hl12).trans hx)) hx17)) rfl<|Aj.Ay (val:=fun p2=>(.bool (!x17))) rfl (fun _=>rfl) rfl rfl (fun _=>rfl) (fun _ p2 _ hx hf hy=>Ab.not rfl) rfl<|Aj.op (val:=fun p2=>(.bool (!x17))) rfl rfl (fun _=>rfl) (fun _ p2 _ hx hf hy=>Ab.AK rfl rfl) rfl<|Aj.op (val:=fun p2=>(.bool (!x17))) rfl rfl (fun _=>rfl) (fun _ p2 _ hx hf hy=>Ab.assign rfl) rfl ?_
        refine Aj.done fun H13 p2 hl13 hF2=>?_
        have hf4:AW (cP cB (cL (cP AZ (cP AZ Ao)))) H13 x9 (Cv (p2 0) 0):=hF2 0
        have hf5:AW (cP cB (cL (cP AZ (cP AZ Ao)))) H13 x11 (Cv (p2 4) 0):=hF2 4
        have hf6:AW (cP cB (cL (cP AZ (cP AZ Ao)))) H13 ([(false,([]:List (Int×Int×Int)))]:List (Bool×(List (Int×Int×Int)))) (p2 33):=hF2 33
        refine At.sub (L':=[(0,(.bool (!x17)))]) (Sub.of rf) ?_
        refine At.own (O:= .AM B7 (.cells #[v13] 26 (0,0)):: .AM B6 (.cells #[v11] 26 (0,0)):: .AM B5 (.cells #[v9] 26 (0,0)):: .AM B4 (.cells #[v6] 26 (0,0)):: .AM B3 (.cells #[v4] 26 (0,0)):: .AM (BI (p1 8)) (.cells #[(Cv (Cv (p1 4) 0) 0)] 26 (0,0)):: .AM B2 (.cells #[(.int .i64 2),(Ak (word (fun _=>false) 0)),(Ak (17179869184#64)),(Ak (word (fun _=>false) 2)),(Ak (word (fun _=>false) 3)),(.slice none 0 0)] 37 (0,0))::O) ?_ (by first|rfl|(simp only[List.length_append,List.length_set];rfl)|simp)
        refine At.Ad<|Wp.ret ?_
        obtain rfl:=si hd
        exact At.q1 7 ((((((((((((hl1.trans hl2).trans hl3).trans hl4).trans hl5).trans hl6).trans hl7).trans hl8).trans hl9).trans hl10).trans hl11).trans hl12).trans hl13) rf (RV.tmp rf) rf
       replace hd:=Ft hg13 hd
       refine Aj.runK 7 [⟨[],[],[0]⟩,⟨[0],[],[]⟩,⟨[],[],[0]⟩,AU,⟨[],[],[4]⟩,⟨[],[],[4]⟩,⟨[],[],[4]⟩,AU,AU,AU,⟨[5],[],[]⟩,AU,AU,AU,⟨[5],[],[]⟩,AU,AU,AU,AU,⟨[5],[],[]⟩,AU,AU,AU,AU,⟨[1],[],[]⟩,AU,AU,AU,AU,AU,AU,AU,AU,AU,AU,AU,AU,AU,AU] follows rfl (by kernel_rfl)<|Aj.T_ (val:=fun p2=>(.agg #[(Cv (p2 0) 0)])) (fact:=fun p2 HH=>AW (cP cB (cL (cP AZ (cP AZ Ao)))) HH x9 (Cv (p2 0) 0)) rfl (fun _=>rfl) (fun _=>rfl) (fun _ _ _ hl h=>h.mono hl) (fun _ p2 _ hx hf hy=>(BC.call LH rfl (GN hx9)).mono (by rintro v HH OO ⟨⟨v14,rfl,hv14⟩,rfl⟩;exact⟨rfl,hv14,rfl⟩)) rfl<|Aj.op (val:=fun p2=>(.agg #[v13])) rfl rfl (fun _=>rfl) (fun _ p2 _ hx hf hy=>Ab.AF (i:=0) Eo rfl A5 rfl rfl (hy 0 _ rfl rfl)) rfl<|Aj.op (val:=fun p2=>(.bool true)) rfl rfl (fun _=>rfl) (fun _ p2 _ hx hf hy=>Ab.Bg (b:=x10) (c:=true) (Ab.call Fq rfl (BK (a1:=([(true,([(0,255,0)]:List (Int×Int×Int)))]:List (Bool×(List (Int×Int×Int))))) (hf 0 rfl rfl) (hv13.mono hx) hx10)) hg7) rfl<|Aj.op (val:=fun p2=>(.bool true)) rfl rfl (fun _=>rfl) (fun _ p2 _ hx hf hy=>Ab.move rfl) rfl<|Aj.P_ (val:=fun p2=>(.agg #[(Cv (p2 4) 0)])) (fact:=fun p2 HH=>AW (cP cB (cL (cP AZ (cP AZ Ao)))) HH x11 (Cv (p2 4) 0)) rfl (fun _=>rfl) rfl (fun _=>rfl) (fun _=>rfl) (fun _ _ _ hl h=>h.mono hl) (fun _ p2 _ hx hf hy=>(BC.call M1 rfl (Gf hx11)).mono (by rintro v HH OO ⟨⟨v15,rfl,hv15⟩,rfl⟩;exact⟨rfl,hv15,rfl⟩)) rfl<|Aj.Ay (val:=fun p2=>(Cv (p2 4) 0)) rfl (fun _=>rfl) rfl rfl (fun _=>rfl) (fun _ p2 _ hx hf hy=>Ab.J' Ck CG rfl rfl rfl) rfl<|Aj.Ay (val:=fun p2=>(.int .i64 (x11.length:Int))) rfl (fun _=>rfl) rfl rfl (fun _=>rfl) (fun _ p2 _ hx hf hy=>Ab.len CG rfl (hf 4 rfl rfl).sl) rfl ?_
       refine Aj.Ay (val:=fun p2=>(.bool true)) rf (fun _=>rfl) rf rf (fun _=>rfl) (fun _ p2 _ hx hf hy=>Ab.Bg (b:=decide ((x11.length:Int)=3)) (c:=true) (Ab.eql rf rf) hg8) rf<|Aj.op (val:=fun p2=>(.bool true)) rf rf (fun _=>rfl) (fun _ p2 _ hx hf hy=>Ab.AK rf rf) rf<|Aj.op (val:=fun p2=>(.bool true)) rf rf (fun _=>rfl) (fun _ p2 _ hx hf hy=>Ab.move rf) rf<|Aj.Ay (val:=fun p2=>(.agg #[(Cv (Cv (p1 4) 0) 0)])) rf (fun _=>rfl) rf rf (fun _=>rfl) (fun _ p2 _ hx hf hy=>Ab.AF (i:=5) Eo rf A5 rf rf (hy 5 _ rf rf)) rf<|Aj.Ay (val:=fun p2=>(.bool true)) rf (fun _=>rfl) rf rf (fun _=>rfl) (fun _ p2 _ hx hf hy=>Ab.Bg (b:=x12) (c:=true) (Ab.call Hw rf (BQ (hf3.mono (((((((((((hl2.trans hl3).trans hl4).trans hl5).trans hl6).trans hl7).trans hl8).trans hl9).trans hl10).trans hl11).trans hl12).trans hx)) hx12)) hg9) rf<|Aj.op (val:=fun p2=>(.bool true)) rf rf (fun _=>rfl) (fun _ p2 _ hx hf hy=>Ab.AK rf rf) rf<|Aj.op (val:=fun p2=>(.bool true)) rf rf (fun _=>rfl) (fun _ p2 _ hx hf hy=>Ab.move rf) rf<|Aj.Ay (val:=fun p2=>(.agg #[(Cv (Cv (p1 4) 0) 0)])) rf (fun _=>rfl) rf rf (fun _=>rfl) (fun _ p2 _ hx hf hy=>Ab.AF (i:=5) Eo rf A5 rf rf (hy 5 _ rf rf)) rf ?_
       refine Aj.Ay (val:=fun p2=>(.bool x13)) rf (fun _=>rfl) rf rf (fun _=>rfl) (fun _ p2 _ hx hf hy=>Ab.call Hw rf (BQ (hf3.mono (((((((((((hl2.trans hl3).trans hl4).trans hl5).trans hl6).trans hl7).trans hl8).trans hl9).trans hl10).trans hl11).trans hl12).trans hx)) hx13)) rf<|Aj.Ay (val:=fun p2=>(.bool true)) rf (fun _=>rfl) rf rf (fun _=>rfl) (fun _ p2 _ hx hf hy=>Ab.Bg (b:= !x13) (c:=true) (Ab.not rf) hg10) rf<|Aj.op (val:=fun p2=>(.bool true)) rf rf (fun _=>rfl) (fun _ p2 _ hx hf hy=>Ab.AK rf rf) rf<|Aj.op (val:=fun p2=>(.bool true)) rf rf (fun _=>rfl) (fun _ p2 _ hx hf hy=>Ab.move rf) rf<|Aj.Ay (val:=fun p2=>(.agg #[(Cv (Cv (p1 4) 0) 0)])) rf (fun _=>rfl) rf rf (fun _=>rfl) (fun _ p2 _ hx hf hy=>Ab.AF (i:=5) Eo rf A5 rf rf (hy 5 _ rf rf)) rf<|Aj.Ay (val:=fun p2=>(.bool x14)) rf (fun _=>rfl) rf rf (fun _=>rfl) (fun _ p2 _ hx hf hy=>Ab.call Hw rf (BQ (hf3.mono (((((((((((hl2.trans hl3).trans hl4).trans hl5).trans hl6).trans hl7).trans hl8).trans hl9).trans hl10).trans hl11).trans hl12).trans hx)) hx14)) rf<|Aj.Ay (val:=fun p2=>(.bool true)) rf (fun _=>rfl) rf rf (fun _=>rfl) (fun _ p2 _ hx hf hy=>Ab.Bg (b:= !x14) (c:=true) (Ab.not rf) hg11) rf<|Aj.op (val:=fun p2=>(.bool true)) rf rf (fun _=>rfl) (fun _ p2 _ hx hf hy=>Ab.AK rf rf) rf ?_
       refine Aj.op (val:=fun p2=>(.bool true)) rf rf (fun _=>rfl) (fun _ p2 _ hx hf hy=>Ab.move rf) rf<|Aj.Ay (val:=fun p2=>(.agg #[v11])) rf (fun _=>rfl) rf rf (fun _=>rfl) (fun _ p2 _ hx hf hy=>Ab.AF (i:=1) Eo rf A5 rf rf (hy 1 _ rf rf)) rf<|Aj.Ay (val:=fun p2=>(.bool true)) rf (fun _=>rfl) rf rf (fun _=>rfl) (fun _ p2 _ hx hf hy=>Ab.Bg (b:=x15) (c:=true) (Ab.call Oa rf (Gg (a0:=([(false,([(97,98,1)]:List (Int×Int×Int))),(true,([]:List (Int×Int×Int)))]:List (Bool×(List (Int×Int×Int))))) (hv12.mono (hl12.trans hx)) (hG.mono ((((((((((((hl1.trans hl2).trans hl3).trans hl4).trans hl5).trans hl6).trans hl7).trans hl8).trans hl9).trans hl10).trans hl11).trans hl12).trans hx)) hx15)) hg12) rf<|Aj.op (val:=fun p2=>(.bool true)) rf rf (fun _=>rfl) (fun _ p2 _ hx hf hy=>Ab.AK rf rf) rf<|Aj.op (val:=fun p2=>(.bool true)) rf rf (fun _=>rfl) (fun _ p2 _ hx hf hy=>Ab.move rf) rf<|Aj.Ay (val:=fun p2=>(.agg #[(.slice none 0 0)])) rf (fun _=>rfl) rf rf (fun _=>rfl) (fun _ p2 _ hx hf hy=>Ab.Bi (vs:=[]) (cs:= #[(.slice none 0 0)]) FQ A5 rf rf (Bd) rf) rf<|Aj.Ay (val:=fun p2=>(.bool false)) rf (fun _=>rfl) rf rf (fun _=>rfl) (fun _ p2 _ hx hf hy=>Ab.Bg (b:=x16) (c:=false) (Ab.call Oa rf (Gg (a0:=([]:List (Bool×(List (Int×Int×Int))))) AW.nil (hG.mono ((((((((((((hl1.trans hl2).trans hl3).trans hl4).trans hl5).trans hl6).trans hl7).trans hl8).trans hl9).trans hl10).trans hl11).trans hl12).trans hx)) hx16)) hg13) rf<|Aj.op (val:=fun p2=>(.bool false)) rf rf (fun _=>rfl) (fun _ p2 _ hx hf hy=>Ab.AK rf rf) rf ?_
       refine Aj.op (val:=fun p2=>(.bool false)) rfl rfl (fun _=>rfl) (fun _ p2 _ hx hf hy=>Ab.move rfl) rfl<|Aj.Ai rfl (fun _=>rfl) rfl rfl (fun _ h=>by first|(cases h;done)|(cases h;decide))<|Aj.Ai rfl (fun _=>rfl) rfl rfl (fun _ h=>by first|(cases h;done)|(cases h;decide))<|Aj.Ai rfl (fun _=>rfl) rfl rfl (fun _ h=>by first|(cases h;done)|(cases h;decide))<|Aj.Ai rfl (fun _=>rfl) rfl rfl (fun _ h=>by first|(cases h;done)|(cases h;decide))<|Aj.Ai rfl (fun _=>rfl) rfl rfl (fun _ h=>by first|(cases h;done)|(cases h;decide))<|Aj.op (val:=fun p2=>(.bool false)) rfl rfl (fun _=>rfl) (fun _ p2 _ hx hf hy=>Ab.AA rfl rfl) rfl<|Aj.op (val:=fun p2=>(.bool false)) rfl rfl (fun _=>rfl) (fun _ p2 _ hx hf hy=>Ab.assign rfl) rfl ?_
       refine Aj.done fun H14 p2 hl14 hF3=>?_
       have hf7:AW (cP cB (cL (cP AZ (cP AZ Ao)))) H14 x9 (Cv (p2 0) 0):=hF3 0
       have hf8:AW (cP cB (cL (cP AZ (cP AZ Ao)))) H14 x11 (Cv (p2 4) 0):=hF3 4
       refine At.sub (L':=[(0,(.bool false))]) (Sub.of rf) ?_
       refine At.own (O:= .AM B7 (.cells #[v13] 26 (0,0)):: .AM B6 (.cells #[v11] 26 (0,0)):: .AM B5 (.cells #[v9] 26 (0,0)):: .AM B4 (.cells #[v6] 26 (0,0)):: .AM B3 (.cells #[v4] 26 (0,0)):: .AM (BI (p1 8)) (.cells #[(Cv (Cv (p1 4) 0) 0)] 26 (0,0)):: .AM B2 (.cells #[(.int .i64 2),(Ak (word (fun _=>false) 0)),(Ak (17179869184#64)),(Ak (word (fun _=>false) 2)),(Ak (word (fun _=>false) 3)),(.slice none 0 0)] 37 (0,0))::O) ?_ (by first|rfl|(simp only[List.length_append,List.length_set];rfl)|simp)
       refine At.Ad<|Wp.ret ?_
       obtain rfl:=si hd
       exact At.q1 7 ((((((((((((hl1.trans hl2).trans hl3).trans hl4).trans hl5).trans hl6).trans hl7).trans hl8).trans hl9).trans hl10).trans hl11).trans hl12).trans hl14) rf (RV.tmp rf) rf
      replace hd:=Ft hg12 hd
      refine Aj.runK 7 [⟨[],[],[0]⟩,⟨[0],[],[]⟩,⟨[],[],[0]⟩,AU,⟨[],[],[4]⟩,⟨[],[],[4]⟩,⟨[],[],[4]⟩,AU,AU,AU,⟨[5],[],[]⟩,AU,AU,AU,⟨[5],[],[]⟩,AU,AU,AU,AU,⟨[5],[],[]⟩,AU,AU,AU,AU,⟨[1],[],[]⟩,AU,AU,AU,AU,AU,AU,AU,AU,AU,AU,AU,AU,AU,AU] follows rfl (by kernel_rfl)<|Aj.T_ (val:=fun p2=>(.agg #[(Cv (p2 0) 0)])) (fact:=fun p2 HH=>AW (cP cB (cL (cP AZ (cP AZ Ao)))) HH x9 (Cv (p2 0) 0)) rfl (fun _=>rfl) (fun _=>rfl) (fun _ _ _ hl h=>h.mono hl) (fun _ p2 _ hx hf hy=>(BC.call LH rfl (GN hx9)).mono (by rintro v HH OO ⟨⟨v14,rfl,hv14⟩,rfl⟩;exact⟨rfl,hv14,rfl⟩)) rfl<|Aj.op (val:=fun p2=>(.agg #[v13])) rfl rfl (fun _=>rfl) (fun _ p2 _ hx hf hy=>Ab.AF (i:=0) Eo rfl A5 rfl rfl (hy 0 _ rfl rfl)) rfl<|Aj.op (val:=fun p2=>(.bool true)) rfl rfl (fun _=>rfl) (fun _ p2 _ hx hf hy=>Ab.Bg (b:=x10) (c:=true) (Ab.call Fq rfl (BK (a1:=([(true,([(0,255,0)]:List (Int×Int×Int)))]:List (Bool×(List (Int×Int×Int))))) (hf 0 rfl rfl) (hv13.mono hx) hx10)) hg7) rfl<|Aj.op (val:=fun p2=>(.bool true)) rfl rfl (fun _=>rfl) (fun _ p2 _ hx hf hy=>Ab.move rfl) rfl<|Aj.P_ (val:=fun p2=>(.agg #[(Cv (p2 4) 0)])) (fact:=fun p2 HH=>AW (cP cB (cL (cP AZ (cP AZ Ao)))) HH x11 (Cv (p2 4) 0)) rfl (fun _=>rfl) rfl (fun _=>rfl) (fun _=>rfl) (fun _ _ _ hl h=>h.mono hl) (fun _ p2 _ hx hf hy=>(BC.call M1 rfl (Gf hx11)).mono (by rintro v HH OO ⟨⟨v15,rfl,hv15⟩,rfl⟩;exact⟨rfl,hv15,rfl⟩)) rfl<|Aj.Ay (val:=fun p2=>(Cv (p2 4) 0)) rfl (fun _=>rfl) rfl rfl (fun _=>rfl) (fun _ p2 _ hx hf hy=>Ab.J' Ck CG rfl rfl rfl) rfl<|Aj.Ay (val:=fun p2=>(.int .i64 (x11.length:Int))) rfl (fun _=>rfl) rfl rfl (fun _=>rfl) (fun _ p2 _ hx hf hy=>Ab.len CG rfl (hf 4 rfl rfl).sl) rfl ?_
      refine Aj.Ay (val:=fun p2=>(.bool true)) rf (fun _=>rfl) rf rf (fun _=>rfl) (fun _ p2 _ hx hf hy=>Ab.Bg (b:=decide ((x11.length:Int)=3)) (c:=true) (Ab.eql rf rf) hg8) rf<|Aj.op (val:=fun p2=>(.bool true)) rf rf (fun _=>rfl) (fun _ p2 _ hx hf hy=>Ab.AK rf rf) rf<|Aj.op (val:=fun p2=>(.bool true)) rf rf (fun _=>rfl) (fun _ p2 _ hx hf hy=>Ab.move rf) rf<|Aj.Ay (val:=fun p2=>(.agg #[(Cv (Cv (p1 4) 0) 0)])) rf (fun _=>rfl) rf rf (fun _=>rfl) (fun _ p2 _ hx hf hy=>Ab.AF (i:=5) Eo rf A5 rf rf (hy 5 _ rf rf)) rf<|Aj.Ay (val:=fun p2=>(.bool true)) rf (fun _=>rfl) rf rf (fun _=>rfl) (fun _ p2 _ hx hf hy=>Ab.Bg (b:=x12) (c:=true) (Ab.call Hw rf (BQ (hf3.mono (((((((((((hl2.trans hl3).trans hl4).trans hl5).trans hl6).trans hl7).trans hl8).trans hl9).trans hl10).trans hl11).trans hl12).trans hx)) hx12)) hg9) rf<|Aj.op (val:=fun p2=>(.bool true)) rf rf (fun _=>rfl) (fun _ p2 _ hx hf hy=>Ab.AK rf rf) rf<|Aj.op (val:=fun p2=>(.bool true)) rf rf (fun _=>rfl) (fun _ p2 _ hx hf hy=>Ab.move rf) rf<|Aj.Ay (val:=fun p2=>(.agg #[(Cv (Cv (p1 4) 0) 0)])) rf (fun _=>rfl) rf rf (fun _=>rfl) (fun _ p2 _ hx hf hy=>Ab.AF (i:=5) Eo rf A5 rf rf (hy 5 _ rf rf)) rf ?_
      refine Aj.Ay (val:=fun p2=>(.bool x13)) rf (fun _=>rfl) rf rf (fun _=>rfl) (fun _ p2 _ hx hf hy=>Ab.call Hw rf (BQ (hf3.mono (((((((((((hl2.trans hl3).trans hl4).trans hl5).trans hl6).trans hl7).trans hl8).trans hl9).trans hl10).trans hl11).trans hl12).trans hx)) hx13)) rf<|Aj.Ay (val:=fun p2=>(.bool true)) rf (fun _=>rfl) rf rf (fun _=>rfl) (fun _ p2 _ hx hf hy=>Ab.Bg (b:= !x13) (c:=true) (Ab.not rf) hg10) rf<|Aj.op (val:=fun p2=>(.bool true)) rf rf (fun _=>rfl) (fun _ p2 _ hx hf hy=>Ab.AK rf rf) rf<|Aj.op (val:=fun p2=>(.bool true)) rf rf (fun _=>rfl) (fun _ p2 _ hx hf hy=>Ab.move rf) rf<|Aj.Ay (val:=fun p2=>(.agg #[(Cv (Cv (p1 4) 0) 0)])) rf (fun _=>rfl) rf rf (fun _=>rfl) (fun _ p2 _ hx hf hy=>Ab.AF (i:=5) Eo rf A5 rf rf (hy 5 _ rf rf)) rf<|Aj.Ay (val:=fun p2=>(.bool x14)) rf (fun _=>rfl) rf rf (fun _=>rfl) (fun _ p2 _ hx hf hy=>Ab.call Hw rf (BQ (hf3.mono (((((((((((hl2.trans hl3).trans hl4).trans hl5).trans hl6).trans hl7).trans hl8).trans hl9).trans hl10).trans hl11).trans hl12).trans hx)) hx14)) rf<|Aj.Ay (val:=fun p2=>(.bool true)) rf (fun _=>rfl) rf rf (fun _=>rfl) (fun _ p2 _ hx hf hy=>Ab.Bg (b:= !x14) (c:=true) (Ab.not rf) hg11) rf<|Aj.op (val:=fun p2=>(.bool true)) rf rf (fun _=>rfl) (fun _ p2 _ hx hf hy=>Ab.AK rf rf) rf ?_
      refine Aj.op (val:=fun p2=>(.bool true)) rfl rfl (fun _=>rfl) (fun _ p2 _ hx hf hy=>Ab.move rfl) rfl<|Aj.Ay (val:=fun p2=>(.agg #[v11])) rfl (fun _=>rfl) rfl rfl (fun _=>rfl) (fun _ p2 _ hx hf hy=>Ab.AF (i:=1) Eo rfl A5 rfl rfl (hy 1 _ rfl rfl)) rfl<|Aj.Ay (val:=fun p2=>(.bool false)) rfl (fun _=>rfl) rfl rfl (fun _=>rfl) (fun _ p2 _ hx hf hy=>Ab.Bg (b:=x15) (c:=false) (Ab.call Oa rfl (Gg (a0:=([(false,([(97,98,1)]:List (Int×Int×Int))),(true,([]:List (Int×Int×Int)))]:List (Bool×(List (Int×Int×Int))))) (hv12.mono (hl12.trans hx)) (hG.mono ((((((((((((hl1.trans hl2).trans hl3).trans hl4).trans hl5).trans hl6).trans hl7).trans hl8).trans hl9).trans hl10).trans hl11).trans hl12).trans hx)) hx15)) hg12) rfl<|Aj.op (val:=fun p2=>(.bool false)) rfl rfl (fun _=>rfl) (fun _ p2 _ hx hf hy=>Ab.AK rfl rfl) rfl<|Aj.op (val:=fun p2=>(.bool false)) rfl rfl (fun _=>rfl) (fun _ p2 _ hx hf hy=>Ab.move rfl) rfl<|Aj.Ai rfl (fun _=>rfl) rfl rfl (fun _ h=>by first|(cases h;done)|(cases h;decide))<|Aj.Ai rfl (fun _=>rfl) rfl rfl (fun _ h=>by first|(cases h;done)|(cases h;decide))<|Aj.op (val:=fun p2=>(.bool false)) rfl rfl (fun _=>rfl) (fun _ p2 _ hx hf hy=>Ab.AA rfl rfl) rfl ?_
      refine Aj.op (val:=fun p2=>(.bool false)) rfl rfl (fun _=>rfl) (fun _ p2 _ hx hf hy=>Ab.move rfl) rfl<|Aj.Ai rfl (fun _=>rfl) rfl rfl (fun _ h=>by first|(cases h;done)|(cases h;decide))<|Aj.Ai rfl (fun _=>rfl) rfl rfl (fun _ h=>by first|(cases h;done)|(cases h;decide))<|Aj.Ai rfl (fun _=>rfl) rfl rfl (fun _ h=>by first|(cases h;done)|(cases h;decide))<|Aj.Ai rfl (fun _=>rfl) rfl rfl (fun _ h=>by first|(cases h;done)|(cases h;decide))<|Aj.Ai rfl (fun _=>rfl) rfl rfl (fun _ h=>by first|(cases h;done)|(cases h;decide))<|Aj.op (val:=fun p2=>(.bool false)) rfl rfl (fun _=>rfl) (fun _ p2 _ hx hf hy=>Ab.AA rfl rfl) rfl<|Aj.op (val:=fun p2=>(.bool false)) rfl rfl (fun _=>rfl) (fun _ p2 _ hx hf hy=>Ab.assign rfl) rfl ?_
      refine Aj.done fun H15 p2 hl15 hF4=>?_
      have hf9:AW (cP cB (cL (cP AZ (cP AZ Ao)))) H15 x9 (Cv (p2 0) 0):=hF4 0
      have hf10:AW (cP cB (cL (cP AZ (cP AZ Ao)))) H15 x11 (Cv (p2 4) 0):=hF4 4
      refine At.sub (L':=[(0,(.bool false))]) (Sub.of rf) ?_
      refine At.own (O:= .AM B7 (.cells #[v13] 26 (0,0)):: .AM B6 (.cells #[v11] 26 (0,0)):: .AM B5 (.cells #[v9] 26 (0,0)):: .AM B4 (.cells #[v6] 26 (0,0)):: .AM B3 (.cells #[v4] 26 (0,0)):: .AM (BI (p1 8)) (.cells #[(Cv (Cv (p1 4) 0) 0)] 26 (0,0)):: .AM B2 (.cells #[(.int .i64 2),(Ak (word (fun _=>false) 0)),(Ak (17179869184#64)),(Ak (word (fun _=>false) 2)),(Ak (word (fun _=>false) 3)),(.slice none 0 0)] 37 (0,0))::O) ?_ (by first|rfl|(simp only[List.length_append,List.length_set];rfl)|simp)
      refine At.Ad<|Wp.ret ?_
      obtain rfl:=si hd
      exact At.q1 7 ((((((((((((hl1.trans hl2).trans hl3).trans hl4).trans hl5).trans hl6).trans hl7).trans hl8).trans hl9).trans hl10).trans hl11).trans hl12).trans hl15) rf (RV.tmp rf) rf
     replace hd:=Ft hg11 hd
     refine Aj.runK 7 [⟨[],[],[0]⟩,⟨[0],[],[]⟩,⟨[],[],[0]⟩,AU,⟨[],[],[4]⟩,⟨[],[],[4]⟩,⟨[],[],[4]⟩,AU,AU,AU,⟨[5],[],[]⟩,AU,AU,AU,⟨[5],[],[]⟩,AU,AU,AU,AU,⟨[5],[],[]⟩,AU,AU,AU,AU,AU,AU,AU,AU,AU,AU,AU,AU,AU,AU,AU,AU,AU,AU,AU] follows rfl (by kernel_rfl)<|Aj.T_ (val:=fun p2=>(.agg #[(Cv (p2 0) 0)])) (fact:=fun p2 HH=>AW (cP cB (cL (cP AZ (cP AZ Ao)))) HH x9 (Cv (p2 0) 0)) rfl (fun _=>rfl) (fun _=>rfl) (fun _ _ _ hl h=>h.mono hl) (fun _ p2 _ hx hf hy=>(BC.call LH rfl (GN hx9)).mono (by rintro v HH OO ⟨⟨v14,rfl,hv14⟩,rfl⟩;exact⟨rfl,hv14,rfl⟩)) rfl<|Aj.op (val:=fun p2=>(.agg #[v13])) rfl rfl (fun _=>rfl) (fun _ p2 _ hx hf hy=>Ab.AF (i:=0) Eo rfl A5 rfl rfl (hy 0 _ rfl rfl)) rfl<|Aj.op (val:=fun p2=>(.bool true)) rfl rfl (fun _=>rfl) (fun _ p2 _ hx hf hy=>Ab.Bg (b:=x10) (c:=true) (Ab.call Fq rfl (BK (a1:=([(true,([(0,255,0)]:List (Int×Int×Int)))]:List (Bool×(List (Int×Int×Int))))) (hf 0 rfl rfl) (hv13.mono hx) hx10)) hg7) rfl<|Aj.op (val:=fun p2=>(.bool true)) rfl rfl (fun _=>rfl) (fun _ p2 _ hx hf hy=>Ab.move rfl) rfl<|Aj.P_ (val:=fun p2=>(.agg #[(Cv (p2 4) 0)])) (fact:=fun p2 HH=>AW (cP cB (cL (cP AZ (cP AZ Ao)))) HH x11 (Cv (p2 4) 0)) rfl (fun _=>rfl) rfl (fun _=>rfl) (fun _=>rfl) (fun _ _ _ hl h=>h.mono hl) (fun _ p2 _ hx hf hy=>(BC.call M1 rfl (Gf hx11)).mono (by rintro v HH OO ⟨⟨v15,rfl,hv15⟩,rfl⟩;exact⟨rfl,hv15,rfl⟩)) rfl<|Aj.Ay (val:=fun p2=>(Cv (p2 4) 0)) rfl (fun _=>rfl) rfl rfl (fun _=>rfl) (fun _ p2 _ hx hf hy=>Ab.J' Ck CG rfl rfl rfl) rfl<|Aj.Ay (val:=fun p2=>(.int .i64 (x11.length:Int))) rfl (fun _=>rfl) rfl rfl (fun _=>rfl) (fun _ p2 _ hx hf hy=>Ab.len CG rfl (hf 4 rfl rfl).sl) rfl ?_
     refine Aj.Ay (val:=fun p2=>(.bool true)) rf (fun _=>rfl) rf rf (fun _=>rfl) (fun _ p2 _ hx hf hy=>Ab.Bg (b:=decide ((x11.length:Int)=3)) (c:=true) (Ab.eql rf rf) hg8) rf<|Aj.op (val:=fun p2=>(.bool true)) rf rf (fun _=>rfl) (fun _ p2 _ hx hf hy=>Ab.AK rf rf) rf<|Aj.op (val:=fun p2=>(.bool true)) rf rf (fun _=>rfl) (fun _ p2 _ hx hf hy=>Ab.move rf) rf<|Aj.Ay (val:=fun p2=>(.agg #[(Cv (Cv (p1 4) 0) 0)])) rf (fun _=>rfl) rf rf (fun _=>rfl) (fun _ p2 _ hx hf hy=>Ab.AF (i:=5) Eo rf A5 rf rf (hy 5 _ rf rf)) rf<|Aj.Ay (val:=fun p2=>(.bool true)) rf (fun _=>rfl) rf rf (fun _=>rfl) (fun _ p2 _ hx hf hy=>Ab.Bg (b:=x12) (c:=true) (Ab.call Hw rf (BQ (hf3.mono (((((((((((hl2.trans hl3).trans hl4).trans hl5).trans hl6).trans hl7).trans hl8).trans hl9).trans hl10).trans hl11).trans hl12).trans hx)) hx12)) hg9) rf<|Aj.op (val:=fun p2=>(.bool true)) rf rf (fun _=>rfl) (fun _ p2 _ hx hf hy=>Ab.AK rf rf) rf<|Aj.op (val:=fun p2=>(.bool true)) rf rf (fun _=>rfl) (fun _ p2 _ hx hf hy=>Ab.move rf) rf<|Aj.Ay (val:=fun p2=>(.agg #[(Cv (Cv (p1 4) 0) 0)])) rf (fun _=>rfl) rf rf (fun _=>rfl) (fun _ p2 _ hx hf hy=>Ab.AF (i:=5) Eo rf A5 rf rf (hy 5 _ rf rf)) rf ?_
     refine Aj.Ay (val:=fun p2=>(.bool x13)) rf (fun _=>rfl) rf rf (fun _=>rfl) (fun _ p2 _ hx hf hy=>Ab.call Hw rf (BQ (hf3.mono (((((((((((hl2.trans hl3).trans hl4).trans hl5).trans hl6).trans hl7).trans hl8).trans hl9).trans hl10).trans hl11).trans hl12).trans hx)) hx13)) rf<|Aj.Ay (val:=fun p2=>(.bool true)) rf (fun _=>rfl) rf rf (fun _=>rfl) (fun _ p2 _ hx hf hy=>Ab.Bg (b:= !x13) (c:=true) (Ab.not rf) hg10) rf<|Aj.op (val:=fun p2=>(.bool true)) rf rf (fun _=>rfl) (fun _ p2 _ hx hf hy=>Ab.AK rf rf) rf<|Aj.op (val:=fun p2=>(.bool true)) rf rf (fun _=>rfl) (fun _ p2 _ hx hf hy=>Ab.move rf) rf<|Aj.Ay (val:=fun p2=>(.agg #[(Cv (Cv (p1 4) 0) 0)])) rf (fun _=>rfl) rf rf (fun _=>rfl) (fun _ p2 _ hx hf hy=>Ab.AF (i:=5) Eo rf A5 rf rf (hy 5 _ rf rf)) rf<|Aj.Ay (val:=fun p2=>(.bool x14)) rf (fun _=>rfl) rf rf (fun _=>rfl) (fun _ p2 _ hx hf hy=>Ab.call Hw rf (BQ (hf3.mono (((((((((((hl2.trans hl3).trans hl4).trans hl5).trans hl6).trans hl7).trans hl8).trans hl9).trans hl10).trans hl11).trans hl12).trans hx)) hx14)) rf<|Aj.Ay (val:=fun p2=>(.bool false)) rf (fun _=>rfl) rf rf (fun _=>rfl) (fun _ p2 _ hx hf hy=>Ab.Bg (b:= !x14) (c:=false) (Ab.not rf) hg11) rf<|Aj.op (val:=fun p2=>(.bool false)) rf rf (fun _=>rfl) (fun _ p2 _ hx hf hy=>Ab.AK rf rf) rf ?_
     refine Aj.op (val:=fun p2=>(.bool false)) rfl rfl (fun _=>rfl) (fun _ p2 _ hx hf hy=>Ab.move rfl) rfl<|Aj.Ai rfl (fun _=>rfl) rfl rfl (fun _ h=>by first|(cases h;done)|(cases h;decide))<|Aj.Ai rfl (fun _=>rfl) rfl rfl (fun _ h=>by first|(cases h;done)|(cases h;decide))<|Aj.op (val:=fun p2=>(.bool false)) rfl rfl (fun _=>rfl) (fun _ p2 _ hx hf hy=>Ab.AA rfl rfl) rfl<|Aj.op (val:=fun p2=>(.bool false)) rfl rfl (fun _=>rfl) (fun _ p2 _ hx hf hy=>Ab.move rfl) rfl<|Aj.Ai rfl (fun _=>rfl) rfl rfl (fun _ h=>by first|(cases h;done)|(cases h;decide))<|Aj.Ai rfl (fun _=>rfl) rfl rfl (fun _ h=>by first|(cases h;done)|(cases h;decide))<|Aj.op (val:=fun p2=>(.bool false)) rfl rfl (fun _=>rfl) (fun _ p2 _ hx hf hy=>Ab.AA rfl rfl) rfl ?_
     refine Aj.op (val:=fun p2=>(.bool false)) rfl rfl (fun _=>rfl) (fun _ p2 _ hx hf hy=>Ab.move rfl) rfl<|Aj.Ai rfl (fun _=>rfl) rfl rfl (fun _ h=>by first|(cases h;done)|(cases h;decide))<|Aj.Ai rfl (fun _=>rfl) rfl rfl (fun _ h=>by first|(cases h;done)|(cases h;decide))<|Aj.Ai rfl (fun _=>rfl) rfl rfl (fun _ h=>by first|(cases h;done)|(cases h;decide))<|Aj.Ai rfl (fun _=>rfl) rfl rfl (fun _ h=>by first|(cases h;done)|(cases h;decide))<|Aj.Ai rfl (fun _=>rfl) rfl rfl (fun _ h=>by first|(cases h;done)|(cases h;decide))<|Aj.op (val:=fun p2=>(.bool false)) rfl rfl (fun _=>rfl) (fun _ p2 _ hx hf hy=>Ab.AA rfl rfl) rfl<|Aj.op (val:=fun p2=>(.bool false)) rfl rfl (fun _=>rfl) (fun _ p2 _ hx hf hy=>Ab.assign rfl) rfl ?_
     refine Aj.done fun H16 p2 hl16 hF5=>?_
     have hf11:AW (cP cB (cL (cP AZ (cP AZ Ao)))) H16 x9 (Cv (p2 0) 0):=hF5 0
     have hf12:AW (cP cB (cL (cP AZ (cP AZ Ao)))) H16 x11 (Cv (p2 4) 0):=hF5 4
     refine At.sub (L':=[(0,(.bool false))]) (Sub.of rf) ?_
     refine At.own (O:= .AM B7 (.cells #[v13] 26 (0,0)):: .AM B6 (.cells #[v11] 26 (0,0)):: .AM B5 (.cells #[v9] 26 (0,0)):: .AM B4 (.cells #[v6] 26 (0,0)):: .AM B3 (.cells #[v4] 26 (0,0)):: .AM (BI (p1 8)) (.cells #[(Cv (Cv (p1 4) 0) 0)] 26 (0,0)):: .AM B2 (.cells #[(.int .i64 2),(Ak (word (fun _=>false) 0)),(Ak (17179869184#64)),(Ak (word (fun _=>false) 2)),(Ak (word (fun _=>false) 3)),(.slice none 0 0)] 37 (0,0))::O) ?_ (by first|rfl|(simp only[List.length_append,List.length_set];rfl)|simp)
     refine At.Ad<|Wp.ret ?_
     obtain rfl:=si hd
     exact At.q1 7 ((((((((((((hl1.trans hl2).trans hl3).trans hl4).trans hl5).trans hl6).trans hl7).trans hl8).trans hl9).trans hl10).trans hl11).trans hl12).trans hl16) rf (RV.tmp rf) rf
    replace hd:=Ft hg10 hd
    refine Aj.runK 7 [⟨[],[],[0]⟩,⟨[0],[],[]⟩,⟨[],[],[0]⟩,AU,⟨[],[],[4]⟩,⟨[],[],[4]⟩,⟨[],[],[4]⟩,AU,AU,AU,⟨[5],[],[]⟩,AU,AU,AU,⟨[5],[],[]⟩,AU,AU,AU,AU,AU,AU,AU,AU,AU,AU,AU,AU,AU,AU,AU,AU,AU,AU,AU,AU,AU,AU,AU,AU] follows rfl (by kernel_rfl)<|Aj.T_ (val:=fun p2=>(.agg #[(Cv (p2 0) 0)])) (fact:=fun p2 HH=>AW (cP cB (cL (cP AZ (cP AZ Ao)))) HH x9 (Cv (p2 0) 0)) rfl (fun _=>rfl) (fun _=>rfl) (fun _ _ _ hl h=>h.mono hl) (fun _ p2 _ hx hf hy=>(BC.call LH rfl (GN hx9)).mono (by rintro v HH OO ⟨⟨v14,rfl,hv14⟩,rfl⟩;exact⟨rfl,hv14,rfl⟩)) rfl<|Aj.op (val:=fun p2=>(.agg #[v13])) rfl rfl (fun _=>rfl) (fun _ p2 _ hx hf hy=>Ab.AF (i:=0) Eo rfl A5 rfl rfl (hy 0 _ rfl rfl)) rfl<|Aj.op (val:=fun p2=>(.bool true)) rfl rfl (fun _=>rfl) (fun _ p2 _ hx hf hy=>Ab.Bg (b:=x10) (c:=true) (Ab.call Fq rfl (BK (a1:=([(true,([(0,255,0)]:List (Int×Int×Int)))]:List (Bool×(List (Int×Int×Int))))) (hf 0 rfl rfl) (hv13.mono hx) hx10)) hg7) rfl<|Aj.op (val:=fun p2=>(.bool true)) rfl rfl (fun _=>rfl) (fun _ p2 _ hx hf hy=>Ab.move rfl) rfl<|Aj.P_ (val:=fun p2=>(.agg #[(Cv (p2 4) 0)])) (fact:=fun p2 HH=>AW (cP cB (cL (cP AZ (cP AZ Ao)))) HH x11 (Cv (p2 4) 0)) rfl (fun _=>rfl) rfl (fun _=>rfl) (fun _=>rfl) (fun _ _ _ hl h=>h.mono hl) (fun _ p2 _ hx hf hy=>(BC.call M1 rfl (Gf hx11)).mono (by rintro v HH OO ⟨⟨v15,rfl,hv15⟩,rfl⟩;exact⟨rfl,hv15,rfl⟩)) rfl<|Aj.Ay (val:=fun p2=>(Cv (p2 4) 0)) rfl (fun _=>rfl) rfl rfl (fun _=>rfl) (fun _ p2 _ hx hf hy=>Ab.J' Ck CG rfl rfl rfl) rfl<|Aj.Ay (val:=fun p2=>(.int .i64 (x11.length:Int))) rfl (fun _=>rfl) rfl rfl (fun _=>rfl) (fun _ p2 _ hx hf hy=>Ab.len CG rfl (hf 4 rfl rfl).sl) rfl ?_
    refine Aj.Ay (val:=fun p2=>(.bool true)) rf (fun _=>rfl) rf rf (fun _=>rfl) (fun _ p2 _ hx hf hy=>Ab.Bg (b:=decide ((x11.length:Int)=3)) (c:=true) (Ab.eql rf rf) hg8) rf<|Aj.op (val:=fun p2=>(.bool true)) rf rf (fun _=>rfl) (fun _ p2 _ hx hf hy=>Ab.AK rf rf) rf<|Aj.op (val:=fun p2=>(.bool true)) rf rf (fun _=>rfl) (fun _ p2 _ hx hf hy=>Ab.move rf) rf<|Aj.Ay (val:=fun p2=>(.agg #[(Cv (Cv (p1 4) 0) 0)])) rf (fun _=>rfl) rf rf (fun _=>rfl) (fun _ p2 _ hx hf hy=>Ab.AF (i:=5) Eo rf A5 rf rf (hy 5 _ rf rf)) rf<|Aj.Ay (val:=fun p2=>(.bool true)) rf (fun _=>rfl) rf rf (fun _=>rfl) (fun _ p2 _ hx hf hy=>Ab.Bg (b:=x12) (c:=true) (Ab.call Hw rf (BQ (hf3.mono (((((((((((hl2.trans hl3).trans hl4).trans hl5).trans hl6).trans hl7).trans hl8).trans hl9).trans hl10).trans hl11).trans hl12).trans hx)) hx12)) hg9) rf<|Aj.op (val:=fun p2=>(.bool true)) rf rf (fun _=>rfl) (fun _ p2 _ hx hf hy=>Ab.AK rf rf) rf<|Aj.op (val:=fun p2=>(.bool true)) rf rf (fun _=>rfl) (fun _ p2 _ hx hf hy=>Ab.move rf) rf<|Aj.Ay (val:=fun p2=>(.agg #[(Cv (Cv (p1 4) 0) 0)])) rf (fun _=>rfl) rf rf (fun _=>rfl) (fun _ p2 _ hx hf hy=>Ab.AF (i:=5) Eo rf A5 rf rf (hy 5 _ rf rf)) rf ?_
    refine Aj.Ay (val:=fun p2=>(.bool x13)) rfl (fun _=>rfl) rfl rfl (fun _=>rfl) (fun _ p2 _ hx hf hy=>Ab.call Hw rfl (BQ (hf3.mono (((((((((((hl2.trans hl3).trans hl4).trans hl5).trans hl6).trans hl7).trans hl8).trans hl9).trans hl10).trans hl11).trans hl12).trans hx)) hx13)) rfl<|Aj.Ay (val:=fun p2=>(.bool false)) rfl (fun _=>rfl) rfl rfl (fun _=>rfl) (fun _ p2 _ hx hf hy=>Ab.Bg (b:= !x13) (c:=false) (Ab.not rfl) hg10) rfl<|Aj.op (val:=fun p2=>(.bool false)) rfl rfl (fun _=>rfl) (fun _ p2 _ hx hf hy=>Ab.AK rfl rfl) rfl<|Aj.op (val:=fun p2=>(.bool false)) rfl rfl (fun _=>rfl) (fun _ p2 _ hx hf hy=>Ab.move rfl) rfl<|Aj.Ai rfl (fun _=>rfl) rfl rfl (fun _ h=>by first|(cases h;done)|(cases h;decide))<|Aj.Ai rfl (fun _=>rfl) rfl rfl (fun _ h=>by first|(cases h;done)|(cases h;decide))<|Aj.Ai rfl (fun _=>rfl) rfl rfl (fun _ h=>by first|(cases h;done)|(cases h;decide))<|Aj.op (val:=fun p2=>(.bool false)) rfl rfl (fun _=>rfl) (fun _ p2 _ hx hf hy=>Ab.AA rfl rfl) rfl ?_
    refine Aj.op (val:=fun p2=>(.bool false)) rfl rfl (fun _=>rfl) (fun _ p2 _ hx hf hy=>Ab.move rfl) rfl<|Aj.Ai rfl (fun _=>rfl) rfl rfl (fun _ h=>by first|(cases h;done)|(cases h;decide))<|Aj.Ai rfl (fun _=>rfl) rfl rfl (fun _ h=>by first|(cases h;done)|(cases h;decide))<|Aj.op (val:=fun p2=>(.bool false)) rfl rfl (fun _=>rfl) (fun _ p2 _ hx hf hy=>Ab.AA rfl rfl) rfl<|Aj.op (val:=fun p2=>(.bool false)) rfl rfl (fun _=>rfl) (fun _ p2 _ hx hf hy=>Ab.move rfl) rfl<|Aj.Ai rfl (fun _=>rfl) rfl rfl (fun _ h=>by first|(cases h;done)|(cases h;decide))<|Aj.Ai rfl (fun _=>rfl) rfl rfl (fun _ h=>by first|(cases h;done)|(cases h;decide))<|Aj.op (val:=fun p2=>(.bool false)) rfl rfl (fun _=>rfl) (fun _ p2 _ hx hf hy=>Ab.AA rfl rfl) rfl ?_
    refine Aj.op (val:=fun p2=>(.bool false)) rfl rfl (fun _=>rfl) (fun _ p2 _ hx hf hy=>Ab.move rfl) rfl<|Aj.Ai rfl (fun _=>rfl) rfl rfl (fun _ h=>by first|(cases h;done)|(cases h;decide))<|Aj.Ai rfl (fun _=>rfl) rfl rfl (fun _ h=>by first|(cases h;done)|(cases h;decide))<|Aj.Ai rfl (fun _=>rfl) rfl rfl (fun _ h=>by first|(cases h;done)|(cases h;decide))<|Aj.Ai rfl (fun _=>rfl) rfl rfl (fun _ h=>by first|(cases h;done)|(cases h;decide))<|Aj.Ai rfl (fun _=>rfl) rfl rfl (fun _ h=>by first|(cases h;done)|(cases h;decide))<|Aj.op (val:=fun p2=>(.bool false)) rfl rfl (fun _=>rfl) (fun _ p2 _ hx hf hy=>Ab.AA rfl rfl) rfl<|Aj.op (val:=fun p2=>(.bool false)) rfl rfl (fun _=>rfl) (fun _ p2 _ hx hf hy=>Ab.assign rfl) rfl ?_
    refine Aj.done fun H17 p2 hl17 hF6=>?_
    have hf13:AW (cP cB (cL (cP AZ (cP AZ Ao)))) H17 x9 (Cv (p2 0) 0):=hF6 0
    have hf14:AW (cP cB (cL (cP AZ (cP AZ Ao)))) H17 x11 (Cv (p2 4) 0):=hF6 4
    refine At.sub (L':=[(0,(.bool false))]) (Sub.of rf) ?_
    refine At.own (O:= .AM B7 (.cells #[v13] 26 (0,0)):: .AM B6 (.cells #[v11] 26 (0,0)):: .AM B5 (.cells #[v9] 26 (0,0)):: .AM B4 (.cells #[v6] 26 (0,0)):: .AM B3 (.cells #[v4] 26 (0,0)):: .AM (BI (p1 8)) (.cells #[(Cv (Cv (p1 4) 0) 0)] 26 (0,0)):: .AM B2 (.cells #[(.int .i64 2),(Ak (word (fun _=>false) 0)),(Ak (17179869184#64)),(Ak (word (fun _=>false) 2)),(Ak (word (fun _=>false) 3)),(.slice none 0 0)] 37 (0,0))::O) ?_ (by first|rfl|(simp only[List.length_append,List.length_set];rfl)|simp)
    refine At.Ad<|Wp.ret ?_
    obtain rfl:=si hd
    exact At.q1 7 ((((((((((((hl1.trans hl2).trans hl3).trans hl4).trans hl5).trans hl6).trans hl7).trans hl8).trans hl9).trans hl10).trans hl11).trans hl12).trans hl17) rf (RV.tmp rf) rf
   replace hd:=Ft hg9 hd
   refine Aj.runK 7 [⟨[],[],[0]⟩,⟨[0],[],[]⟩,⟨[],[],[0]⟩,AU,⟨[],[],[4]⟩,⟨[],[],[4]⟩,⟨[],[],[4]⟩,AU,AU,AU,⟨[5],[],[]⟩,AU,AU,AU,AU,AU,AU,AU,AU,AU,AU,AU,AU,AU,AU,AU,AU,AU,AU,AU,AU,AU,AU,AU,AU,AU,AU,AU,AU] follows rfl (by kernel_rfl)<|Aj.T_ (val:=fun p2=>(.agg #[(Cv (p2 0) 0)])) (fact:=fun p2 HH=>AW (cP cB (cL (cP AZ (cP AZ Ao)))) HH x9 (Cv (p2 0) 0)) rfl (fun _=>rfl) (fun _=>rfl) (fun _ _ _ hl h=>h.mono hl) (fun _ p2 _ hx hf hy=>(BC.call LH rfl (GN hx9)).mono (by rintro v HH OO ⟨⟨v14,rfl,hv14⟩,rfl⟩;exact⟨rfl,hv14,rfl⟩)) rfl<|Aj.op (val:=fun p2=>(.agg #[v13])) rfl rfl (fun _=>rfl) (fun _ p2 _ hx hf hy=>Ab.AF (i:=0) Eo rfl A5 rfl rfl (hy 0 _ rfl rfl)) rfl<|Aj.op (val:=fun p2=>(.bool true)) rfl rfl (fun _=>rfl) (fun _ p2 _ hx hf hy=>Ab.Bg (b:=x10) (c:=true) (Ab.call Fq rfl (BK (a1:=([(true,([(0,255,0)]:List (Int×Int×Int)))]:List (Bool×(List (Int×Int×Int))))) (hf 0 rfl rfl) (hv13.mono hx) hx10)) hg7) rfl<|Aj.op (val:=fun p2=>(.bool true)) rfl rfl (fun _=>rfl) (fun _ p2 _ hx hf hy=>Ab.move rfl) rfl<|Aj.P_ (val:=fun p2=>(.agg #[(Cv (p2 4) 0)])) (fact:=fun p2 HH=>AW (cP cB (cL (cP AZ (cP AZ Ao)))) HH x11 (Cv (p2 4) 0)) rfl (fun _=>rfl) rfl (fun _=>rfl) (fun _=>rfl) (fun _ _ _ hl h=>h.mono hl) (fun _ p2 _ hx hf hy=>(BC.call M1 rfl (Gf hx11)).mono (by rintro v HH OO ⟨⟨v15,rfl,hv15⟩,rfl⟩;exact⟨rfl,hv15,rfl⟩)) rfl<|Aj.Ay (val:=fun p2=>(Cv (p2 4) 0)) rfl (fun _=>rfl) rfl rfl (fun _=>rfl) (fun _ p2 _ hx hf hy=>Ab.J' Ck CG rfl rfl rfl) rfl<|Aj.Ay (val:=fun p2=>(.int .i64 (x11.length:Int))) rfl (fun _=>rfl) rfl rfl (fun _=>rfl) (fun _ p2 _ hx hf hy=>Ab.len CG rfl (hf 4 rfl rfl).sl) rfl ?_
   refine Aj.Ay (val:=fun p2=>(.bool true)) rfl (fun _=>rfl) rfl rfl (fun _=>rfl) (fun _ p2 _ hx hf hy=>Ab.Bg (b:=decide ((x11.length:Int)=3)) (c:=true) (Ab.eql rfl rfl) hg8) rfl<|Aj.op (val:=fun p2=>(.bool true)) rfl rfl (fun _=>rfl) (fun _ p2 _ hx hf hy=>Ab.AK rfl rfl) rfl<|Aj.op (val:=fun p2=>(.bool true)) rfl rfl (fun _=>rfl) (fun _ p2 _ hx hf hy=>Ab.move rfl) rfl<|Aj.Ay (val:=fun p2=>(.agg #[(Cv (Cv (p1 4) 0) 0)])) rfl (fun _=>rfl) rfl rfl (fun _=>rfl) (fun _ p2 _ hx hf hy=>Ab.AF (i:=5) Eo rfl A5 rfl rfl (hy 5 _ rfl rfl)) rfl<|Aj.Ay (val:=fun p2=>(.bool false)) rfl (fun _=>rfl) rfl rfl (fun _=>rfl) (fun _ p2 _ hx hf hy=>Ab.Bg (b:=x12) (c:=false) (Ab.call Hw rfl (BQ (hf3.mono (((((((((((hl2.trans hl3).trans hl4).trans hl5).trans hl6).trans hl7).trans hl8).trans hl9).trans hl10).trans hl11).trans hl12).trans hx)) hx12)) hg9) rfl<|Aj.op (val:=fun p2=>(.bool false)) rfl rfl (fun _=>rfl) (fun _ p2 _ hx hf hy=>Ab.AK rfl rfl) rfl<|Aj.op (val:=fun p2=>(.bool false)) rfl rfl (fun _=>rfl) (fun _ p2 _ hx hf hy=>Ab.move rfl) rfl<|Aj.Ai rfl (fun _=>rfl) rfl rfl (fun _ h=>by first|(cases h;done)|(cases h;decide)) ?_
   refine Aj.Ai rfl (fun _=>rfl) rfl rfl (fun _ h=>by first|(cases h;done)|(cases h;decide))<|Aj.Ai rfl (fun _=>rfl) rfl rfl (fun _ h=>by first|(cases h;done)|(cases h;decide))<|Aj.op (val:=fun p2=>(.bool false)) rfl rfl (fun _=>rfl) (fun _ p2 _ hx hf hy=>Ab.AA rfl rfl) rfl<|Aj.op (val:=fun p2=>(.bool false)) rfl rfl (fun _=>rfl) (fun _ p2 _ hx hf hy=>Ab.move rfl) rfl<|Aj.Ai rfl (fun _=>rfl) rfl rfl (fun _ h=>by first|(cases h;done)|(cases h;decide))<|Aj.Ai rfl (fun _=>rfl) rfl rfl (fun _ h=>by first|(cases h;done)|(cases h;decide))<|Aj.Ai rfl (fun _=>rfl) rfl rfl (fun _ h=>by first|(cases h;done)|(cases h;decide))<|Aj.op (val:=fun p2=>(.bool false)) rfl rfl (fun _=>rfl) (fun _ p2 _ hx hf hy=>Ab.AA rfl rfl) rfl ?_
   refine Aj.op (val:=fun p2=>(.bool false)) rfl rfl (fun _=>rfl) (fun _ p2 _ hx hf hy=>Ab.move rfl) rfl<|Aj.Ai rfl (fun _=>rfl) rfl rfl (fun _ h=>by first|(cases h;done)|(cases h;decide))<|Aj.Ai rfl (fun _=>rfl) rfl rfl (fun _ h=>by first|(cases h;done)|(cases h;decide))<|Aj.op (val:=fun p2=>(.bool false)) rfl rfl (fun _=>rfl) (fun _ p2 _ hx hf hy=>Ab.AA rfl rfl) rfl<|Aj.op (val:=fun p2=>(.bool false)) rfl rfl (fun _=>rfl) (fun _ p2 _ hx hf hy=>Ab.move rfl) rfl<|Aj.Ai rfl (fun _=>rfl) rfl rfl (fun _ h=>by first|(cases h;done)|(cases h;decide))<|Aj.Ai rfl (fun _=>rfl) rfl rfl (fun _ h=>by first|(cases h;done)|(cases h;decide))<|Aj.op (val:=fun p2=>(.bool false)) rfl rfl (fun _=>rfl) (fun _ p2 _ hx hf hy=>Ab.AA rfl rfl) rfl ?_
   refine Aj.op (val:=fun p2=>(.bool false)) rfl rfl (fun _=>rfl) (fun _ p2 _ hx hf hy=>Ab.move rfl) rfl<|Aj.Ai rfl (fun _=>rfl) rfl rfl (fun _ h=>by first|(cases h;done)|(cases h;decide))<|Aj.Ai rfl (fun _=>rfl) rfl rfl (fun _ h=>by first|(cases h;done)|(cases h;decide))<|Aj.Ai rfl (fun _=>rfl) rfl rfl (fun _ h=>by first|(cases h;done)|(cases h;decide))<|Aj.Ai rfl (fun _=>rfl) rfl rfl (fun _ h=>by first|(cases h;done)|(cases h;decide))<|Aj.Ai rfl (fun _=>rfl) rfl rfl (fun _ h=>by first|(cases h;done)|(cases h;decide))<|Aj.op (val:=fun p2=>(.bool false)) rfl rfl (fun _=>rfl) (fun _ p2 _ hx hf hy=>Ab.AA rfl rfl) rfl<|Aj.op (val:=fun p2=>(.bool false)) rfl rfl (fun _=>rfl) (fun _ p2 _ hx hf hy=>Ab.assign rfl) rfl ?_
   refine Aj.done fun H18 p2 hl18 hF7=>?_
   have hf15:AW (cP cB (cL (cP AZ (cP AZ Ao)))) H18 x9 (Cv (p2 0) 0):=hF7 0
   have hf16:AW (cP cB (cL (cP AZ (cP AZ Ao)))) H18 x11 (Cv (p2 4) 0):=hF7 4
   refine At.sub (L':=[(0,(.bool false))]) (Sub.of rf) ?_
   refine At.own (O:= .AM B7 (.cells #[v13] 26 (0,0)):: .AM B6 (.cells #[v11] 26 (0,0)):: .AM B5 (.cells #[v9] 26 (0,0)):: .AM B4 (.cells #[v6] 26 (0,0)):: .AM B3 (.cells #[v4] 26 (0,0)):: .AM (BI (p1 8)) (.cells #[(Cv (Cv (p1 4) 0) 0)] 26 (0,0)):: .AM B2 (.cells #[(.int .i64 2),(Ak (word (fun _=>false) 0)),(Ak (17179869184#64)),(Ak (word (fun _=>false) 2)),(Ak (word (fun _=>false) 3)),(.slice none 0 0)] 37 (0,0))::O) ?_ (by first|rfl|(simp only[List.length_append,List.length_set];rfl)|simp)
   refine At.Ad<|Wp.ret ?_
   obtain rfl:=si hd
   exact At.q1 7 ((((((((((((hl1.trans hl2).trans hl3).trans hl4).trans hl5).trans hl6).trans hl7).trans hl8).trans hl9).trans hl10).trans hl11).trans hl12).trans hl18) rf (RV.tmp rf) rf
  obtain⟨hg8_,hd⟩:=bF hg8 hd
  refine Aj.runK 7 [⟨[],[],[0]⟩,⟨[0],[],[]⟩,⟨[],[],[0]⟩,AU,⟨[],[],[4]⟩,⟨[],[],[4]⟩,⟨[],[],[4]⟩,AU,AU,AU,AU,AU,AU,AU,AU,AU,AU,AU,AU,AU,AU,AU,AU,AU,AU,AU,AU,AU,AU,AU,AU,AU,AU,AU,AU,AU,AU,AU,AU] follows rfl (by kernel_rfl)<|Aj.T_ (val:=fun p2=>(.agg #[(Cv (p2 0) 0)])) (fact:=fun p2 HH=>AW (cP cB (cL (cP AZ (cP AZ Ao)))) HH x9 (Cv (p2 0) 0)) rfl (fun _=>rfl) (fun _=>rfl) (fun _ _ _ hl h=>h.mono hl) (fun _ p2 _ hx hf hy=>(BC.call LH rfl (GN hx9)).mono (by rintro v HH OO ⟨⟨v14,rfl,hv14⟩,rfl⟩;exact⟨rfl,hv14,rfl⟩)) rfl<|Aj.op (val:=fun p2=>(.agg #[v13])) rfl rfl (fun _=>rfl) (fun _ p2 _ hx hf hy=>Ab.AF (i:=0) Eo rfl A5 rfl rfl (hy 0 _ rfl rfl)) rfl<|Aj.op (val:=fun p2=>(.bool true)) rfl rfl (fun _=>rfl) (fun _ p2 _ hx hf hy=>Ab.Bg (b:=x10) (c:=true) (Ab.call Fq rfl (BK (a1:=([(true,([(0,255,0)]:List (Int×Int×Int)))]:List (Bool×(List (Int×Int×Int))))) (hf 0 rfl rfl) (hv13.mono hx) hx10)) hg7) rfl<|Aj.op (val:=fun p2=>(.bool true)) rfl rfl (fun _=>rfl) (fun _ p2 _ hx hf hy=>Ab.move rfl) rfl<|Aj.P_ (val:=fun p2=>(.agg #[(Cv (p2 4) 0)])) (fact:=fun p2 HH=>AW (cP cB (cL (cP AZ (cP AZ Ao)))) HH x11 (Cv (p2 4) 0)) rfl (fun _=>rfl) rfl (fun _=>rfl) (fun _=>rfl) (fun _ _ _ hl h=>h.mono hl) (fun _ p2 _ hx hf hy=>(BC.call M1 rfl (Gf hx11)).mono (by rintro v HH OO ⟨⟨v15,rfl,hv15⟩,rfl⟩;exact⟨rfl,hv15,rfl⟩)) rfl<|Aj.Ay (val:=fun p2=>(Cv (p2 4) 0)) rfl (fun _=>rfl) rfl rfl (fun _=>rfl) (fun _ p2 _ hx hf hy=>Ab.J' Ck CG rfl rfl rfl) rfl<|Aj.Ay (val:=fun p2=>(.int .i64 (x11.length:Int))) rfl (fun _=>rfl) rfl rfl (fun _=>rfl) (fun _ p2 _ hx hf hy=>Ab.len CG rfl (hf 4 rfl rfl).sl) rfl ?_
  refine Aj.Ay (val:=fun p2=>(.bool false)) rfl (fun _=>rfl) rfl rfl (fun _=>rfl) (fun _ p2 _ hx hf hy=>Ab.Bg (b:=decide ((x11.length:Int)=3)) (c:=false) (Ab.eql rfl rfl) hg8) rfl<|Aj.op (val:=fun p2=>(.bool false)) rfl rfl (fun _=>rfl) (fun _ p2 _ hx hf hy=>Ab.AK rfl rfl) rfl<|Aj.op (val:=fun p2=>(.bool false)) rfl rfl (fun _=>rfl) (fun _ p2 _ hx hf hy=>Ab.move rfl) rfl<|Aj.Ai rfl (fun _=>rfl) rfl rfl (fun _ h=>by first|(cases h;done)|(cases h;decide))<|Aj.Ai rfl (fun _=>rfl) rfl rfl (fun _ h=>by first|(cases h;done)|(cases h;decide))<|Aj.op (val:=fun p2=>(.bool false)) rfl rfl (fun _=>rfl) (fun _ p2 _ hx hf hy=>Ab.AA rfl rfl) rfl<|Aj.op (val:=fun p2=>(.bool false)) rfl rfl (fun _=>rfl) (fun _ p2 _ hx hf hy=>Ab.move rfl) rfl<|Aj.Ai rfl (fun _=>rfl) rfl rfl (fun _ h=>by first|(cases h;done)|(cases h;decide)) ?_
  refine Aj.Ai rfl (fun _=>rfl) rfl rfl (fun _ h=>by first|(cases h;done)|(cases h;decide))<|Aj.Ai rfl (fun _=>rfl) rfl rfl (fun _ h=>by first|(cases h;done)|(cases h;decide))<|Aj.op (val:=fun p2=>(.bool false)) rfl rfl (fun _=>rfl) (fun _ p2 _ hx hf hy=>Ab.AA rfl rfl) rfl<|Aj.op (val:=fun p2=>(.bool false)) rfl rfl (fun _=>rfl) (fun _ p2 _ hx hf hy=>Ab.move rfl) rfl<|Aj.Ai rfl (fun _=>rfl) rfl rfl (fun _ h=>by first|(cases h;done)|(cases h;decide))<|Aj.Ai rfl (fun _=>rfl) rfl rfl (fun _ h=>by first|(cases h;done)|(cases h;decide))<|Aj.Ai rfl (fun _=>rfl) rfl rfl (fun _ h=>by first|(cases h;done)|(cases h;decide))<|Aj.op (val:=fun p2=>(.bool false)) rfl rfl (fun _=>rfl) (fun _ p2 _ hx hf hy=>Ab.AA rfl rfl) rfl ?_
  refine Aj.op (val:=fun p2=>(.bool false)) rfl rfl (fun _=>rfl) (fun _ p2 _ hx hf hy=>Ab.move rfl) rfl<|Aj.Ai rfl (fun _=>rfl) rfl rfl (fun _ h=>by first|(cases h;done)|(cases h;decide))<|Aj.Ai rfl (fun _=>rfl) rfl rfl (fun _ h=>by first|(cases h;done)|(cases h;decide))<|Aj.op (val:=fun p2=>(.bool false)) rfl rfl (fun _=>rfl) (fun _ p2 _ hx hf hy=>Ab.AA rfl rfl) rfl<|Aj.op (val:=fun p2=>(.bool false)) rfl rfl (fun _=>rfl) (fun _ p2 _ hx hf hy=>Ab.move rfl) rfl<|Aj.Ai rfl (fun _=>rfl) rfl rfl (fun _ h=>by first|(cases h;done)|(cases h;decide))<|Aj.Ai rfl (fun _=>rfl) rfl rfl (fun _ h=>by first|(cases h;done)|(cases h;decide))<|Aj.op (val:=fun p2=>(.bool false)) rfl rfl (fun _=>rfl) (fun _ p2 _ hx hf hy=>Ab.AA rfl rfl) rfl ?_
  refine Aj.op (val:=fun p2=>(.bool false)) rfl rfl (fun _=>rfl) (fun _ p2 _ hx hf hy=>Ab.move rfl) rfl<|Aj.Ai rfl (fun _=>rfl) rfl rfl (fun _ h=>by first|(cases h;done)|(cases h;decide))<|Aj.Ai rfl (fun _=>rfl) rfl rfl (fun _ h=>by first|(cases h;done)|(cases h;decide))<|Aj.Ai rfl (fun _=>rfl) rfl rfl (fun _ h=>by first|(cases h;done)|(cases h;decide))<|Aj.Ai rfl (fun _=>rfl) rfl rfl (fun _ h=>by first|(cases h;done)|(cases h;decide))<|Aj.Ai rfl (fun _=>rfl) rfl rfl (fun _ h=>by first|(cases h;done)|(cases h;decide))<|Aj.op (val:=fun p2=>(.bool false)) rfl rfl (fun _=>rfl) (fun _ p2 _ hx hf hy=>Ab.AA rfl rfl) rfl<|Aj.op (val:=fun p2=>(.bool false)) rfl rfl (fun _=>rfl) (fun _ p2 _ hx hf hy=>Ab.assign rfl) rfl ?_
  refine Aj.done fun H19 p2 hl19 hF8=>?_
  have hf17:AW (cP cB (cL (cP AZ (cP AZ Ao)))) H19 x9 (Cv (p2 0) 0):=hF8 0
  have hf18:AW (cP cB (cL (cP AZ (cP AZ Ao)))) H19 x11 (Cv (p2 4) 0):=hF8 4
  refine At.sub (L':=[(0,(.bool false))]) (Sub.of rf) ?_
  refine At.own (O:= .AM B7 (.cells #[v13] 26 (0,0)):: .AM B6 (.cells #[v11] 26 (0,0)):: .AM B5 (.cells #[v9] 26 (0,0)):: .AM B4 (.cells #[v6] 26 (0,0)):: .AM B3 (.cells #[v4] 26 (0,0)):: .AM (BI (p1 8)) (.cells #[(Cv (Cv (p1 4) 0) 0)] 26 (0,0)):: .AM B2 (.cells #[(.int .i64 2),(Ak (word (fun _=>false) 0)),(Ak (17179869184#64)),(Ak (word (fun _=>false) 2)),(Ak (word (fun _=>false) 3)),(.slice none 0 0)] 37 (0,0))::O) ?_ (by first|rfl|(simp only[List.length_append,List.length_set];rfl)|simp)
  refine At.Ad<|Wp.ret ?_
  obtain rfl:=si hd
  exact At.q1 7 ((((((((((((hl1.trans hl2).trans hl3).trans hl4).trans hl5).trans hl6).trans hl7).trans hl8).trans hl9).trans hl10).trans hl11).trans hl12).trans hl19) rf (RV.tmp rf) rf
 replace hd:=Ft hg7 hd
 refine Aj.runK 7 [⟨[],[],[0]⟩,⟨[0],[],[]⟩,⟨[],[],[0]⟩,AU,AU,AU,AU,AU,AU,AU,AU,AU,AU,AU,AU,AU,AU,AU,AU,AU,AU,AU,AU,AU,AU,AU,AU,AU,AU,AU,AU,AU,AU,AU,AU,AU,AU,AU,AU] follows rfl (by kernel_rfl)<|Aj.T_ (val:=fun p2=>(.agg #[(Cv (p2 0) 0)])) (fact:=fun p2 HH=>AW (cP cB (cL (cP AZ (cP AZ Ao)))) HH x9 (Cv (p2 0) 0)) rfl (fun _=>rfl) (fun _=>rfl) (fun _ _ _ hl h=>h.mono hl) (fun _ p2 _ hx hf hy=>(BC.call LH rfl (GN hx9)).mono (by rintro v HH OO ⟨⟨v14,rfl,hv14⟩,rfl⟩;exact⟨rfl,hv14,rfl⟩)) rfl<|Aj.op (val:=fun p2=>(.agg #[v13])) rfl rfl (fun _=>rfl) (fun _ p2 _ hx hf hy=>Ab.AF (i:=0) Eo rfl A5 rfl rfl (hy 0 _ rfl rfl)) rfl<|Aj.op (val:=fun p2=>(.bool false)) rfl rfl (fun _=>rfl) (fun _ p2 _ hx hf hy=>Ab.Bg (b:=x10) (c:=false) (Ab.call Fq rfl (BK (a1:=([(true,([(0,255,0)]:List (Int×Int×Int)))]:List (Bool×(List (Int×Int×Int))))) (hf 0 rfl rfl) (hv13.mono hx) hx10)) hg7) rfl<|Aj.op (val:=fun p2=>(.bool false)) rfl rfl (fun _=>rfl) (fun _ p2 _ hx hf hy=>Ab.move rfl) rfl<|Aj.Ai rfl (fun _=>rfl) rfl rfl (fun _ h=>by first|(cases h;done)|(cases h;decide))<|Aj.Ai rfl (fun _=>rfl) rfl rfl (fun _ h=>by first|(cases h;done)|(cases h;decide))<|Aj.Ai rfl (fun _=>rfl) rfl rfl (fun _ h=>by first|(cases h;done)|(cases h;decide)) ?_
 refine Aj.Ai rfl (fun _=>rfl) rfl rfl (fun _ h=>by first|(cases h;done)|(cases h;decide))<|Aj.op (val:=fun p2=>(.bool false)) rfl rfl (fun _=>rfl) (fun _ p2 _ hx hf hy=>Ab.AA rfl rfl) rfl<|Aj.op (val:=fun p2=>(.bool false)) rfl rfl (fun _=>rfl) (fun _ p2 _ hx hf hy=>Ab.move rfl) rfl<|Aj.Ai rfl (fun _=>rfl) rfl rfl (fun _ h=>by first|(cases h;done)|(cases h;decide))<|Aj.Ai rfl (fun _=>rfl) rfl rfl (fun _ h=>by first|(cases h;done)|(cases h;decide))<|Aj.op (val:=fun p2=>(.bool false)) rfl rfl (fun _=>rfl) (fun _ p2 _ hx hf hy=>Ab.AA rfl rfl) rfl<|Aj.op (val:=fun p2=>(.bool false)) rfl rfl (fun _=>rfl) (fun _ p2 _ hx hf hy=>Ab.move rfl) rfl<|Aj.Ai rfl (fun _=>rfl) rfl rfl (fun _ h=>by first|(cases h;done)|(cases h;decide)) ?_
 refine Aj.Ai rfl (fun _=>rfl) rfl rfl (fun _ h=>by first|(cases h;done)|(cases h;decide))<|Aj.Ai rfl (fun _=>rfl) rfl rfl (fun _ h=>by first|(cases h;done)|(cases h;decide))<|Aj.op (val:=fun p2=>(.bool false)) rfl rfl (fun _=>rfl) (fun _ p2 _ hx hf hy=>Ab.AA rfl rfl) rfl<|Aj.op (val:=fun p2=>(.bool false)) rfl rfl (fun _=>rfl) (fun _ p2 _ hx hf hy=>Ab.move rfl) rfl<|Aj.Ai rfl (fun _=>rfl) rfl rfl (fun _ h=>by first|(cases h;done)|(cases h;decide))<|Aj.Ai rfl (fun _=>rfl) rfl rfl (fun _ h=>by first|(cases h;done)|(cases h;decide))<|Aj.Ai rfl (fun _=>rfl) rfl rfl (fun _ h=>by first|(cases h;done)|(cases h;decide))<|Aj.op (val:=fun p2=>(.bool false)) rfl rfl (fun _=>rfl) (fun _ p2 _ hx hf hy=>Ab.AA rfl rfl) rfl ?_
 refine Aj.op (val:=fun p2=>(.bool false)) rfl rfl (fun _=>rfl) (fun _ p2 _ hx hf hy=>Ab.move rfl) rfl<|Aj.Ai rfl (fun _=>rfl) rfl rfl (fun _ h=>by first|(cases h;done)|(cases h;decide))<|Aj.Ai rfl (fun _=>rfl) rfl rfl (fun _ h=>by first|(cases h;done)|(cases h;decide))<|Aj.op (val:=fun p2=>(.bool false)) rfl rfl (fun _=>rfl) (fun _ p2 _ hx hf hy=>Ab.AA rfl rfl) rfl<|Aj.op (val:=fun p2=>(.bool false)) rfl rfl (fun _=>rfl) (fun _ p2 _ hx hf hy=>Ab.move rfl) rfl<|Aj.Ai rfl (fun _=>rfl) rfl rfl (fun _ h=>by first|(cases h;done)|(cases h;decide))<|Aj.Ai rfl (fun _=>rfl) rfl rfl (fun _ h=>by first|(cases h;done)|(cases h;decide))<|Aj.op (val:=fun p2=>(.bool false)) rfl rfl (fun _=>rfl) (fun _ p2 _ hx hf hy=>Ab.AA rfl rfl) rfl ?_
 refine Aj.op (val:=fun p2=>(.bool false)) rfl rfl (fun _=>rfl) (fun _ p2 _ hx hf hy=>Ab.move rfl) rfl<|Aj.Ai rfl (fun _=>rfl) rfl rfl (fun _ h=>by first|(cases h;done)|(cases h;decide))<|Aj.Ai rfl (fun _=>rfl) rfl rfl (fun _ h=>by first|(cases h;done)|(cases h;decide))<|Aj.Ai rfl (fun _=>rfl) rfl rfl (fun _ h=>by first|(cases h;done)|(cases h;decide))<|Aj.Ai rfl (fun _=>rfl) rfl rfl (fun _ h=>by first|(cases h;done)|(cases h;decide))<|Aj.Ai rfl (fun _=>rfl) rfl rfl (fun _ h=>by first|(cases h;done)|(cases h;decide))<|Aj.op (val:=fun p2=>(.bool false)) rfl rfl (fun _=>rfl) (fun _ p2 _ hx hf hy=>Ab.AA rfl rfl) rfl<|Aj.op (val:=fun p2=>(.bool false)) rfl rfl (fun _=>rfl) (fun _ p2 _ hx hf hy=>Ab.assign rfl) rfl ?_
 refine Aj.done fun H20 p2 hl20 hF9=>?_
 have hf19:AW (cP cB (cL (cP AZ (cP AZ Ao)))) H20 x9 (Cv (p2 0) 0):=hF9 0
 refine At.sub (L':=[(0,(.bool false))]) (Sub.of rf) ?_
 refine At.own (O:= .AM B7 (.cells #[v13] 26 (0,0)):: .AM B6 (.cells #[v11] 26 (0,0)):: .AM B5 (.cells #[v9] 26 (0,0)):: .AM B4 (.cells #[v6] 26 (0,0)):: .AM B3 (.cells #[v4] 26 (0,0)):: .AM (BI (p1 8)) (.cells #[(Cv (Cv (p1 4) 0) 0)] 26 (0,0)):: .AM B2 (.cells #[(.int .i64 2),(Ak (word (fun _=>false) 0)),(Ak (17179869184#64)),(Ak (word (fun _=>false) 2)),(Ak (word (fun _=>false) 3)),(.slice none 0 0)] 37 (0,0))::O) ?_ (by first|rfl|(simp only[List.length_append,List.length_set];rfl)|simp)
 refine At.Ad<|Wp.ret ?_
 obtain rfl:=si hd
 exact At.q1 7 ((((((((((((hl1.trans hl2).trans hl3).trans hl4).trans hl5).trans hl6).trans hl7).trans hl8).trans hl9).trans hl10).trans hl11).trans hl12).trans hl20) rf (RV.tmp rf) rf
end Go.Proofs.YtjmbmodmepdmjaaGreatDoor
namespace Go.Proofs.YtjmbmodmepdmjaaGreatDoor
open Go.GK
theorem aq{X:Type}{enc:TypeId×Value→X}{w:World}{base:Nat}{spare:Nat→Bool}{held:Bool}(N:Nat):K2 enc Tryz.prog w base spare held N Ao 3:=K2.i64 Tryz.underlying3
theorem ZN{X:Type}{enc:TypeId×Value→X}{w:World}{base:Nat}{spare:Nat→Bool}{held:Bool}(N:Nat):K2 enc Tryz.prog w base spare held N IG 34:=K2.bs Tryz.underlying34 Tryz.underlying32 (by kernel_rfl) (by kernel_rfl)
theorem ZM{X:Type}{enc:TypeId×Value→X}{w:World}{base:Nat}{spare:Nat→Bool}{held:Bool}(N:Nat):K2 enc Tryz.prog w base spare held N Kc 37:=by
 refine K2.rx Tryz.underlying37 Tryz.underlying35 aq ZN rf rf rf rf rf rf (by kernel_rfl) (by kernel_rfl) (by kernel_rfl) (by kernel_rfl) N
theorem ZW:∃g t e,Tryz.prog.globalNamed "internal/strconv.uint64pow10" =some g∧(Tryz.prog.globals[g]?).map (·.type)=some t∧Tryz.prog.underlying t=some (.array 20 e)∧Tryz.prog.underlying e=some (.int .u64)∧Tryz.prog.cellsOf e=1∧Tryz.prog.cellsOf t=20:=⟨0,177,32,by kernel_rfl,by kernel_rfl,by kernel_rfl,by kernel_rfl,by kernel_rfl,by kernel_rfl⟩
theorem YM{W:World}(h:laidMetH Tryz.prog [("math/bits.deBruijn32tab",Rows.laid_math_bits_deBruijn32tab),("math/bits.deBruijn64tab",Rows.laid_math_bits_deBruijn64tab),("internal/strconv.uint64pow10",Rows.laid_internal_strconv_uint64pow10)] W):E1 Tryz.prog (Hp.of W):=by
 obtain⟨g,t,e,h1,h2,h3,h4,h5,h6⟩:=ZW
 exact E1.of h1 (Lib.tabIs_of_head h1 h2 h3 h4 h5 h6 (laidMet.tail (laidMet.tail h)))
end Go.Proofs.YtjmbmodmepdmjaaGreatDoor
namespace Go.GK
def Ev(fu:Nat)(a0:List (Bool×(List (Int×Int×Int))))(k249:Nat)(nx248:Nat→Option Bool)(x259:Bool×(List (Int×Int×Int)))(k343:Nat)(nx342:Nat→Option Bool):Option Bool:=
 bif decide (((k343:Nat):Int)<((x259.2.length:Nat):Int))then(AX (idx x259.2 ((k343:Nat):Int)) (fun x353=>bif decide (x353.2.1<x353.1)then(some false)else(bif decide (x353.2.2<0)then(some false)else(bif decide (((a0.length:Nat):Int)≤x353.2.2)then(some false)else(bif decide (0<((k343:Nat):Int))then(A0 (C0 (((k343:Nat):Int)-1)) (AX (idx x259.2 (((k343:Nat):Int)-1)) (fun x380=>bif decide (x353.1≤x380.2.1)then(some false)else(nx342 (k343+1)))))else(nx342 (k343+1)))))))else(nx248 (k249+1))
def Ew(fu:Nat)(a0:List (Bool×(List (Int×Int×Int))))(k249:Nat)(nx248:Nat→Option Bool):Option Bool:=
 bif decide (((k249:Nat):Int)<((a0.length:Nat):Int))then(AX (idx a0 ((k249:Nat):Int)) (fun x259=>Ax fu (Ev fu a0 k249 nx248 x259) 0))else(some true)
def FD(fu:Nat)(a0:List (Bool×(List (Int×Int×Int)))):Option Bool:=
 Ax fu (Ew fu a0) 0
def Ff(fu:Nat)(a2:Int)(x6:Bool×(List (Int×Int×Int)))(k38:Nat)(nx37:Nat→Option Int):Option Int:=
 bif decide (((k38:Nat):Int)<((x6.2.length:Nat):Int))then(AX (idx x6.2 ((k38:Nat):Int)) (fun x48=>bif decide (x48.1≤a2)then(bif decide (a2≤x48.2.1)then(some x48.2.2)else(nx37 (k38+1)))else(nx37 (k38+1))))else(some (-1))
def Ij(fu:Nat)(a0:List (Bool×(List (Int×Int×Int))))(a1:Int)(a2:Int):Option Int:=
 bif decide (a1<0)then(some (-1))else(AX (idx a0 a1) (fun x6=>Ax fu (Ff fu a2 x6) 0))
end Go.GK
namespace Go.Proofs.YtjmbmodmepdmjaaGreatDoor
open Go.GK
variable {H : Hp} {O : List Bj}
theorem La{fu:Nat}{a0:List (Bool×(List (Int×Int×Int)))}{v1:Value}{r:Bool}(hv1:AW (cP cB (cL (cP AZ (cP AZ Ao)))) H a0 v1)(hd:FD fu a0=some r):
    Ca Tryz.prog 16 [v1] H O (.bool r):=by
 intro w hs
 refine Bz Tryz.func16 rf rf rf ?_ hs
 clear hs w
 unfold FD at hd
 refine Wp.sr<|Aa.op (Ab.assign rf) rf<|Aa.Af<|Wp.seq<|Wp.sr<|Aa.op (Ab.move rf) rf ?_
 have hb1:=hv1.le
 refine Aa.op (Ab.len CG rf hv1.sl) rf<|Aa.op (Ab.move rf) rf<|Aa.Af<|Wp.block<|Wp.A_ (fun m LL HH OO=> ∃(k1:Nat),[(0,v1),(7,v1),(8,(.int .i64 (a0.length:Int))),(9,(.int .i64 (k1:Int)))]=LL∧O=OO∧Ax m (Ew fu a0) k1=some r) fu ⟨0,rf,rf,hd⟩ (Sub.of rf) ?_
 intro m1 L1 H1 O1 hl1 hI1
 obtain⟨k1,rfl,rfl,hd⟩:=hI1
 obtain⟨m2,nx1,rfl,hn1,hd⟩:=A9 hd
 replace hd:Ew fu a0 k1 nx1=some r:=hd
 unfold Ew at hd
 refine Wp.sr<|Aa.op (Ab.lss rf rf) rf<|Aa.Af<|Wp.seq ?_
 refine Wp.cond rf (fun hb2=>?_) (fun hb2=>?_)
 ·
  obtain⟨hb2,hd⟩:=bT hb2 hd
  refine Wp.skip<|At.Ad<|Wp.seq<|Wp.block<|Wp.seq ?_
  obtain⟨x1,hx1,hd⟩:=Ae hd
  have hx1_:=Ah hx1
  refine Wp.region ?_
  obtain⟨_,⟨_,_,rfl,rfl,⟨v2,rfl,hv2⟩⟩,hc1⟩:=AW.get (hv1.mono hl1) hx1
  refine Aa.op (Ab.Bo CG Bl rf (hv1.mono hl1).sl rf (Ah hx1)) rf<|Aa.op (Ab.C9 (vs:=[(.bool x1.1),v2]) NA rf Bl rf rf (fun j u hj=>(hc1 j u hj))) rf<|Aa.alloc (cs:= #[(.bool false),(.slice none 0 0)]) Bl rf rf fun B2=>Aa.AP (i:=0) (cs':= #[(.bool x1.1),v2]) rf rf Bl rf rf (Bc (Ac rf (Ac hv2.one (As)))) rf ?_
  refine Aa.own (O:=_::_) ?_ rf
  refine Aa.Af<|Wp.sr<|Aa.op (Ab.AV (o':=1) Bv rf rf) rf<|Aa.op (Ab.Am (i:=0) (v:=v2) CC rf rf rf rf) rf ?_
  have hb3:=hv2.le
  refine Aa.op (Ab.len CC rf hv2.sl) rf<|Aa.op (Ab.move rf) rf<|Aa.Af<|Wp.block<|Wp.A_ (fun m LL HH OO=> ∃(k2:Nat),[(0,v1),(4,(ptr B2 0)),(7,v1),(8,(.int .i64 (a0.length:Int))),(9,(.int .i64 (k1:Int))),(14,v2),(15,(.int .i64 (x1.2.length:Int))),(16,(.int .i64 (k2:Int)))]=LL∧ .AM B2 (.cells #[(.bool x1.1),v2] 43 (0,0))::O=OO∧Ax m (Ev fu a0 k1 nx1 x1) k2=some r) fu ⟨0,rf,rf,hd⟩ (Sub.of rf) ?_
  intro m3 L2 H2 O2 hl2 hI2
  obtain⟨k2,rfl,rfl,hd⟩:=hI2
  obtain⟨m4,nx2,rfl,hn2,hd⟩:=A9 hd
  replace hd:Ev fu a0 k1 nx1 x1 k2 nx2=some r:=hd
  unfold Ev at hd
  refine Wp.sr<|Aa.op (Ab.lss rf rf) rf<|Aa.Af<|Wp.seq ?_
  refine Wp.cond rf (fun hb4=>?_) (fun hb4=>?_)
  ·
   obtain⟨hb4,hd⟩:=bT hb4 hd
   refine Wp.skip<|At.Ad<|Wp.seq<|Wp.block<|Wp.seq ?_
   obtain⟨x2,hx2,hd⟩:=Ae hd
   have hx2_:=Ah hx2
   refine Wp.region<|Aa.op (Ab.move rf) rf ?_
   obtain⟨_,⟨_,_,rfl,⟨rfl,hr1,hr2⟩,⟨_,_,rfl,⟨rfl,hr3,hr4⟩,rfl⟩⟩,hc2⟩:=AW.get (hv2.mono hl2) hx2
   refine Aa.op (Ab.Bo CC BA rf (hv2.mono hl2).sl rf (Ah hx2)) rf<|Aa.op (Ab.C9 (vs:=[(.int .u8 x2.1),(.int .u8 x2.2.1),(.int .i64 x2.2.2)]) QS rf BA rf rf (fun j u hj=>(hc2 j u hj))) rf<|Aa.alloc (cs:= #[(.int .u8 0),(.int .u8 0),(.int .i64 0)]) BA rf rf fun B3=>Aa.op (Ab.assign rf) rf<|Aa.AP (i:=0) (cs':= #[(.int .u8 x2.1),(.int .u8 x2.2.1),(.int .i64 x2.2.2)]) rf rf BA rf rf (Bc (Ac rf (Ac rf (Ac rf (As))))) rf ?_
   refine Aa.own (O:=_::_::_) ?_ rf
   refine Aa.Af<|Wp.seq ?_
   rcases Bool.eq_false_or_eq_true (decide (x2.2.1<x2.1))with hg1|hg1
   ·
    obtain⟨hg1_,hd⟩:=bT hg1 hd
    refine Wp.CV 33 follows rf (by kernel_rfl)<|Ag.A6 (Ab.AV (o':=0) Dg rf rf) rf<|Ag.A6 (Ab.Am (i:=0) (v:=(.int .u8 x2.1)) u5 rf rf rf rf) rf<|Ag.A6 (Ab.AV (o':=1) C_ rf rf) rf<|Ag.A6 (Ab.Am (i:=0) (v:=(.int .u8 x2.2.1)) u5 rf rf rf rf) rf<|Ag.A6 (Ab.Bg (b:=decide (x2.2.1<x2.1)) (c:=true) (Ab.gtr rf rf) hg1) rf<|Ag.A6 (Ab.move rf) rf<|Ag.Aw rf rf rf rf ?_
    refine Ag.Aw rf rf rf rf<|Ag.Aw rf rf rf rf<|Ag.A6 (Ab.AK rf rf) rf<|Ag.A6 (Ab.move rf) rf<|Ag.Aw rf rf rf rf<|Ag.Aw rf rf rf rf<|Ag.Aw rf rf rf rf<|Ag.Aw rf rf rf rf ?_
    refine Ag.Aw rf rf rf rf<|Ag.A6 (Ab.AK rf rf) rf<|Ag.A6 (Ab.move rf) rf<|Ag.Aw rf rf rf rf<|Ag.Aw rf rf rf rf<|Ag.Aw rf rf rf rf<|Ag.Bh rf rf rf<|Ag.Bh rf rf rf ?_
    refine Ag.Bh rf rf rf<|Ag.Bh rf rf rf<|Ag.Bh rf rf rf<|Ag.Bh rf rf rf<|Ag.Bh rf rf rf<|Ag.Bh rf rf rf<|Ag.Bh rf rf rf<|Ag.Bh rf rf rf ?_
    refine Ag.Aw rf rf rf rf<|Ag.A6 (Ab.AK rf rf) rf<|Ag.CW<|Ap.is (t:=0) rf<|Ap.is (t:=4) rf<|Ap.is (t:=7) rf<|Ap.is (t:=8) rf<|Ap.is (t:=9) rf ?_
    refine Ap.is (t:=14) rf<|Ap.is (t:=15) rf<|Ap.is (t:=16) rf<|Ap.is (t:=53) rf<|Ap.JB<|Aa.Af<|Wp.D_ rf<|Wp.sr ?_
    refine Aa.op (Ab.assign rf) rf<|Aa.Af<|Wp.ret<|At.Be<|At.Av<|At.Av<|At.Be<|At.Be ?_
    refine At.Av<|At.Av<|At.Be<|At.Av ?_
    obtain rfl:=si hd
    exact At.q1 2 (hl1.trans hl2) rf (RV.tmp rf) rf
   obtain⟨hg1_,hd⟩:=bF hg1 hd
   rcases Bool.eq_false_or_eq_true (decide (x2.2.2<0))with hg2|hg2
   ·
    obtain⟨hg2_,hd⟩:=bT hg2 hd
    refine Wp.CV 33 follows rf (by kernel_rfl)<|Ag.A6 (Ab.AV (o':=0) Dg rf rf) rf<|Ag.A6 (Ab.Am (i:=0) (v:=(.int .u8 x2.1)) u5 rf rf rf rf) rf<|Ag.A6 (Ab.AV (o':=1) C_ rf rf) rf<|Ag.A6 (Ab.Am (i:=0) (v:=(.int .u8 x2.2.1)) u5 rf rf rf rf) rf<|Ag.A6 (Ab.Bg (b:=decide (x2.2.1<x2.1)) (c:=false) (Ab.gtr rf rf) hg1) rf<|Ag.A6 (Ab.move rf) rf<|Ag.AY rf rf (Ab.AV (o':=2) CI rf rf) rf ?_
    refine Ag.AY rf rf (Ab.Am (i:=0) (v:=(.int .i64 x2.2.2)) u3 rf rf rf rf) rf<|Ag.AY rf rf (Ab.Bg (b:=decide (x2.2.2<0)) (c:=true) (Ab.lss rf rf) hg2) rf<|Ag.A6 (Ab.AA rf rf) rf<|Ag.A6 (Ab.move rf) rf<|Ag.Aw rf rf rf rf<|Ag.Aw rf rf rf rf<|Ag.Aw rf rf rf rf<|Ag.Aw rf rf rf rf ?_
    refine Ag.Aw rf rf rf rf<|Ag.A6 (Ab.AK rf rf) rf<|Ag.A6 (Ab.move rf) rf<|Ag.Aw rf rf rf rf<|Ag.Aw rf rf rf rf<|Ag.Aw rf rf rf rf<|Ag.Bh rf rf rf<|Ag.Bh rf rf rf ?_
    refine Ag.Bh rf rf rf<|Ag.Bh rf rf rf<|Ag.Bh rf rf rf<|Ag.Bh rf rf rf<|Ag.Bh rf rf rf<|Ag.Bh rf rf rf<|Ag.Bh rf rf rf<|Ag.Bh rf rf rf ?_
    refine Ag.Aw rf rf rf rf<|Ag.A6 (Ab.AK rf rf) rf<|Ag.CW<|Ap.is (t:=0) rf<|Ap.is (t:=4) rf<|Ap.is (t:=7) rf<|Ap.is (t:=8) rf<|Ap.is (t:=9) rf ?_
    refine Ap.is (t:=14) rf<|Ap.is (t:=15) rf<|Ap.is (t:=16) rf<|Ap.is (t:=53) rf<|Ap.JB<|Aa.Af<|Wp.D_ rf<|Wp.sr ?_
    refine Aa.op (Ab.assign rf) rf<|Aa.Af<|Wp.ret<|At.Be<|At.Av<|At.Av<|At.Be<|At.Be ?_
    refine At.Av<|At.Av<|At.Be<|At.Av ?_
    obtain rfl:=si hd
    exact At.q1 2 (hl1.trans hl2) rf (RV.tmp rf) rf
   obtain⟨hg2_,hd⟩:=bF hg2 hd
   rcases Bool.eq_false_or_eq_true (decide ((a0.length:Int)≤x2.2.2))with hg3|hg3
   ·
    obtain⟨hg3_,hd⟩:=bT hg3 hd
    have hb5:=hv1.le
    refine Wp.CV 33 follows rf (by kernel_rfl)<|Ag.A6 (Ab.AV (o':=0) Dg rf rf) rf<|Ag.A6 (Ab.Am (i:=0) (v:=(.int .u8 x2.1)) u5 rf rf rf rf) rf<|Ag.A6 (Ab.AV (o':=1) C_ rf rf) rf<|Ag.A6 (Ab.Am (i:=0) (v:=(.int .u8 x2.2.1)) u5 rf rf rf rf) rf<|Ag.A6 (Ab.Bg (b:=decide (x2.2.1<x2.1)) (c:=false) (Ab.gtr rf rf) hg1) rf<|Ag.A6 (Ab.move rf) rf<|Ag.AY rf rf (Ab.AV (o':=2) CI rf rf) rf ?_
    refine Ag.AY rf rf (Ab.Am (i:=0) (v:=(.int .i64 x2.2.2)) u3 rf rf rf rf) rf<|Ag.AY rf rf (Ab.Bg (b:=decide (x2.2.2<0)) (c:=false) (Ab.lss rf rf) hg2) rf<|Ag.A6 (Ab.AA rf rf) rf<|Ag.A6 (Ab.move rf) rf<|Ag.AY rf rf (Ab.AV (o':=2) CI rf rf) rf<|Ag.AY rf rf (Ab.Am (i:=0) (v:=(.int .i64 x2.2.2)) u3 rf rf rf rf) rf<|Ag.AY rf rf (Ab.move rf) rf<|Ag.AY rf rf (Ab.len CG rf (hv1.mono (hl1.trans hl2)).sl) rf ?_
    refine Ag.AY rf rf (Ab.Bg (b:=decide ((a0.length:Int)≤x2.2.2)) (c:=true) (Ab.geq rf rf) hg3) rf<|Ag.A6 (Ab.AA rf rf) rf<|Ag.A6 (Ab.move rf) rf<|Ag.Aw rf rf rf rf<|Ag.Aw rf rf rf rf<|Ag.Aw rf rf rf rf<|Ag.Bh rf rf rf<|Ag.Bh rf rf rf ?_
    refine Ag.Bh rf rf rf<|Ag.Bh rf rf rf<|Ag.Bh rf rf rf<|Ag.Bh rf rf rf<|Ag.Bh rf rf rf<|Ag.Bh rf rf rf<|Ag.Bh rf rf rf<|Ag.Bh rf rf rf ?_
    refine Ag.Aw rf rf rf rf<|Ag.A6 (Ab.AK rf rf) rf<|Ag.CW<|Ap.is (t:=0) rf<|Ap.is (t:=4) rf<|Ap.is (t:=7) rf<|Ap.is (t:=8) rf<|Ap.is (t:=9) rf ?_
    refine Ap.is (t:=14) rf<|Ap.is (t:=15) rf<|Ap.is (t:=16) rf<|Ap.is (t:=53) rf<|Ap.JB<|Aa.Af<|Wp.D_ rf<|Wp.sr ?_
    refine Aa.op (Ab.assign rf) rf<|Aa.Af<|Wp.ret<|At.Be<|At.Av<|At.Av<|At.Be<|At.Be ?_
    refine At.Av<|At.Av<|At.Be<|At.Av ?_
    obtain rfl:=si hd
    exact At.q1 2 (hl1.trans hl2) rf (RV.tmp rf) rf
   obtain⟨hg3_,hd⟩:=bF hg3 hd
   rcases Bool.eq_false_or_eq_true (decide (0<(k2:Int)))with hg4|hg4
   ·
    obtain⟨hg4_,hd⟩:=bT hg4 hd
    obtain⟨ha1,hd⟩:=Al hd
    obtain⟨x3,hx3,hd⟩:=Ae hd
    have hx3_:=Ah hx3
    have hb5:=hv1.le
    obtain⟨_,⟨_,_,rfl,⟨rfl,hr5,hr6⟩,⟨_,_,rfl,⟨rfl,hr7,hr8⟩,rfl⟩⟩,hc3⟩:=AW.get (hv2.mono hl2) hx3
    refine Wp.CV 33 follows rf (by kernel_rfl)<|Ag.A6 (Ab.AV (o':=0) Dg rf rf) rf<|Ag.A6 (Ab.Am (i:=0) (v:=(.int .u8 x2.1)) u5 rf rf rf rf) rf<|Ag.A6 (Ab.AV (o':=1) C_ rf rf) rf<|Ag.A6 (Ab.Am (i:=0) (v:=(.int .u8 x2.2.1)) u5 rf rf rf rf) rf<|Ag.A6 (Ab.Bg (b:=decide (x2.2.1<x2.1)) (c:=false) (Ab.gtr rf rf) hg1) rf<|Ag.A6 (Ab.move rf) rf<|Ag.AY rf rf (Ab.AV (o':=2) CI rf rf) rf ?_
    refine Ag.AY rf rf (Ab.Am (i:=0) (v:=(.int .i64 x2.2.2)) u3 rf rf rf rf) rf<|Ag.AY rf rf (Ab.Bg (b:=decide (x2.2.2<0)) (c:=false) (Ab.lss rf rf) hg2) rf<|Ag.A6 (Ab.AA rf rf) rf<|Ag.A6 (Ab.move rf) rf<|Ag.AY rf rf (Ab.AV (o':=2) CI rf rf) rf<|Ag.AY rf rf (Ab.Am (i:=0) (v:=(.int .i64 x2.2.2)) u3 rf rf rf rf) rf<|Ag.AY rf rf (Ab.move rf) rf<|Ag.AY rf rf (Ab.len CG rf (hv1.mono (hl1.trans hl2)).sl) rf ?_
    refine Ag.AY rf rf (Ab.Bg (b:=decide ((a0.length:Int)≤x2.2.2)) (c:=false) (Ab.geq rf rf) hg3) rf<|Ag.A6 (Ab.AA rf rf) rf<|Ag.A6 (Ab.move rf) rf<|Ag.AY rf rf (Ab.move rf) rf<|Ag.AY rf rf (Ab.Bg (b:=decide (0<(k2:Int))) (c:=true) (Ab.gtr rf rf) hg4) rf<|Ag.AY rf rf (Ab.move rf) rf<|Ag.AY rf rf (Ab.AV (o':=1) Bv rf rf) rf<|Ag.AY rf rf (Ab.Am (i:=1) (v:=v2) CC rf rf rf rf) rf ?_
    refine Ag.AY rf rf (Ab.move rf) rf<|Ag.AY rf rf (Ab.sub rf rf (Aq ha1)) rf<|Ag.AY rf rf (Ab.Bo CC BA rf (hv2.mono hl2).sl rf (Ah hx3)) rf<|Ag.AY rf rf (Ab.Nr C_ rf (hv2.mono hl2).sl (by omega)) rf<|Ag.AY rf rf (Ab.FJ u5 rf rf (hc3 1 _ rf)) rf<|Ag.AY rf rf (Ab.AV (o':=0) Dg rf rf) rf<|Ag.AY rf rf (Ab.Am (i:=0) (v:=(.int .u8 x2.1)) u5 rf rf rf rf) rf<|Ag.AY rf rf (Ab.geq rf rf) rf ?_
    refine Ag.AY rf rf (Ab.AK rf rf) rf<|Ag.A6 (Ab.AA rf rf) rf<|Ag.CW<|Ap.is (t:=0) rf<|Ap.is (t:=4) rf<|Ap.is (t:=7) rf<|Ap.is (t:=8) rf<|Ap.is (t:=9) rf ?_
    refine Ap.is (t:=14) rf<|Ap.is (t:=15) rf<|Ap.is (t:=16) rf<|Ap.is (t:=53) rf<|Ap.JB<|Aa.Af ?_
    refine Wp.cond rf (fun hb6=>?_) (fun hb6=>?_)
    ·
     obtain⟨hb6,hd⟩:=bT hb6 hd
     refine Wp.sr<|Aa.op (Ab.assign rf) rf<|Aa.Af<|Wp.ret<|At.Be<|At.Av<|At.Av<|At.Be ?_
     refine At.Be<|At.Av<|At.Av<|At.Be<|At.Av ?_
     obtain rfl:=si hd
     exact At.q1 2 (hl1.trans hl2) rf (RV.tmp rf) rf
    obtain⟨hb6,hd⟩:=bF hb6 hd
    refine Wp.skip<|At.AE<|At.Ad<|Wp.region<|Aa.op (Ab.add rf rf (Aq (by omega))) rf<|Aa.op (Ab.move rf) rf<|Aa.nil<|At.AR [1] 2 rf rf rf ?_
    refine At.AO (Hp.le.refl _) ⟨(k2+1),rf,rf,(by rw[←hn2];exact hd)⟩ (Sub.of rf)
   obtain⟨hg4_,hd⟩:=bF hg4 hd
   have hb5:=hv1.le
   refine Wp.CV 33 follows rf (by kernel_rfl)<|Ag.A6 (Ab.AV (o':=0) Dg rf rf) rf<|Ag.A6 (Ab.Am (i:=0) (v:=(.int .u8 x2.1)) u5 rf rf rf rf) rf<|Ag.A6 (Ab.AV (o':=1) C_ rf rf) rf<|Ag.A6 (Ab.Am (i:=0) (v:=(.int .u8 x2.2.1)) u5 rf rf rf rf) rf<|Ag.A6 (Ab.Bg (b:=decide (x2.2.1<x2.1)) (c:=false) (Ab.gtr rf rf) hg1) rf<|Ag.A6 (Ab.move rf) rf<|Ag.AY rf rf (Ab.AV (o':=2) CI rf rf) rf ?_
   refine Ag.AY rf rf (Ab.Am (i:=0) (v:=(.int .i64 x2.2.2)) u3 rf rf rf rf) rf<|Ag.AY rf rf (Ab.Bg (b:=decide (x2.2.2<0)) (c:=false) (Ab.lss rf rf) hg2) rf<|Ag.A6 (Ab.AA rf rf) rf<|Ag.A6 (Ab.move rf) rf<|Ag.AY rf rf (Ab.AV (o':=2) CI rf rf) rf<|Ag.AY rf rf (Ab.Am (i:=0) (v:=(.int .i64 x2.2.2)) u3 rf rf rf rf) rf<|Ag.AY rf rf (Ab.move rf) rf<|Ag.AY rf rf (Ab.len CG rf (hv1.mono (hl1.trans hl2)).sl) rf ?_
   refine Ag.AY rf rf (Ab.Bg (b:=decide ((a0.length:Int)≤x2.2.2)) (c:=false) (Ab.geq rf rf) hg3) rf<|Ag.A6 (Ab.AA rf rf) rf<|Ag.A6 (Ab.move rf) rf<|Ag.AY rf rf (Ab.move rf) rf<|Ag.AY rf rf (Ab.Bg (b:=decide (0<(k2:Int))) (c:=false) (Ab.gtr rf rf) hg4) rf<|Ag.AY rf rf (Ab.move rf) rf<|Ag.Aw rf rf rf rf<|Ag.Aw rf rf rf rf ?_
   refine Ag.Aw rf rf rf rf<|Ag.Aw rf rf rf rf<|Ag.Aw rf rf rf rf<|Ag.Aw rf rf rf rf<|Ag.Aw rf rf rf rf<|Ag.Aw rf rf rf rf<|Ag.Aw rf rf rf rf<|Ag.Aw rf rf rf rf ?_
   refine Ag.AY rf rf (Ab.AA rf rf) rf<|Ag.A6 (Ab.AA rf rf) rf<|Ag.CW<|Ap.is (t:=0) rf<|Ap.is (t:=4) rf<|Ap.is (t:=7) rf<|Ap.is (t:=8) rf<|Ap.is (t:=9) rf ?_
   refine Ap.is (t:=14) rf<|Ap.is (t:=15) rf<|Ap.is (t:=16) rf<|Ap.is (t:=53) rf<|Ap.JB<|Aa.Af<|Wp.C2 rf<|Wp.skip ?_
   refine At.AE<|At.Ad<|Wp.region<|Aa.op (Ab.add rf rf (Aq (by omega))) rf<|Aa.op (Ab.move rf) rf<|Aa.nil<|At.AR [1] 2 rf rf rf ?_
   refine At.AO (Hp.le.refl _) ⟨(k2+1),rf,rf,(by rw[←hn2];exact hd)⟩ (Sub.of rf)
  obtain⟨hb4,hd⟩:=bF hb4 hd
  refine Wp.exit<|At.An<|At.An<|At.Az<|At.AE<|At.Ad<|Wp.region<|Aa.op (Ab.add rf rf (Aq (by omega))) rf ?_
  refine Aa.op (Ab.move rf) rf<|Aa.nil<|At.AR [] 1 rf rf rf ?_
  refine At.AO hl2 ⟨(k1+1),rf,rf,(by rw[←hn1];exact hd)⟩ (Sub.of rf)
 obtain⟨hb2,hd⟩:=bF hb2 hd
 refine Wp.exit<|At.An<|At.An<|At.Az<|At.Ad<|Wp.sr<|Aa.op (Ab.assign rf) rf<|Aa.Af ?_
 refine Wp.ret ?_
 obtain rfl:=si hd
 exact At.q1 0 hl1 rf (RV.tmp rf) rf
theorem Mz{fu:Nat}{a0:List (Bool×(List (Int×Int×Int)))}{a1:Int}{a2:Int}{v1:Value}{r:Int}(hv1:AW (cP cB (cL (cP AZ (cP AZ Ao)))) H a0 v1)(hr1:0≤a2)(hr2:a2≤255)(hd:Ij fu a0 a1 a2=some r):
    Ca Tryz.prog 32 [v1,(.int .i64 a1),(.int .u8 a2)] H O (.int .i64 r):=by
 intro w hs
 refine Bz Tryz.func32 rf rf rf ?_ hs
 clear hs w
 unfold Ij at hd
 refine Wp.sr<|Aa.op (Ab.assign rf) rf<|Aa.Af<|Wp.seq<|Wp.sr<|Aa.op (Ab.move rf) rf<|Aa.op (Ab.lss rf rf) rf<|Aa.Af ?_
 refine Wp.cond rf (fun hb1=>?_) (fun hb1=>?_)
 ·
  obtain⟨hb1,hd⟩:=bT hb1 hd
  refine Wp.sr<|Aa.op (Ab.assign rf) rf<|Aa.Af<|Wp.ret<|At.Av ?_
  obtain rfl:=si hd
  exact At.q1 0 (Hp.le.refl _) rf (RV.tmp rf) rf
 obtain⟨hb1,hd⟩:=bF hb1 hd
 refine Wp.skip<|At.Ad<|Wp.seq<|Wp.seq ?_
 obtain⟨x1,hx1,hd⟩:=Ae hd
 have hx1_:=Ah hx1
 refine Wp.region<|Aa.op (Ab.move rf) rf<|Aa.op (Ab.move rf) rf ?_
 obtain⟨_,⟨_,_,rfl,rfl,⟨v2,rfl,hv2⟩⟩,hc1⟩:=AW.get hv1 hx1
 refine Aa.op (Ab.Bo CG Bl rf hv1.sl rf (Ah hx1)) rf<|Aa.op (Ab.Nr Bv rf hv1.sl (by omega)) rf<|Aa.op (Ab.FJ CC rf rf (hc1 1 _ rf)) rf ?_
 have hb2:=hv2.le
 refine Aa.op (Ab.len CC rf hv2.sl) rf<|Aa.op (Ab.move rf) rf<|Aa.Af<|Wp.block<|Wp.A_ (fun m LL HH OO=> ∃(k1:Nat),[(2,(.int .u8 a2)),(15,v2),(16,(.int .i64 (x1.2.length:Int))),(17,(.int .i64 (k1:Int)))]=LL∧O=OO∧Ax m (Ff fu a2 x1) k1=some r) fu ⟨0,rf,rf,hd⟩ (Sub.of rf) ?_
 intro m1 L1 H1 O1 hl1 hI1
 obtain⟨k1,rfl,rfl,hd⟩:=hI1
 obtain⟨m2,nx1,rfl,hn1,hd⟩:=A9 hd
 replace hd:Ff fu a2 x1 k1 nx1=some r:=hd
 unfold Ff at hd
 refine Wp.sr<|Aa.op (Ab.lss rf rf) rf<|Aa.Af<|Wp.seq ?_
 refine Wp.cond rf (fun hb3=>?_) (fun hb3=>?_)
 ·
  obtain⟨hb3,hd⟩:=bT hb3 hd
  refine Wp.skip<|At.Ad<|Wp.seq<|Wp.block<|Wp.seq ?_
  obtain⟨x2,hx2,hd⟩:=Ae hd
  have hx2_:=Ah hx2
  refine Wp.region ?_
  obtain⟨_,⟨_,_,rfl,⟨rfl,hr3,hr4⟩,⟨_,_,rfl,⟨rfl,hr5,hr6⟩,rfl⟩⟩,hc2⟩:=AW.get (hv2.mono hl1) hx2
  refine Aa.op (Ab.Bo CC BA rf (hv2.mono hl1).sl rf (Ah hx2)) rf<|Aa.op (Ab.C9 (vs:=[(.int .u8 x2.1),(.int .u8 x2.2.1),(.int .i64 x2.2.2)]) QS rf BA rf rf (fun j u hj=>(hc2 j u hj))) rf<|Aa.alloc (cs:= #[(.int .u8 0),(.int .u8 0),(.int .i64 0)]) BA rf rf fun B2=>Aa.AP (i:=0) (cs':= #[(.int .u8 x2.1),(.int .u8 x2.2.1),(.int .i64 x2.2.2)]) rf rf BA rf rf (Bc (Ac rf (Ac rf (Ac rf (As))))) rf ?_
  refine Aa.own (O:=_::_) ?_ rf
  refine Aa.Af<|Wp.seq ?_
  rcases Bool.eq_false_or_eq_true (decide (x2.1≤a2))with hg1|hg1
  ·
   obtain⟨hg1_,hd⟩:=bT hg1 hd
   refine Wp.region<|Aa.op (Ab.AV (o':=0) Dg rf rf) rf<|Aa.op (Ab.Am (i:=0) (v:=(.int .u8 x2.1)) u5 rf rf rf rf) rf<|Aa.op (Ab.move rf) rf<|Aa.op (Ab.Bg (b:=decide (x2.1≤a2)) (c:=true) (Ab.leq rf rf) hg1) rf<|Aa.op (Ab.move rf) rf<|Aa.Ay rf rf (Ab.move rf) rf<|Aa.Ay rf rf (Ab.AV (o':=1) C_ rf rf) rf ?_
   refine Aa.Ay rf rf (Ab.Am (i:=0) (v:=(.int .u8 x2.2.1)) u5 rf rf rf rf) rf<|Aa.Ay rf rf (Ab.leq rf rf) rf<|Aa.op (Ab.AK rf rf) rf<|Aa.Af ?_
   refine Wp.cond rf (fun hb4=>?_) (fun hb4=>?_)
   ·
    obtain⟨hb4,hd⟩:=bT hb4 hd
    refine Wp.sr<|Aa.op (Ab.AV (o':=2) CI rf rf) rf<|Aa.op (Ab.Am (i:=0) (v:=(.int .i64 x2.2.2)) u3 rf rf rf rf) rf<|Aa.op (Ab.assign rf) rf<|Aa.Af<|Wp.ret<|At.Be<|At.Av ?_
    refine At.Av<|At.Be<|At.Av ?_
    obtain rfl:=si hd
    exact At.q1 1 hl1 rf (RV.tmp rf) rf
   obtain⟨hb4,hd⟩:=bF hb4 hd
   refine Wp.skip<|At.AE<|At.Ad<|Wp.region<|Aa.op (Ab.add rf rf (Aq (by omega))) rf<|Aa.op (Ab.move rf) rf<|Aa.nil<|At.AR [] 1 rf rf rf ?_
   refine At.AO (Hp.le.refl _) ⟨(k1+1),rf,rf,(by rw[←hn1];exact hd)⟩ (Sub.of rf)
  obtain⟨hg1_,hd⟩:=bF hg1 hd
  refine Wp.region<|Aa.op (Ab.AV (o':=0) Dg rf rf) rf<|Aa.op (Ab.Am (i:=0) (v:=(.int .u8 x2.1)) u5 rf rf rf rf) rf<|Aa.op (Ab.move rf) rf<|Aa.op (Ab.Bg (b:=decide (x2.1≤a2)) (c:=false) (Ab.leq rf rf) hg1) rf<|Aa.op (Ab.move rf) rf<|Aa.Ai rf rf rf rf<|Aa.Ai rf rf rf rf ?_
  refine Aa.Ai rf rf rf rf<|Aa.Ai rf rf rf rf<|Aa.op (Ab.AA rf rf) rf<|Aa.Af<|Wp.C2 rf<|Wp.skip<|At.AE<|At.Ad ?_
  refine Wp.region<|Aa.op (Ab.add rf rf (Aq (by omega))) rf<|Aa.op (Ab.move rf) rf<|Aa.nil<|At.AR [] 1 rf rf rf ?_
  refine At.AO (Hp.le.refl _) ⟨(k1+1),rf,rf,(by rw[←hn1];exact hd)⟩ (Sub.of rf)
 obtain⟨hb3,hd⟩:=bF hb3 hd
 refine Wp.exit<|At.An<|At.An<|At.Az<|At.Ad<|Wp.sr<|Aa.op (Ab.assign rf) rf<|Aa.Af ?_
 refine Wp.ret ?_
 obtain rfl:=si hd
 exact At.q1 0 hl1 rf (RV.tmp rf) rf
end Go.Proofs.YtjmbmodmepdmjaaGreatDoor
namespace Go.GK
def Gn(fu:Nat)(k190:Nat)(nx186:((List Bool)×Nat)→Option (List Int))(x200:Bool×(List (Int×Int×Int)))(l258:List Bool)(k261:Nat)(nx257:((List Bool)×Nat)→Option (List Int)):Option (List Int):=
 bif decide (((k261:Nat):Int)<((x200.2.length:Nat):Int))then(AX (idx x200.2 ((k261:Nat):Int)) (fun x271=>AX (idx l258 x271.1) (fun x279=>A0 (C0 (x271.2.1+1)) (AX (idx (l258.set x271.1.toNat true) (x271.2.1+1)) (fun x286=>nx257 ((l258.set x271.1.toNat true).set ((x271.2.1+1).toNat) true,k261+1))))))else(nx186 (l258,k190+1))
def Gm(fu:Nat)(l187:List Bool)(l327:List Int)(k331:Nat)(nx326:((List Int)×Nat)→Option (List Int)):Option (List Int):=
 bif decide (((k331:Nat):Int)<256)then(AX (idx l187 ((k331:Nat):Int)) (fun x341=>bif x341 then(A0 (l327.length+([((k331:Nat):Int)]:List Int).length≤AH) (nx326 (l327++([((k331:Nat):Int)]:List Int),k331+1)))else(nx326 (l327,k331+1))))else(some l327)
def Gp(fu:Nat)(a0:List (Bool×(List (Int×Int×Int))))(l187:List Bool)(k190:Nat)(nx186:((List Bool)×Nat)→Option (List Int)):Option (List Int):=
 bif decide (((k190:Nat):Int)<((a0.length:Nat):Int))then(AX (idx a0 ((k190:Nat):Int)) (fun x200=>Ax fu (fun p nx=>Gn fu k190 nx186 x200 p.1 p.2 nx) (l187,0)))else(Ax fu (fun p nx=>Gm fu l187 p.1 p.2 nx) (([]:List Int),0))
def IJ(fu:Nat)(a0:List (Bool×(List (Int×Int×Int)))):Option (List Int):=
 AX (idx (List.replicate 257 false:List Bool) 0) (fun x6=>Ax fu (fun p nx=>Gp fu a0 p.1 p.2 nx) ((List.replicate 257 false:List Bool).set 0 true,0))
end Go.GK
namespace Go.Proofs.YtjmbmodmepdmjaaGreatDoor
open Go.GK
variable {H : Hp} {O : List Bj}
theorem OI{fu:Nat}{a0:List (Bool×(List (Int×Int×Int)))}{v1:Value}{r:List Int}(hv1:AW (cP cB (cL (cP AZ (cP AZ Ao)))) H a0 v1)(hd:IJ fu a0=some r):
    ED Tryz.prog 30 [v1] H O (fun v H' O'=> ∃(v1:Value) (xs1:List Value),v1=v∧Au Ao H' r xs1∧ .row v1 3 1 r.length xs1::O=O'):=by
 intro w hs
 refine Bz Tryz.func30 rf rf rf ?_ hs
 clear hs w
 unfold IJ at hd
 refine Wp.sr<|Aa.op (Ab.assign rf) rf<|Aa.Af<|Wp.sr<|Aa.alloc (cs:=(List.replicate 257 (.bool false)).toArray) Ym rf rf fun B2=>?_
 have hq1:Au cB H (List.replicate 257 false:List Bool) ((List.replicate 257 (.bool false)).toArray).toList:=Au.Xy rfl 257
 refine Aa.Af<|Wp.seq ?_
 obtain⟨x1,hx1,hd⟩:=Ae hd
 refine Wp.region ?_
 obtain⟨_,rfl,hc1,hc1_⟩:=Au.get hq1 (AG hx1).2
 have hn1:=Au.Qm hq1 (RH 257 _)
 refine Aa.op (Ab.El (off':=0*1) WS ES rf rf (by have:=Ah hx1;simp only[cB,Ao,AZ]at hn1;omega) (by simp)) rf ?_
 refine Aa.Ye (q:=0) (y:=true) (i:=0) hq1 (RH 257 _) (Ah hx1) rf rf rf ES rf (rf) (fun cs1 hq2=>?_)
 refine Aa.Af<|Wp.seq<|Wp.sr<|Aa.op (Ab.move rf) rf ?_
 have hb1:=hv1.le
 refine Aa.op (Ab.len CG rf hv1.sl) rf<|Aa.op (Ab.move rf) rf<|Aa.Af<|Wp.block<|Wp.A_ (fun m LL HH OO=> ∃(l1:List Bool),∃(k1:Nat),∃(cs2:Array Value),[(3,(ptr B2 0)),(11,v1),(12,(.int .i64 (a0.length:Int))),(13,(.int .i64 (k1:Int)))]=LL∧ .AM B2 (.cells cs2 91 (0,0))::O=OO∧Ax m (fun p nx=>Gp fu a0 p.1 p.2 nx) (l1,k1)=some r∧Au cB HH l1 cs2.toList∧cs2.size=257) fu ⟨((List.replicate 257 false:List Bool).set 0 true),0,cs1,rf,rf,hd,⟨hq2.1,hq2.2⟩⟩ (Sub.of rf) ?_
 intro m1 L1 H1 O1 hl1 hI1
 obtain⟨l1,k1,cs2,rfl,rfl,hd,hq3⟩:=hI1
 obtain⟨m2,nx1,rfl,hn2,hd⟩:=A9 hd
 replace hd:Gp fu a0 l1 k1 nx1=some r:=hd
 unfold Gp at hd
 refine Wp.sr<|Aa.op (Ab.lss rf rf) rf<|Aa.Af<|Wp.seq ?_
 refine Wp.cond rf (fun hb2=>?_) (fun hb2=>?_)
 ·
  obtain⟨hb2,hd⟩:=bT hb2 hd
  refine Wp.skip<|At.Ad<|Wp.seq<|Wp.block<|Wp.seq ?_
  obtain⟨x2,hx2,hd⟩:=Ae hd
  have hx2_:=Ah hx2
  refine Wp.region ?_
  obtain⟨_,⟨_,_,rfl,rfl,⟨v2,rfl,hv2⟩⟩,hc2⟩:=AW.get (hv1.mono hl1) hx2
  refine Aa.op (Ab.Bo CG Bl rf (hv1.mono hl1).sl rf (Ah hx2)) rf<|Aa.op (Ab.C9 (vs:=[(.bool x2.1),v2]) NA rf Bl rf rf (fun j u hj=>(hc2 j u hj))) rf<|Aa.alloc (cs:= #[(.bool false),(.slice none 0 0)]) Bl rf rf fun B3=>Aa.AP (i:=0) (cs':= #[(.bool x2.1),v2]) rf rf Bl rf rf (Bc (Ac rf (Ac hv2.one (As)))) rf ?_
  refine Aa.own (O:=_::_::_) ?_ rf
  refine Aa.Af<|Wp.sr<|Aa.op (Ab.AV (o':=1) Bv rf rf) rf<|Aa.op (Ab.Am (i:=0) (v:=v2) CC rf rf rf rf) rf ?_
  have hb3:=hv2.le
  refine Aa.op (Ab.len CC rf hv2.sl) rf<|Aa.op (Ab.move rf) rf<|Aa.Af<|Wp.block<|Wp.A_ (fun m LL HH OO=> ∃(l2:List Bool),∃(k2:Nat),∃(cs3:Array Value),[(3,(ptr B2 0)),(11,v1),(12,(.int .i64 (a0.length:Int))),(13,(.int .i64 (k1:Int))),(18,v2),(19,(.int .i64 (x2.2.length:Int))),(20,(.int .i64 (k2:Int)))]=LL∧ .AM B3 (.cells #[(.bool x2.1),v2] 43 (0,0)):: .AM B2 (.cells cs3 91 (0,0))::O=OO∧Ax m (fun p nx=>Gn fu k1 nx1 x2 p.1 p.2 nx) (l2,k2)=some r∧Au cB HH l2 cs3.toList∧cs3.size=257) fu ⟨l1,0,cs2,rf,rf,hd,⟨hq3.1,hq3.2⟩⟩ (Sub.of rf) ?_
  intro m3 L2 H2 O2 hl2 hI2
  obtain⟨l2,k2,cs3,rfl,rfl,hd,hq4⟩:=hI2
  obtain⟨m4,nx2,rfl,hn3,hd⟩:=A9 hd
  replace hd:Gn fu k1 nx1 x2 l2 k2 nx2=some r:=hd
  unfold Gn at hd
  refine Wp.sr<|Aa.op (Ab.lss rf rf) rf<|Aa.Af<|Wp.seq ?_
  refine Wp.cond rf (fun hb4=>?_) (fun hb4=>?_)
  ·
   obtain⟨hb4,hd⟩:=bT hb4 hd
   refine Wp.skip<|At.Ad<|Wp.seq<|Wp.block<|Wp.seq ?_
   obtain⟨x3,hx3,hd⟩:=Ae hd
   have hx3_:=Ah hx3
   refine Wp.region ?_
   obtain⟨_,⟨_,_,rfl,⟨rfl,hr1,hr2⟩,⟨_,_,rfl,⟨rfl,hr3,hr4⟩,rfl⟩⟩,hc3⟩:=AW.get (hv2.mono hl2) hx3
   refine Aa.op (Ab.Bo CC BA rf (hv2.mono hl2).sl rf (Ah hx3)) rf<|Aa.op (Ab.C9 (vs:=[(.int .u8 x3.1),(.int .u8 x3.2.1),(.int .i64 x3.2.2)]) QS rf BA rf rf (fun j u hj=>(hc3 j u hj))) rf<|Aa.alloc (cs:= #[(.int .u8 0),(.int .u8 0),(.int .i64 0)]) BA rf rf fun B4=>Aa.AP (i:=0) (cs':= #[(.int .u8 x3.1),(.int .u8 x3.2.1),(.int .i64 x3.2.2)]) rf rf BA rf rf (Bc (Ac rf (Ac rf (Ac rf (As))))) rf ?_
   refine Aa.own (O:=_::_::_::_) ?_ rf
   refine Aa.Af<|Wp.seq ?_
   obtain⟨x4,hx4,hd⟩:=Ae hd
   refine Wp.region<|Aa.op (Ab.AV (o':=0) Dg rf rf) rf<|Aa.op (Ab.Am (i:=0) (v:=(.int .u8 x3.1)) u5 rf rf rf rf) rf<|Aa.op (Ab.conv u5 u3 rf (Aq (by omega))) rf ?_
   obtain⟨_,rfl,hc4,hc4_⟩:=Au.get hq4.1 (AG hx4).2
   have hn4:=Au.Qm hq4.1 hq4.2
   refine Aa.op (Ab.El (off':=x3.1.toNat*1) WS ES rf rf (by have:=Ah hx4;simp only[cB,Ao,AZ]at hn4;omega) (by simp)) rf ?_
   refine Aa.Ye (q:=2) (y:=true) (i:=x3.1) hq4.1 hq4.2 (Ah hx4) rf rf rf ES rf (rf) (fun cs4 hq5=>?_)
   refine Aa.Af ?_
   obtain⟨ha1,hd⟩:=Al hd
   obtain⟨x5,hx5,hd⟩:=Ae hd
   refine Wp.region<|Aa.op (Ab.AV (o':=1) C_ rf rf) rf<|Aa.op (Ab.Am (i:=0) (v:=(.int .u8 x3.2.1)) u5 rf rf rf rf) rf<|Aa.op (Ab.conv u5 u3 rf (Aq (by omega))) rf<|Aa.op (Ab.add rf rf (Aq ha1)) rf ?_
   obtain⟨_,rfl,hc5,hc5_⟩:=Au.get hq5.1 (AG hx5).2
   have hn5:=Au.Qm hq5.1 hq5.2
   refine Aa.op (Ab.El (off':=((x3.2.1+1).toNat)*1) WS ES rf rf (by have:=Ah hx5;simp only[cB,Ao,AZ]at hn5;omega) (by simp)) rf ?_
   refine Aa.Ye (q:=2) (y:=true) (i:=(x3.2.1+1)) hq5.1 hq5.2 (Ah hx5) rf rf rf ES rf (rf) (fun cs5 hq6=>?_)
   refine Aa.nil<|At.AE<|At.Ad<|Wp.region<|Aa.op (Ab.add rf rf (Aq (by omega))) rf<|Aa.op (Ab.move rf) rf<|Aa.nil<|At.AR [1,2] 3 rf rf rf ?_
   refine At.AO (Hp.le.refl _) ⟨((l2.set x3.1.toNat true).set ((x3.2.1+1).toNat) true),(k2+1),cs5,rf,rf,(by rw[←hn3];exact hd),⟨hq6.1,hq6.2⟩⟩ (Sub.of rf)
  obtain⟨hb4,hd⟩:=bF hb4 hd
  refine Wp.exit<|At.An<|At.An<|At.Az<|At.AE<|At.Ad<|Wp.region<|Aa.op (Ab.add rf rf (Aq (by omega))) rf ?_
  refine Aa.op (Ab.move rf) rf<|Aa.nil<|At.AR [1] 2 rf rf rf ?_
  refine At.AO hl2 ⟨l2,(k1+1),cs3,rf,rf,(by rw[←hn2];exact hd),⟨hq4.1,hq4.2⟩⟩ (Sub.of rf)
 obtain⟨hb2,hd⟩:=bF hb2 hd
 refine Wp.exit<|At.An<|At.An<|At.Az<|At.Ad<|Wp.sr<|Aa.op (Ab.assign rf) rf<|Aa.Af ?_
 refine Wp.seq<|Wp.sr<|Aa.op (Ab.assign rf) rf<|Aa.Af<|Wp.block<|Wp.BG 3 1<|Wp.A_ (fun m LL HH OO=> ∃(l3:List Int),∃(k3:Nat),∃(v3:Value),∃(xs2:List Value),[(3,(ptr B2 0)),(8,v3),(9,(.int .i64 (k3:Int)))]=LL∧ .row v3 3 1 l3.length xs2:: .AM B2 (.cells cs2 91 (0,0))::O=OO∧Ax m (fun p nx=>Gm fu l1 p.1 p.2 nx) (l3,k3)=some r∧Au Ao HH l3 xs2) fu ⟨([]:List Int),0,(.slice none 0 0),[],rf,rf,hd,(Au.nil (c:=Ao) (H:=H1))⟩ (Sub.of rf) ?_
 intro m5 L3 H3 O3 hl3 hI3
 obtain⟨l3,k3,v3,xs2,rfl,rfl,hd,hq7⟩:=hI3
 obtain⟨m6,nx3,rfl,hn6,hd⟩:=A9 hd
 replace hd:Gm fu l1 l3 k3 nx3=some r:=hd
 unfold Gm at hd
 refine Wp.seq<|Wp.sr<|Aa.op (Ab.move rf) rf<|Aa.op (Ab.lss rf rf) rf<|Aa.Af ?_
 refine Wp.cond rf (fun hb5=>?_) (fun hb5=>?_)
 ·
  obtain⟨hb5,hd⟩:=bT hb5 hd
  refine Wp.skip<|At.Ad<|Wp.seq<|Wp.block<|Wp.seq ?_
  obtain⟨x6,hx6,hd⟩:=Ae hd
  refine Wp.region<|Aa.op (Ab.move rf) rf ?_
  obtain⟨_,rfl,hc6,hc6_⟩:=Au.get (hq3.1.mono hl3) (AG hx6).2
  have hn7:=Au.Qm (hq3.1.mono hl3) hq3.2
  refine Aa.op (Ab.El (off':=k3*1) WS ES rf rf (by have:=Ah hx6;simp only[cB,Ao,AZ]at hn7;omega) (by simp)) rf<|Aa.op (Ab.Am (i:=1) (v:=(.bool x6)) u4 rf rf rf (by have:=hc6 0 _ rf;simpa [cB,Ao,AZ]using this)) rf<|Aa.Af ?_
  refine Wp.cond rf (fun hb6=>?_) (fun hb6=>?_)
  ·
   replace hd:=Fs hb6 hd
   obtain⟨ha2,hd⟩:=Al hd
   refine Wp.region<|Aa.op (Ab.move rf) rf<|Aa.op (Ab.move rf) rf<|Aa.A1 (c:=Ao) (y:=(k3:Int)) (cs:=[(.int .i64 (k3:Int))]) BF Cp rf rf rf rf (rf) rf fun v4 xs3 hq8=>Aa.Df (i:=1) (j:=0) hq7 hq8 BF Cp rf (by decide) rf rf rf rf (by decide) ha2 rf fun v5 xs4 hq9=>Aa.drop (i:=0)<|Aa.op (Ab.assign rf) rf<|Aa.nil ?_
   refine At.AE<|At.Ad<|Wp.region<|Aa.op (Ab.move rf) rf<|Aa.op (Ab.add rf rf (Aq (by omega))) rf<|Aa.op (Ab.assign rf) rf<|Aa.nil ?_
   refine At.AO (Hp.le.refl _) ⟨(l3++([(k3:Int)]:List Int)),(k3+1),v5,xs4,rf,rf,(by rw[←hn6];exact hd),hq9⟩ (Sub.of rf)
  replace hd:=Ft hb6 hd
  refine Wp.skip<|At.AE<|At.Ad<|Wp.region<|Aa.op (Ab.move rf) rf<|Aa.op (Ab.add rf rf (Aq (by omega))) rf<|Aa.op (Ab.assign rf) rf<|Aa.nil ?_
  refine At.AO (Hp.le.refl _) ⟨l3,(k3+1),v3,xs2,rf,rf,(by rw[←hn6];exact hd),hq7⟩ (Sub.of rf)
 obtain⟨hb5,hd⟩:=bF hb5 hd
 refine Wp.exit<|At.An<|At.An<|At.Az<|At.Ad<|Wp.sr<|Aa.op (Ab.move rf) rf<|Aa.op (Ab.assign rf) rf ?_
 refine Aa.Af<|Wp.ret ?_
 obtain rfl:=si hd
 exact At.DB rf (RV.tmp (v:=v3) rf) (fun w hs=>⟨_,_,_,rf,(hl1.trans hl3),(hs.AR [0] 2 rf rf rf),_,_,rf,hq7,rf⟩)
end Go.Proofs.YtjmbmodmepdmjaaGreatDoor
