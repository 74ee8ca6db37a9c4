/- Part 5 of the texts of this claim: what its theorem leans on. -/
import Derived.Test.YtjmbmodmepdmjabGreatDoorZAutomatonMatches4
import Derived.Test.YtjmbmodmepdmjabGreatDoorCards
import Derived.Test.YtjmbmodmepdmjabGreatDoorTie
import Derived.Deep.DeepHandedRow
import Derived.LaidMore
import Derived.Stop.LaidErr
import Derived.WalkSmall
set_option maxRecDepth 100000
set_option maxHeartbeats 4000000
namespace Go.Proofs.YtjmbmodmepdmjabGreatDoor
open Go.GK
variable {H : Hp} {O : List A2}
theorem Ja{fu:Nat}{a0:(List (List Int))×(List (List (AD×Int×Int)))×Int}{a1:Int}{a2:Int}{v1 v2:Value}{B0:Nat}{r:List (Bool×(List (Int×Int×Int)))}(hv1:AL (cL Ar) H a0.1 v1)(hv2:AL (cL (cP KA (cP Ar Ar))) H a0.2.1 v2)(hG:El Tryz.prog H)(hd:CO fu a0 a1 a2=some r):
    Eg Tryz.prog 20 [(ptr B0 0),(.int .i64 a1),(.int .i64 a2)] H (.Az B0 (.cells #[v1,v2,(.int .i64 a0.2.2)] 55 (0,0))::O) (fun v H' O'=>(∃v3:Value,v3=v∧AL (cP cB (cL (cP A0 (cP A0 Ar)))) H' r v3)∧ .Az B0 (.cells #[v1,v2,(.int .i64 a0.2.2)] 55 (0,0))::O=O'):=by
 intro w hs
 refine Bo Tryz.func20 rf rf rf ?_ hs
 clear hs w
 unfold CO at hd
 refine Wp.sr<|Aa.op (Ab.assign rf) rf<|Aa.Ah<|Wp.seq ?_
 obtain⟨x1,hx1,hd⟩:=Ag hd
 obtain⟨ha1,hd⟩:=Al hd
 refine Wp.region<|Aa.op (Ab.move rf) rf<|Aa.Fi (Bc.call Wi rf (Eg.atR 0 rf (IQ hv1 hv2 hx1))) rf ?_
 rintro _ H1 _ hl1 ⟨⟨v4,rfl,hv3⟩,rfl⟩
 refine Aa.Fi (Bc.call Wj rf (Nd hv3 ha1)) rf ?_
 rintro _ H2 _ hl2 ⟨⟨v5,rfl,hv4⟩,rfl⟩
 refine Aa.op (Ab.assign rf) rf<|Aa.Ah<|Wp.seq ?_
 obtain⟨x2,hx2,hd⟩:=Ag hd
 refine Wp.region<|Aa.op (Ab.move rf) rf<|Aa.op (Ab.move rf) rf<|Aa.Bv (c:=Ar) (y:=a1) (cs:=[(.int .i64 a1)]) Cv DP rf rf rf rf (rf) rf fun v6 xs1 hq1=>Aa.AW [1,0] 2 rf rf rf<|Aa.Fi (Bc.call QR rf (D9 (hv1.mono (hl1.trans hl2)) (hv2.mono (hl1.trans hl2)) hq1 hx2)) rf ?_
 rintro _ H3 _ hl3 ⟨⟨v7,rfl,hv5⟩,rfl⟩
 refine Aa.Bv (c:=(cL Ar)) (y:=x2) (cs:=[v7]) FH Eo rf rf rf (Ef hv5.one) (⟨_,rf,hv5⟩) rf fun v8 xs2 hq2=>Aa.op (Ab.assign rf) rf<|Aa.Ah<|Wp.seq ?_
 obtain⟨x3,hx3,hd⟩:=Ag hd
 have hx3_:=Aj hx3
 obtain⟨x4,hx4,hd⟩:=Ag hd
 obtain⟨ha2,hd⟩:=Al hd
 obtain⟨ha3,hd⟩:=Al hd
 refine Wp.region<|Aa.makeMap (Jt u9) (HJ u3) rf fun B2=>Aa.op (Ab.move rf) rf ?_
 obtain⟨_,⟨v9,rfl,hv6⟩,hc1,hc1_⟩:=Ap.get hq2 (AX hx3).2
 refine Aa.op (Ab.Co (j:=1) FH Eo rf rf rf (Aj hx3)) rf<|Aa.op (Ab.EX (i:=1) (k:=0*1+0) Cv rf rf rf (hc1 0 _ rf)) rf<|Aa.op (Ab.call T1 rf (L9 hv6 (hG.mono ((hl1.trans hl2).trans hl3)) hx4)) rf<|Aa.insert (K:=(Jt u9)) (M:=(HJ u3)) (k:=x4) (v:=0) 0 UL rf rf rf ha2 (show Dw 0 by decide) ha3 rf<|Aa.op (Ab.move rf) rf<|Aa.op (Ab.assign rf) rf<|Aa.Ah<|Wp.sr ?_
 refine Aa.op (Ab.assign rf) rf<|Aa.Ah<|Wp.seq<|Wp.sr<|Aa.op (Ab.assign rf) rf<|Aa.Ah<|Wp.block<|Wp.Cb 45 2 ?_
 refine Wp.Bt (fun m LL HH OO=> ∃(l1:List (List Int)),∃(l2:List (Bool×(List (Int×Int×Int)))),∃(m1:List (BF×Int)),∃(k1:Nat),∃(v10:Value),∃(xs3:List Value),∃(v11:Value),∃(xs4:List Value),[(0,(ptr B0 0)),(2,(.int .i64 a2)),(7,v5),(8,v10),(9,(.map (some B2))),(10,v11),(11,(.int .i64 (k1:Int)))]=LL∧ .row v11 45 2 l2.length xs4::DK (Jt u9) (HJ u3) B2 m1:: .row v10 65 1 l1.length xs3:: .Az B0 (.cells #[v1,v2,(.int .i64 a0.2.2)] 55 (0,0))::O=OO∧Ax m (fun p nx=>CF fu a0 a2 x1 p.1 p.2.1 p.2.2.1 p.2.2.2 nx) (l1,l2,m1,k1)=some r∧Ap (cL Ar) HH l1 xs3∧Ap (cP cB (cL (cP A0 (cP A0 Ar)))) HH l2 xs4) fu ⟨([x2]:List (List Int)),([]:List (Bool×(List (Int×Int×Int)))),(Di ([]:List (BF×Int)) x4 0),0,v8,xs2,(.slice none 0 0),[],rf,rf,hd,hq2,(Ap.nil (c:=(cP cB (cL (cP A0 (cP A0 Ar))))) (H:=H3))⟩ (Sub.of rf) ?_
 intro m2 L1 H4 O1 hl4 hI1
 obtain⟨l1,l2,m1,k1,v10,xs3,v11,xs4,rfl,rfl,hd,hq3,hq4⟩:=hI1
 obtain⟨m3,nx1,rfl,hn1,hd⟩:=Bm hd
 replace hd:CF fu a0 a2 x1 l1 l2 m1 k1 nx1=some r:=hd
 unfold CF at hd
 refine Wp.seq<|Wp.sr<|Aa.op (Ab.move rf) rf<|Aa.op (Ab.move rf) rf ?_
 refine Aa.Bk (i:=2) rf fun hb1=>?_
 refine Aa.op (Ab.CW (i:=2) FH rf rf) rf<|Aa.op (Ab.lss rf rf) rf<|Aa.Ah ?_
 refine Wp.cond rf (fun hb2=>?_) (fun hb2=>?_)
 ·
  obtain⟨hb2,hd⟩:=bT hb2 hd
  refine Wp.skip<|At.Ae<|Wp.seq<|Wp.block<|Wp.sr<|Aa.op (Ab.assign rf) rf<|Aa.Ah<|Wp.seq ?_
  refine Wp.sr<|Aa.op (Ab.move rf) rf ?_
  have hb3:=hv4.le
  refine Aa.op (Ab.len Xx rf (hv4.mono (hl3.trans hl4)).sl) rf<|Aa.op (Ab.move rf) rf<|Aa.Ah<|Wp.block<|Wp.Cb 83 5<|Wp.Bt (fun m LL HH OO=> ∃(l3:List (List Int)),∃(l4:List (AD×Int)),∃(m4:List (BF×Int)),∃(k2:Nat),∃(v12:Value),∃(xs5:List Value),∃(v13:Value),∃(xs6:List Value),[(0,(ptr B0 0)),(2,(.int .i64 a2)),(7,v5),(8,v12),(9,(.map (some B2))),(10,v11),(11,(.int .i64 (k1:Int))),(12,v13),(50,v5),(51,(.int .i64 (((BD x1).length:Nat):Int))),(52,(.int .i64 (k2:Int)))]=LL∧ .row v13 83 5 l4.length xs6:: .row v11 45 2 l2.length xs4::DK (Jt u9) (HJ u3) B2 m4:: .row v12 65 1 l3.length xs5:: .Az B0 (.cells #[v1,v2,(.int .i64 a0.2.2)] 55 (0,0))::O=OO∧Ax m (fun p nx=>BK fu a0 a2 x1 l2 k1 nx1 p.1 p.2.1 p.2.2.1 p.2.2.2 nx) (l3,l4,m4,k2)=some r∧Ap (cL Ar) HH l3 xs5∧Ap (cP KA Ar) HH l4 xs6) fu ⟨l1,([]:List (AD×Int)),m1,0,v10,xs3,(.slice none 0 0),[],rf,rf,hd,hq3,(Ap.nil (c:=(cP KA Ar)) (H:=H4))⟩ (Sub.of rf) ?_
  intro m5 L2 H5 O2 hl5 hI2
  obtain⟨l3,l4,m4,k2,v12,xs5,v13,xs6,rfl,rfl,hd,hq5,hq6⟩:=hI2
  obtain⟨m6,nx2,rfl,hn2,hd⟩:=Bm hd
  replace hd:BK fu a0 a2 x1 l2 k1 nx1 l3 l4 m4 k2 nx2=some r:=hd
  unfold BK at hd
  refine Wp.sr<|Aa.op (Ab.lss rf rf) rf<|Aa.Ah<|Wp.seq ?_
  refine Wp.cond rf (fun hb4=>?_) (fun hb4=>?_)
  ·
   obtain⟨hb4,hd⟩:=bT hb4 hd
   refine Wp.skip<|At.Ae<|Wp.seq<|Wp.block<|Wp.seq ?_
   obtain⟨x5,hx5,hd⟩:=Ag hd
   have hx5_:=Aj hx5
   refine Wp.region ?_
   obtain⟨_,rfl,hc2⟩:=AL.get (hv4.mono ((hl3.trans hl4).trans hl5)) hx5
   refine Aa.op (Ab.Bz Xx Bu rf (hv4.mono ((hl3.trans hl4).trans hl5)).sl rf (Aj hx5)) rf<|Aa.op (Ab.DA (vs:=[(Ad (word x5 0)),(Ad (word x5 1)),(Ad (word x5 2)),(Ad (word x5 3))]) K1 rf Bu rf rf (fun j u hj=>(hc2 j u hj))) rf<|Aa.alloc (cs:=BE (fun _=>false)) Bu Cx rf fun B3=>Aa.AM (i:=0) (cs':= #[(Ad (word x5 0)),(Ad (word x5 1)),(Ad (word x5 2)),(Ad (word x5 3))]) rf rf Bu rf rf (Bd (Ac rf (Ac rf (Ac rf (Ac rf (An)))))) rf ?_
   refine Aa.own (O:=_::_::_::_::_::_::_) ?_ rf
   refine Aa.Ah<|Wp.seq ?_
   have:=J' x5
   refine Wp.region<|Aa.op (Ab.Aw (i:=0) K1 rf Bu rf rf rf) rf<|Aa.op (Ab.call Wh rf (@QH _ _ x5)) rf<|Aa.op (Ab.move rf) rf<|Aa.op (Ab.extract rf rf) rf<|Aa.op (Ab.extract rf rf) rf<|Aa.op (Ab.assign rf) rf<|Aa.op (Ab.assign rf) rf ?_
   refine Aa.Ah<|Wp.sr<|Aa.op (Ab.assign rf) rf<|Aa.Ah<|Wp.seq<|Wp.seq ?_
   obtain⟨x6,hx6,hd⟩:=Ag hd
   have hx6_:=Aj hx6
   refine Wp.region<|Aa.op (Ab.move rf) rf<|Aa.op (Ab.move rf) rf ?_
   obtain⟨_,⟨v14,rfl,hv7⟩,hc3,hc3_⟩:=Ap.get hq5 (AX hx6).2
   refine Aa.op (Ab.Co (j:=4) FH Eo rf rf rf (Aj hx6)) rf<|Aa.op (Ab.EX (i:=4) (k:=k1*1+0) Cv rf rf rf (hc3 0 _ rf)) rf ?_
   have hb5:=hv7.le
   refine Aa.op (Ab.len Cv rf hv7.sl) rf<|Aa.op (Ab.move rf) rf<|Aa.Ah<|Wp.block<|Wp.Cb 3 1<|Wp.Bt (fun m LL HH OO=> ∃(l5:List Int),∃(k3:Nat),∃(v15:Value),∃(xs7:List Value),[(0,(ptr B0 0)),(2,(.int .i64 a2)),(7,v5),(8,v12),(9,(.map (some B2))),(10,v11),(11,(.int .i64 (k1:Int))),(12,v13),(14,(ptr B3 0)),(15,(.int .u8 ((DO x5:Nat):Int))),(17,v15),(50,v5),(51,(.int .i64 (((BD x1).length:Nat):Int))),(52,(.int .i64 (k2:Int))),(64,v14),(65,(.int .i64 (x6.length:Int))),(66,(.int .i64 (k3:Int)))]=LL∧ .row v15 3 1 l5.length xs7:: .Az B3 (.cells #[(Ad (word x5 0)),(Ad (word x5 1)),(Ad (word x5 2)),(Ad (word x5 3))] 24 (0,0)):: .row v13 83 5 l4.length xs6:: .row v11 45 2 l2.length xs4::DK (Jt u9) (HJ u3) B2 m4:: .row v12 65 1 l3.length xs5:: .Az B0 (.cells #[v1,v2,(.int .i64 a0.2.2)] 55 (0,0))::O=OO∧Ax m (fun p nx=>BJ fu a0 l3 l4 m4 k2 nx2 x5 x6 p.1 p.2 nx) (l5,k3)=some r∧Ap Ar HH l5 xs7) fu ⟨([]:List Int),0,(.slice none 0 0),[],rf,rf,hd,(Ap.nil (c:=Ar) (H:=H5))⟩ (Sub.of rf) ?_
   intro m7 L3 H6 O3 hl6 hI3
   obtain⟨l5,k3,v15,xs7,rfl,rfl,hd,hq7⟩:=hI3
   obtain⟨m8,nx3,rfl,hn3,hd⟩:=Bm hd
   replace hd:BJ fu a0 l3 l4 m4 k2 nx2 x5 x6 l5 k3 nx3=some r:=hd
   unfold BJ at hd
   refine Wp.sr<|Aa.op (Ab.lss rf rf) rf<|Aa.Ah<|Wp.seq ?_
   refine Wp.cond rf (fun hb6=>?_) (fun hb6=>?_)
   ·
    obtain⟨hb6,hd⟩:=bT hb6 hd
    refine Wp.skip<|At.Ae<|Wp.seq<|Wp.block<|Wp.seq ?_
    obtain⟨x7,hx7,hd⟩:=Ag hd
    have hx7_:=Aj hx7
    refine Wp.region ?_
    obtain⟨_,rfl,hc4⟩:=AL.get (hv7.mono hl6) hx7
    refine Aa.op (Ab.Bz Cv DP rf (hv7.mono hl6).sl rf (Aj hx7)) rf<|Aa.op (Ab.HN u3 rf rf (hc4 0 _ rf)) rf<|Aa.op (Ab.assign rf) rf<|Aa.Ah<|Wp.seq ?_
    obtain⟨x8,hx8,hd⟩:=Ag hd
    have hx8_:=Aj hx8
    refine Wp.region<|Aa.op (Ab.move rf) rf<|Aa.op (Ab.nilCheck rf) rf<|Aa.op (Ab.A6 (o':=1) Hu rf rf) rf<|Aa.op (Ab.Am (i:=6) (v:=v2) Rh rf rf rf rf) rf<|Aa.op (Ab.move rf) rf ?_
    obtain⟨_,⟨v16,rfl,hv8⟩,hc5⟩:=AL.get (hv2.mono (((((hl1.trans hl2).trans hl3).trans hl4).trans hl5).trans hl6)) hx8
    refine Aa.op (Ab.Bz Rh N5 rf (hv2.mono (((((hl1.trans hl2).trans hl3).trans hl4).trans hl5).trans hl6)).sl rf (Aj hx8)) rf<|Aa.op (Ab.HN Sb rf rf (hc5 0 _ rf)) rf ?_
    have hb7:=hv8.le
    refine Aa.op (Ab.len Sb rf hv8.sl) rf<|Aa.op (Ab.move rf) rf<|Aa.Ah<|Wp.block<|Wp.Bt (fun m LL HH OO=> ∃(l6:List Int),∃(k4:Nat),∃(v17:Value),∃(xs8:List Value),[(0,(ptr B0 0)),(2,(.int .i64 a2)),(7,v5),(8,v12),(9,(.map (some B2))),(10,v11),(11,(.int .i64 (k1:Int))),(12,v13),(14,(ptr B3 0)),(15,(.int .u8 ((DO x5:Nat):Int))),(17,v17),(50,v5),(51,(.int .i64 (((BD x1).length:Nat):Int))),(52,(.int .i64 (k2:Int))),(64,v14),(65,(.int .i64 (x6.length:Int))),(66,(.int .i64 (k3:Int))),(76,v16),(77,(.int .i64 (x8.length:Int))),(78,(.int .i64 (k4:Int)))]=LL∧ .row v17 3 1 l6.length xs8:: .Az B3 (.cells #[(Ad (word x5 0)),(Ad (word x5 1)),(Ad (word x5 2)),(Ad (word x5 3))] 24 (0,0)):: .row v13 83 5 l4.length xs6:: .row v11 45 2 l2.length xs4::DK (Jt u9) (HJ u3) B2 m4:: .row v12 65 1 l3.length xs5:: .Az B0 (.cells #[v1,v2,(.int .i64 a0.2.2)] 55 (0,0))::O=OO∧Ax m (fun p nx=>BI fu x5 k3 nx3 x8 p.1 p.2 nx) (l6,k4)=some r∧Ap Ar HH l6 xs8) fu ⟨l5,0,v15,xs7,rf,rf,hd,hq7⟩ (Sub.of rf) ?_
    intro m9 L4 H7 O4 hl7 hI4
    obtain⟨l6,k4,v17,xs8,rfl,rfl,hd,hq8⟩:=hI4
    obtain⟨m10,nx4,rfl,hn4,hd⟩:=Bm hd
    replace hd:BI fu x5 k3 nx3 x8 l6 k4 nx4=some r:=hd
    unfold BI at hd
    refine Wp.sr<|Aa.op (Ab.lss rf rf) rf<|Aa.Ah<|Wp.seq ?_
    refine Wp.cond rf (fun hb8=>?_) (fun hb8=>?_)
    ·
     obtain⟨hb8,hd⟩:=bT hb8 hd
     refine Wp.skip<|At.Ae<|Wp.seq<|Wp.block<|Wp.seq ?_
     obtain⟨x9,hx9,hd⟩:=Ag hd
     have hx9_:=Aj hx9
     refine Wp.region ?_
     obtain⟨_,⟨_,_,rfl,rfl,⟨_,_,rfl,rfl,rfl⟩⟩,hc6⟩:=AL.get (hv8.mono hl7) hx9
     refine Aa.op (Ab.Bz Sb IW rf (hv8.mono hl7).sl rf (Aj hx9)) rf<|Aa.op (Ab.DA (vs:=[(Ad (word x9.1 0)),(Ad (word x9.1 1)),(Ad (word x9.1 2)),(Ad (word x9.1 3)),(.int .i64 x9.2.1),(.int .i64 x9.2.2)]) Y8 rf IW rf rf (fun j u hj=>(hc6 j u hj))) rf<|Aa.alloc (cs:= #[(Ad (word (fun _=>false) 0)),(Ad (word (fun _=>false) 1)),(Ad (word (fun _=>false) 2)),(Ad (word (fun _=>false) 3)),(.int .i64 0),(.int .i64 0)]) IW (by simp only[zw];rfl) rf fun B4=>Aa.AM (i:=0) (cs':= #[(Ad (word x9.1 0)),(Ad (word x9.1 1)),(Ad (word x9.1 2)),(Ad (word x9.1 3)),(.int .i64 x9.2.1),(.int .i64 x9.2.2)]) rf rf IW rf rf (Bd (Ac rf (Ac rf (Ac rf (Ac rf (Ac rf (Ac rf (An)))))))) rf ?_
     refine Aa.own (O:=_::_::_::_::_::_::_::_::_) ?_ rf
     refine Aa.Ah<|Wp.sr<|Aa.op (Ab.A6 (o':=0) PO rf rf) rf<|Aa.op (Ab.Ga (i:=0) (vs:=[(Ad (word x9.1 0)),(Ad (word x9.1 1)),(Ad (word x9.1 2)),(Ad (word x9.1 3))]) K1 rf Bu rf rf rf) rf<|Aa.op (Ab.move rf) rf<|Aa.op (Ab.call Kv rf (@OH _ _ x9.1 ((DO x5:Nat):Int) (by omega) (by omega))) rf<|Aa.Ah ?_
     refine Wp.cond rf (fun hb9=>?_) (fun hb9=>?_)
     ·
      replace hd:=Gl hb9 hd
      obtain⟨ha4,hd⟩:=Al hd
      refine Wp.region<|Aa.op (Ab.move rf) rf<|Aa.op (Ab.A6 (o':=4) TQ rf rf) rf<|Aa.op (Ab.Am (i:=0) (v:=(.int .i64 x9.2.1)) u3 rf rf rf rf) rf<|Aa.Bv (c:=Ar) (y:=x9.2.1) (cs:=[(.int .i64 x9.2.1)]) Cv DP rf rf rf rf (rf) rf fun v18 xs9 hq9=>Aa.Hz (i:=2) (j:=0) hq8 hq9 Cv DP rf (by decide) rf rf rf rf (by decide) ha4 rf fun v19 xs10 hq10=>Aa.drop (i:=0)<|Aa.op (Ab.assign rf) rf ?_
      refine Aa.nil<|At.AF<|At.Ae<|Wp.region<|Aa.op (Ab.add rf rf (Av (by omega))) rf<|Aa.op (Ab.move rf) rf<|Aa.nil<|At.AW [1,2,3,4,5,6,7] 8 rf rf rf ?_
      refine At.AZ (Hp.le.refl _) ⟨(l6++([x9.2.1]:List Int)),(k4+1),v19,xs10,rf,rf,(by rw[←hn4];exact hd),hq10⟩ (Sub.of rf)
     replace hd:=Gm hb9 hd
     refine Wp.skip<|At.AF<|At.Ae<|Wp.region<|Aa.op (Ab.add rf rf (Av (by omega))) rf<|Aa.op (Ab.move rf) rf<|Aa.nil<|At.AW [1,2,3,4,5,6,7] 8 rf rf rf ?_
     refine At.AZ (Hp.le.refl _) ⟨l6,(k4+1),v17,xs8,rf,rf,(by rw[←hn4];exact hd),hq8⟩ (Sub.of rf)
    obtain⟨hb8,hd⟩:=bF hb8 hd
    refine Wp.exit<|At.Ao<|At.Ao<|At.AB<|At.AF<|At.Ae<|Wp.region<|Aa.op (Ab.add rf rf (Av (by omega))) rf ?_
    refine Aa.op (Ab.move rf) rf<|Aa.nil ?_
    refine At.AZ hl7 ⟨l6,(k3+1),v17,xs8,rf,rf,(by rw[←hn3];exact hd),hq8⟩ (Sub.of rf)
   obtain⟨hb6,hd⟩:=bF hb6 hd
   refine Wp.exit<|At.Ao<|At.Ao<|At.AB<|At.Ae<|Wp.seq<|Wp.sr<|Aa.op (Ab.move rf) rf ?_
   refine Aa.Bk (i:=0) rf fun hb10=>?_
   refine Aa.op (Ab.CW (i:=0) Cv rf rf) rf<|Aa.op (Ab.eql rf rf) rf<|Aa.Ah ?_
   refine Wp.cond rf (fun hb11=>?_) (fun hb11=>?_)
   ·
    obtain⟨hb11,hd⟩:=bT hb11 hd
    refine Wp.exit<|At.Ao<|At.AB<|At.Ae<|Wp.region<|Aa.op (Ab.add rf rf (Av (by omega))) rf<|Aa.op (Ab.move rf) rf<|Aa.nil ?_
    refine At.AW [2,3,4,5,6] 7 rf rf rf ?_
    refine At.AZ hl6 ⟨l3,l4,m4,(k2+1),v12,xs5,v13,xs6,rf,rf,(by rw[←hn2];exact hd),(hq5.mono hl6),(hq6.mono hl6)⟩ (Sub.of rf)
   obtain⟨hb11,hd⟩:=bF hb11 hd
   refine Wp.skip<|At.Ae<|Wp.seq ?_
   obtain⟨x10,hx10,hd⟩:=Ag hd
   refine Wp.region<|Aa.op (Ab.move rf) rf<|Aa.op (Ab.move rf) rf<|Aa.AW [6,0,1,2,3,4,5] 7 rf rf rf<|Aa.Fi (Bc.call QR rf (D9 (hv1.mono (((((hl1.trans hl2).trans hl3).trans hl4).trans hl5).trans hl6)) (hv2.mono (((((hl1.trans hl2).trans hl3).trans hl4).trans hl5).trans hl6)) hq7 hx10)) rf ?_
   rintro _ H8 _ hl8 ⟨⟨v20,rfl,hv9⟩,rfl⟩
   refine Aa.op (Ab.assign rf) rf<|Aa.Ah<|Wp.seq ?_
   obtain⟨x11,hx11,hd⟩:=Ag hd
   refine Wp.region<|Aa.op (Ab.move rf) rf<|Aa.op (Ab.call T1 rf (L9 hv9 (hG.mono ((((((hl1.trans hl2).trans hl3).trans hl4).trans hl5).trans hl6).trans hl8)) hx11)) rf<|Aa.op (Ab.assign rf) rf<|Aa.Ah<|Wp.seq<|Wp.seq ?_
   obtain⟨ha5,hd⟩:=Al hd
   refine Wp.region<|Aa.op (Ab.move rf) rf<|Aa.op (Ab.move rf) rf<|Aa.op (Ab.LC (K:=(Jt u9)) (M:=(HJ u3)) (i:=4) (k:=x11) (z:=0) UL DP (show Dw 0 by decide) rf rf ha5 rf) rf<|Aa.op (Ab.move rf) rf<|Aa.op (Ab.extract rf rf) rf<|Aa.op (Ab.extract rf rf) rf<|Aa.op (Ab.assign rf) rf ?_
   refine Aa.op (Ab.assign rf) rf<|Aa.Ah<|Wp.sr<|Aa.op (Ab.move rf) rf<|Aa.op (Ab.not rf) rf<|Aa.Ah ?_
   refine Wp.Jx (fun LL HH OO=> ∃(l7:List (List Int)),∃(m11:List (BF×Int)),∃(v21:Value),∃(xs11:List Value),[(0,(ptr B0 0)),(2,(.int .i64 a2)),(7,v5),(8,v21),(9,(.map (some B2))),(10,v11),(11,(.int .i64 (k1:Int))),(12,v13),(14,(ptr B3 0)),(22,(sv x11)),(50,v5),(51,(.int .i64 (((BD x1).length:Nat):Int))),(52,(.int .i64 (k2:Int)))]=LL∧ .Az B0 (.cells #[v1,v2,(.int .i64 a0.2.2)] 55 (0,0)):: .Az B3 (.cells #[(Ad (word x5 0)),(Ad (word x5 1)),(Ad (word x5 2)),(Ad (word x5 3))] 24 (0,0)):: .row v13 83 5 l4.length xs6:: .row v11 45 2 l2.length xs4::DK (Jt u9) (HJ u3) B2 m11:: .row v21 65 1 l7.length xs11::O=OO∧BZ fu l4 k2 nx2 x5 x11 l7 m11=some r∧Ap (cL Ar) HH l7 xs11) ?_ ?_
   ·
    refine Wp.cond rf (fun hb12=>?_) (fun hb12=>?_)
    ·
     replace hd:=Gl hb12 hd
     refine Wp.seq ?_
     obtain⟨ha6,hd⟩:=Al hd
     obtain⟨ha7,hd⟩:=Al hd
     obtain⟨ha8,hd⟩:=Al hd
     refine Wp.region<|Aa.op (Ab.move rf) rf<|Aa.op (Ab.move rf) rf<|Aa.op (Ab.move rf) rf ?_
     refine Aa.Bk (i:=5) rf fun hb13=>?_
     refine Aa.op (Ab.CW (i:=5) FH rf rf) rf<|Aa.mapUpdate (K:=(Jt u9)) (M:=(HJ u3)) (k:=x11) (v:=(l3.length:Int)) 4 UL rf rf rf ha6 ha7 ha8 rf<|Aa.Ah ?_
     obtain⟨ha9,hd⟩:=Al hd
     refine Wp.region<|Aa.op (Ab.move rf) rf<|Aa.op (Ab.move rf) rf<|Aa.Bv (c:=(cL Ar)) (y:=x10) (cs:=[v20]) FH Eo rf rf rf (Ef hv9.one) (⟨_,rf,hv9⟩) rf fun v22 xs12 hq11=>Aa.Hz (i:=6) (j:=0) (hq5.mono (hl6.trans hl8)) hq11 FH Eo rf (by decide) rf rf rf rf (by decide) ha9 rf fun v23 xs13 hq12=>Aa.drop (i:=0)<|Aa.op (Ab.assign rf) rf<|Aa.nil ?_
     refine At.EC (Hp.le.refl _) ⟨(l3++([x10]:List (List Int))),(Di m4 x11 (l3.length:Int)),v23,xs13,rf,rf,hd,hq12⟩ (Sub.of rf)
    replace hd:=Gm hb12 hd
    refine Wp.skip ?_
    refine At.EC (Hp.le.refl _) ⟨l3,m4,v12,xs5,rf,rf,hd,(hq5.mono (hl6.trans hl8))⟩ (Sub.of rf)
   intro L5 H9 O5 hl9 hI5
   obtain⟨l7,m11,v21,xs11,rfl,rfl,hd,hq13⟩:=hI5
   unfold BZ at hd
   obtain⟨ha10,hd⟩:=Al hd
   obtain⟨ha11,hd⟩:=Al hd
   refine Wp.region<|Aa.op (Ab.move rf) rf<|Aa.op (Ab.Aw (i:=1) K1 rf Bu rf rf rf) rf<|Aa.op (Ab.move rf) rf<|Aa.op (Ab.move rf) rf<|Aa.op (Ab.lookup (K:=(Jt u9)) (M:=(HJ u3)) (i:=4) (k:=x11) (z:=0) UL DP (show Dw 0 by decide) rf rf ha10 rf) rf<|Aa.op (Ab.Bj (vs:=[(0,(.agg #[(Ad (word x5 0)),(Ad (word x5 1)),(Ad (word x5 2)),(Ad (word x5 3))])),(1,(.int .i64 ((AA m11 x11).getD 0)))]) (cs:= #[(Ad (word x5 0)),(Ad (word x5 1)),(Ad (word x5 2)),(Ad (word x5 3)),(.int .i64 ((AA m11 x11).getD 0))]) XY Pu rf rf (AK rf (AK rf (A8))) rf) rf<|Aa.Bv (c:=(cP KA Ar)) (y:=(x5,(AA m11 x11).getD 0)) (cs:=[(Ad (word x5 0)),(Ad (word x5 1)),(Ad (word x5 2)),(Ad (word x5 3)),(.int .i64 ((AA m11 x11).getD 0))]) YZ Pu rf rf rf rf (⟨[(Ad (word x5 0)),(Ad (word x5 1)),(Ad (word x5 2)),(Ad (word x5 3))],[(.int .i64 ((AA m11 x11).getD 0))],rf,rf,rf⟩) rf fun v24 xs14 hq14=>?_
   refine Aa.Hz (i:=3) (j:=0) (hq6.mono ((hl6.trans hl8).trans hl9)) hq14 YZ Pu rf (by decide) rf rf rf rf (by decide) ha11 rf fun v25 xs15 hq15=>Aa.drop (i:=0)<|Aa.op (Ab.assign rf) rf<|Aa.nil<|At.AF<|At.Ae<|Wp.region<|Aa.op (Ab.add rf rf (Av (by omega))) rf ?_
   refine Aa.op (Ab.move rf) rf<|Aa.nil<|At.AW [2,3,4,5,0] 6 rf rf rf ?_
   refine At.AZ ((hl6.trans hl8).trans hl9) ⟨l7,(l4++([(x5,(AA m11 x11).getD 0)]:List (AD×Int))),m11,(k2+1),v21,xs11,v25,xs15,rf,rf,(by rw[←hn2];exact hd),hq13,hq15⟩ (Sub.of rf)
  obtain⟨hb4,hd⟩:=bF hb4 hd
  refine Wp.exit<|At.Ao<|At.Ao<|At.AB<|At.Ae<|Wp.seq ?_
  obtain⟨x12,hx12,hd⟩:=Ag hd
  have hx12_:=Aj hx12
  obtain⟨x13,hx13,hd⟩:=Ag hd
  refine Wp.region<|Aa.op (Ab.move rf) rf<|Aa.op (Ab.move rf) rf ?_
  obtain⟨_,⟨v26,rfl,hv10⟩,hc7,hc7_⟩:=Ap.get hq5 (AX hx12).2
  refine Aa.op (Ab.Co (j:=3) FH Eo rf rf rf (Aj hx12)) rf<|Aa.op (Ab.EX (i:=3) (k:=k1*1+0) Cv rf rf rf (hc7 0 _ rf)) rf<|Aa.op (Ab.move rf) rf<|Aa.op (Ab.call YB rf (Jh hv10 hx13)) rf<|Aa.op (Ab.Bj (vs:=[(0,(.bool x13))]) (cs:= #[(.bool x13),(.slice none 0 0)]) HV BX rf rf (AK rf (A8)) rf) rf<|Aa.alloc (cs:= #[(.bool false),(.slice none 0 0)]) BX rf rf fun B5=>Aa.AM (i:=0) (cs':= #[(.bool x13),(.slice none 0 0)]) rf rf BX rf rf (Bd (Ac rf (Ac rf (An)))) rf ?_
  refine Aa.own (O:=_::_::_::_::_::_::_) ?_ rf
  refine Aa.Ah<|Wp.seq<|Wp.sr<|Aa.op (Ab.move rf) rf ?_
  refine Aa.Bk (i:=1) rf fun hb14=>?_
  refine Aa.op (Ab.CW (i:=1) YZ rf rf) rf<|Aa.op (Ab.move rf) rf<|Aa.Ah<|Wp.block<|Wp.Cb 47 3<|Wp.Bt (fun m LL HH OO=> ∃(l8:List (Int×Int×Int)),∃(k5:Nat),∃(v27:Value),∃(xs16:List Value),[(0,(ptr B0 0)),(2,(.int .i64 a2)),(7,v5),(8,v12),(9,(.map (some B2))),(10,v11),(11,(.int .i64 (k1:Int))),(25,(ptr B5 0)),(133,v13),(134,(.int .i64 (l4.length:Int))),(135,(.int .i64 (k5:Int)))]=LL∧ .row v27 47 3 l8.length xs16:: .Az B5 (.cells #[(.bool x13),v27] 45 (0,0)):: .row v13 83 5 l4.length xs6:: .row v11 45 2 l2.length xs4::DK (Jt u9) (HJ u3) B2 m4:: .row v12 65 1 l3.length xs5:: .Az B0 (.cells #[v1,v2,(.int .i64 a0.2.2)] 55 (0,0))::O=OO∧Ax m (fun p nx=>B8 fu l2 k1 nx1 l3 l4 m4 x13 p.1 p.2 nx) (l8,k5)=some r∧Ap (cP A0 (cP A0 Ar)) HH l8 xs16) fu ⟨([]:List (Int×Int×Int)),0,(.slice none 0 0),[],rf,rf,hd,(Ap.nil (c:=(cP A0 (cP A0 Ar))) (H:=H5))⟩ (Sub.of rf) ?_
  intro m12 L6 H10 O6 hl10 hI6
  obtain⟨l8,k5,v27,xs16,rfl,rfl,hd,hq16⟩:=hI6
  obtain⟨m13,nx5,rfl,hn5,hd⟩:=Bm hd
  replace hd:B8 fu l2 k1 nx1 l3 l4 m4 x13 l8 k5 nx5=some r:=hd
  unfold B8 at hd
  refine Wp.sr<|Aa.op (Ab.lss rf rf) rf<|Aa.Ah<|Wp.seq ?_
  refine Wp.cond rf (fun hb15=>?_) (fun hb15=>?_)
  ·
   obtain⟨hb15,hd⟩:=bT hb15 hd
   refine Wp.skip<|At.Ae<|Wp.seq<|Wp.block<|Wp.seq ?_
   obtain⟨x14,hx14,hd⟩:=Ag hd
   have hx14_:=Aj hx14
   refine Wp.region ?_
   obtain⟨_,⟨_,_,rfl,rfl,rfl⟩,hc8,hc8_⟩:=Ap.get (hq6.mono hl10) (AX hx14).2
   refine Aa.op (Ab.Co (j:=2) YZ Pu rf rf rf (Aj hx14)) rf<|Aa.op (Ab.Nx (i:=2) (vs:=[(Ad (word x14.1 0)),(Ad (word x14.1 1)),(Ad (word x14.1 2)),(Ad (word x14.1 3)),(.int .i64 x14.2)]) ZF rf Pu (by simp) rf rf hc8) rf<|Aa.alloc (cs:= #[(Ad (word (fun _=>false) 0)),(Ad (word (fun _=>false) 1)),(Ad (word (fun _=>false) 2)),(Ad (word (fun _=>false) 3)),(.int .i64 0)]) Pu (by simp only[zw];rfl) rf fun B6=>Aa.AM (i:=0) (cs':= #[(Ad (word x14.1 0)),(Ad (word x14.1 1)),(Ad (word x14.1 2)),(Ad (word x14.1 3)),(.int .i64 x14.2)]) rf rf Pu rf rf (Bd (Ac rf (Ac rf (Ac rf (Ac rf (Ac rf (An))))))) rf ?_
   refine Aa.own (O:=_::_::_::_::_::_::_::_::_) ?_ rf
   refine Aa.Ah<|Wp.sr<|Aa.op (Ab.A6 (o':=0) W6 rf rf) rf<|Aa.op (Ab.Ga (i:=0) (vs:=[(Ad (word x14.1 0)),(Ad (word x14.1 1)),(Ad (word x14.1 2)),(Ad (word x14.1 3))]) K1 rf Bu rf rf rf) rf<|Aa.Fi (Bc.call YA rf (@Lo _ _ x14.1)) rf ?_
   rintro _ H11 _ hl11 ⟨⟨v28,rfl,hv11⟩,rfl⟩
   have hb16:=hv11.le
   refine Aa.op (Ab.len Zw rf hv11.sl) rf<|Aa.op (Ab.move rf) rf<|Aa.Ah<|Wp.block<|Wp.Bt (fun m LL HH OO=> ∃(l9:List (Int×Int×Int)),∃(k6:Nat),∃(v29:Value),∃(xs17:List Value),[(0,(ptr B0 0)),(2,(.int .i64 a2)),(7,v5),(8,v12),(9,(.map (some B2))),(10,v11),(11,(.int .i64 (k1:Int))),(25,(ptr B5 0)),(27,(ptr B6 0)),(133,v13),(134,(.int .i64 (l4.length:Int))),(135,(.int .i64 (k5:Int))),(141,v28),(142,(.int .i64 (((NU x14.1).length:Nat):Int))),(143,(.int .i64 (k6:Int)))]=LL∧ .Az B6 (.cells #[(Ad (word x14.1 0)),(Ad (word x14.1 1)),(Ad (word x14.1 2)),(Ad (word x14.1 3)),(.int .i64 x14.2)] 83 (0,0)):: .row v29 47 3 l9.length xs17:: .Az B5 (.cells #[(.bool x13),v29] 45 (0,0)):: .row v13 83 5 l4.length xs6:: .row v11 45 2 l2.length xs4::DK (Jt u9) (HJ u3) B2 m4:: .row v12 65 1 l3.length xs5:: .Az B0 (.cells #[v1,v2,(.int .i64 a0.2.2)] 55 (0,0))::O=OO∧Ax m (fun p nx=>BH fu k5 nx5 x14 p.1 p.2 nx) (l9,k6)=some r∧Ap (cP A0 (cP A0 Ar)) HH l9 xs17) fu ⟨l8,0,v27,xs16,rf,rf,hd,(hq16.mono hl11)⟩ (Sub.of rf) ?_
   intro m14 L7 H12 O7 hl12 hI7
   obtain⟨l9,k6,v29,xs17,rfl,rfl,hd,hq17⟩:=hI7
   obtain⟨m15,nx6,rfl,hn6,hd⟩:=Bm hd
   replace hd:BH fu k5 nx5 x14 l9 k6 nx6=some r:=hd
   unfold BH at hd
   refine Wp.sr<|Aa.op (Ab.lss rf rf) rf<|Aa.Ah<|Wp.seq ?_
   refine Wp.cond rf (fun hb17=>?_) (fun hb17=>?_)
   ·
    obtain⟨hb17,hd⟩:=bT hb17 hd
    refine Wp.skip<|At.Ae<|Wp.seq<|Wp.block<|Wp.seq ?_
    obtain⟨x15,hx15,hd⟩:=Ag hd
    have hx15_:=Aj hx15
    refine Wp.region ?_
    obtain⟨_,⟨_,_,rfl,⟨rfl,hr1,hr2⟩,⟨rfl,hr3,hr4⟩⟩,hc9⟩:=AL.get (hv11.mono hl12) hx15
    refine Aa.op (Ab.Bz Zw K4 rf (hv11.mono hl12).sl rf (Aj hx15)) rf<|Aa.op (Ab.DA (vs:=[(.int .u8 x15.1),(.int .u8 x15.2)]) Y6 rf K4 rf rf (fun j u hj=>(hc9 j u hj))) rf<|Aa.alloc (cs:= #[(.int .u8 0),(.int .u8 0)]) K4 rf rf fun B7=>Aa.AM (i:=0) (cs':= #[(.int .u8 x15.1),(.int .u8 x15.2)]) rf rf K4 rf rf (Bd (Ac rf (Ac rf (An)))) rf ?_
    refine Aa.own (O:=_::_::_::_::_::_::_::_::_::_) ?_ rf
    refine Aa.Ah ?_
    obtain⟨ha12,hd⟩:=Al hd
    refine Wp.region<|Aa.op (Ab.A6 (o':=1) Ct rf rf) rf<|Aa.op (Ab.Am (i:=3) (v:=v29) EL rf rf rf rf) rf<|Aa.op (Ab.ED (off':=0) Y6 V5 rf rf (by decide) rf) rf<|Aa.op (Ab.Am (i:=0) (v:=(.int .u8 x15.1)) u5 rf rf rf rf) rf<|Aa.op (Ab.ED (off':=1) Y6 V5 rf rf (by decide) rf) rf<|Aa.op (Ab.Am (i:=0) (v:=(.int .u8 x15.2)) u5 rf rf rf rf) rf<|Aa.op (Ab.A6 (o':=4) W5 rf rf) rf ?_
    refine Aa.op (Ab.Am (i:=1) (v:=(.int .i64 x14.2)) u3 rf rf rf rf) rf<|Aa.op (Ab.Bj (vs:=[(0,(.int .u8 x15.1)),(1,(.int .u8 x15.2)),(2,(.int .i64 x14.2))]) (cs:= #[(.int .u8 x15.1),(.int .u8 x15.2),(.int .i64 x14.2)]) Jl Cz rf rf (AK rf (AK rf (AK rf (A8)))) rf) rf<|Aa.Bv (c:=(cP A0 (cP A0 Ar))) (y:=(x15.1,x15.2,x14.2)) (cs:=[(.int .u8 x15.1),(.int .u8 x15.2),(.int .i64 x14.2)]) EL Cz rf rf rf rf (⟨[(.int .u8 x15.1)],[(.int .u8 x15.2),(.int .i64 x14.2)],rf,⟨rf,(show(0:Int)≤x15.1 by omega),(show x15.1≤(255:Int) by omega)⟩,⟨[(.int .u8 x15.2)],[(.int .i64 x14.2)],rf,⟨rf,(show(0:Int)≤x15.2 by omega),(show x15.2≤(255:Int) by omega)⟩,rf⟩⟩) rf fun v30 xs18 hq18=>Aa.Hz (i:=3) (j:=0) hq17 hq18 EL Cz rf (by decide) rf rf rf rf (by decide) ha12 rf fun v31 xs19 hq19=>Aa.drop (i:=0)<|Aa.op (Ab.A6 (o':=1) Ct rf rf) rf<|Aa.BU (i:=2) rf fun ho1=>Aa.Dc (i:=3) rf rf ho1 UQ rf (Nat.le_of_ble_eq_true rf) ?_
    refine Aa.own (O:=_::_::_::_::_::_::_::_::_::_) ?_ rf
    refine Aa.nil<|At.AF<|At.Ae<|Wp.region<|Aa.op (Ab.add rf rf (Av (by omega))) rf<|Aa.op (Ab.move rf) rf<|Aa.nil<|At.AW [1,2,3,4,5,6,7,8] 9 rf rf rf ?_
    refine At.AZ (Hp.le.refl _) ⟨(l9++([(x15.1,x15.2,x14.2)]:List (Int×Int×Int))),(k6+1),v31,xs19,rf,rf,(by rw[←hn6];exact hd),hq19⟩ (Sub.of rf)
   obtain⟨hb17,hd⟩:=bF hb17 hd
   refine Wp.exit<|At.Ao<|At.Ao<|At.AB<|At.AF<|At.Ae<|Wp.region<|Aa.op (Ab.add rf rf (Av (by omega))) rf ?_
   refine Aa.op (Ab.move rf) rf<|Aa.nil<|At.AW [1,2,3,4,5,6,7] 8 rf rf rf ?_
   refine At.AZ (hl11.trans hl12) ⟨l9,(k5+1),v29,xs17,rf,rf,(by rw[←hn5];exact hd),hq17⟩ (Sub.of rf)
  obtain⟨hb15,hd⟩:=bF hb15 hd
  refine Wp.exit<|At.Ao<|At.Ao<|At.AB<|At.Ae<|Wp.seq ?_
  obtain⟨ha13,hd⟩:=Al hd
  obtain⟨ha14,hd⟩:=Al hd
  refine Wp.region<|Aa.op (Ab.A6 (o':=1) Ct rf rf) rf<|Aa.op (Ab.Am (i:=1) (v:=v27) EL rf rf rf rf) rf<|Aa.Fi (Bc.call Yz rf (WE hq16 ha13 ha14)) rf ?_
  rintro _ H13 _ hl13 ⟨xs20,rfl,hq20,rfl⟩
  refine Aa.Ah ?_
  obtain⟨ha15,hd⟩:=Al hd
  refine Wp.region<|Aa.op (Ab.move rf) rf<|Aa.op (Ab.Aw (i:=1) Sq rf BX rf rf rf) rf ?_
  refine Aa.Bk (i:=0) rf fun hb18=>?_
  refine Aa.freeze (i:=0) rf fun H14 hl14 hs1=>?_
  have hv12:=AL.of (c:=(cP A0 (cP A0 Ar))) hs1 rfl (hq20.mono hl14) hb18
  refine Aa.Bv (c:=(cP cB (cL (cP A0 (cP A0 Ar))))) (y:=(x13,Ei ES l8)) (cs:=[(.bool x13),v27]) C9 BX rf rf rf rf (⟨[(.bool x13)],[v27],rf,rf,⟨_,rf,hv12⟩⟩) rf fun v32 xs21 hq21=>Aa.Hz (i:=3) (j:=0) (hq4.mono (((hl5.trans hl10).trans hl13).trans hl14)) hq21 C9 BX rf (by decide) rf rf rf rf (by decide) ha15 rf fun v33 xs22 hq22=>Aa.drop (i:=0)<|Aa.op (Ab.assign rf) rf<|Aa.nil<|At.AF<|At.Ae<|Wp.region ?_
  refine Aa.op (Ab.move rf) rf<|Aa.op (Ab.add rf rf (Av (by omega))) rf<|Aa.op (Ab.assign rf) rf<|Aa.nil<|At.AW [2,3,4,5] 6 rf rf rf ?_
  refine At.AZ (((hl5.trans hl10).trans hl13).trans hl14) ⟨l3,(l2++([(x13,Ei ES l8)]:List (Bool×(List (Int×Int×Int))))),m4,(k1+1),v12,xs5,v33,xs22,rf,rf,(by rw[←hn1];exact hd),(hq5.mono ((hl10.trans hl13).trans hl14)),hq22⟩ (Sub.of rf)
 obtain⟨hb2,hd⟩:=bF hb2 hd
 refine Wp.exit<|At.Ao<|At.Ao<|At.AB<|At.Ae<|Wp.sr<|Aa.op (Ab.move rf) rf<|Aa.op (Ab.assign rf) rf ?_
 refine Aa.Ah<|Wp.ret ?_
 refine At.Bk (i:=0) rf fun hb19=>?_
 refine At.freeze (i:=0) rf fun H15 hl15 hs2=>?_
 have hv13:=AL.of (c:=(cP cB (cL (cP A0 (cP A0 Ar))))) hs2 rfl (hq4.mono hl15) hb19
 obtain rfl:=si hd
 exact At.C_ rf (RV.tmp (v:=v11) rf) (fun w hs=>⟨_,_,_,rf,((((hl1.trans hl2).trans hl3).trans hl4).trans hl15),(hs.AW [2] 3 rf rf rf),⟨⟨v11,rf,hv13⟩,rf⟩⟩)
theorem PC{fu:Nat} :∀ {H:Hp} {O:List A2} {a0:Rx} {a1:Int} {v1:Value} {r:Int} (hv1:AL C' H a0.Aq v1) (hd:DU fu a0 a1=some r),
    CB Tryz.prog 21 [(.agg #[(.int .i64 a0.kind),(Ad (word a0.set 0)),(Ad (word a0.set 1)),(Ad (word a0.set 2)),(Ad (word a0.set 3)),v1]),(.int .i64 a1)] H O (.int .i64 r):=by
 induction fu with
 |zero=>intros;rename_i hd;exact absurd hd (by simp[DU])
 |succ fu ih=>
 intro H O a0 a1 v1 r hv1 hd
 replace hd:DT fu (DU fu) a0 a1=some r:=hd
 generalize DU fu=slf at hd ih
 intro w hs
 refine Bo Tryz.func21 rf rf rf ?_ hs
 clear hs w
 unfold DT at hd
 refine Wp.sr<|Aa.box (cs:= #[(.int .i64 a0.kind),(Ad (word a0.set 0)),(Ad (word a0.set 1)),(Ad (word a0.set 2)),(Ad (word a0.set 3)),v1]) rf rf rf fun B2=>Aa.op (Ab.assign rf) rf<|Aa.Ah<|Wp.seq<|Wp.sr<|Aa.op (Ab.move rf) rf<|Aa.op (Ab.gtr rf rf) rf ?_
 refine Aa.Ah ?_
 refine Wp.cond rf (fun hb1=>?_) (fun hb1=>?_)
 ·
  obtain⟨hb1,hd⟩:=bT hb1 hd
  refine Wp.sr<|Aa.op (Ab.assign rf) rf<|Aa.Ah<|Wp.ret<|At.Au ?_
  obtain rfl:=si hd
  exact At.q1 1 (Hp.le.refl _) rf (RV.tmp rf) rf
 obtain⟨hb1,hd⟩:=bF hb1 hd
 refine Wp.skip<|At.Ae<|Wp.seq<|Wp.seq ?_
 rcases Bool.eq_false_or_eq_true (decide (a0.kind<0))with hg1|hg1
 ·
  obtain⟨hg1_,hd⟩:=bT hg1 hd
  refine Wp.region<|Aa.op (Ab.A6 (o':=0) CP rf rf) rf<|Aa.op (Ab.Am (i:=0) (v:=(.int .i64 a0.kind)) u3 rf rf rf rf) rf<|Aa.op (Ab.BR (b:=decide (a0.kind<0)) (c:=true) (Ab.lss rf rf) hg1) rf<|Aa.op (Ab.move rf) rf<|Aa.Ak rf rf rf rf<|Aa.Ak rf rf rf rf<|Aa.Ak rf rf rf rf ?_
  refine Aa.op (Ab.AU rf rf) rf<|Aa.op (Ab.move rf) rf<|Aa.Ak rf rf rf rf<|Aa.Ak rf rf rf rf<|Aa.Ak rf rf rf rf<|Aa.Ak rf rf rf rf<|Aa.Et rf rf rf<|Aa.Et rf rf rf ?_
  refine Aa.Et rf rf rf<|Aa.Et rf rf rf<|Aa.Ak rf rf rf rf<|Aa.op (Ab.AU rf rf) rf<|Aa.Ah<|Wp.EY rf<|Wp.sr<|Aa.op (Ab.assign rf) rf ?_
  refine Aa.Ah<|Wp.ret<|At.Au ?_
  obtain rfl:=si hd
  exact At.q1 1 (Hp.le.refl _) rf (RV.tmp rf) rf
 obtain⟨hg1_,hd⟩:=bF hg1 hd
 rcases Bool.eq_false_or_eq_true (decide (5<a0.kind))with hg2|hg2
 ·
  obtain⟨hg2_,hd⟩:=bT hg2 hd
  refine Wp.region<|Aa.op (Ab.A6 (o':=0) CP rf rf) rf<|Aa.op (Ab.Am (i:=0) (v:=(.int .i64 a0.kind)) u3 rf rf rf rf) rf<|Aa.op (Ab.BR (b:=decide (a0.kind<0)) (c:=false) (Ab.lss rf rf) hg1) rf<|Aa.op (Ab.move rf) rf<|Aa.AQ rf rf (Ab.A6 (o':=0) CP rf rf) rf<|Aa.AQ rf rf (Ab.Am (i:=0) (v:=(.int .i64 a0.kind)) u3 rf rf rf rf) rf<|Aa.AQ rf rf (Ab.BR (b:=decide (5<a0.kind)) (c:=true) (Ab.gtr rf rf) hg2) rf ?_
  refine Aa.op (Ab.AP rf rf) rf<|Aa.op (Ab.move rf) rf<|Aa.Ak rf rf rf rf<|Aa.Ak rf rf rf rf<|Aa.Ak rf rf rf rf<|Aa.Ak rf rf rf rf<|Aa.Et rf rf rf<|Aa.Et rf rf rf ?_
  refine Aa.Et rf rf rf<|Aa.Et rf rf rf<|Aa.Ak rf rf rf rf<|Aa.op (Ab.AU rf rf) rf<|Aa.Ah<|Wp.EY rf<|Wp.sr<|Aa.op (Ab.assign rf) rf ?_
  refine Aa.Ah<|Wp.ret<|At.Au ?_
  obtain rfl:=si hd
  exact At.q1 1 (Hp.le.refl _) rf (RV.tmp rf) rf
 obtain⟨hg2_,hd⟩:=bF hg2 hd
 rcases Bool.eq_false_or_eq_true (decide (a0.kind≠2))with hg3|hg3
 ·
  obtain⟨hg3_,hd⟩:=bT hg3 hd
  refine Wp.region<|Aa.op (Ab.A6 (o':=0) CP rf rf) rf<|Aa.op (Ab.Am (i:=0) (v:=(.int .i64 a0.kind)) u3 rf rf rf rf) rf<|Aa.op (Ab.BR (b:=decide (a0.kind<0)) (c:=false) (Ab.lss rf rf) hg1) rf<|Aa.op (Ab.move rf) rf<|Aa.AQ rf rf (Ab.A6 (o':=0) CP rf rf) rf<|Aa.AQ rf rf (Ab.Am (i:=0) (v:=(.int .i64 a0.kind)) u3 rf rf rf rf) rf<|Aa.AQ rf rf (Ab.BR (b:=decide (5<a0.kind)) (c:=false) (Ab.gtr rf rf) hg2) rf ?_
  refine Aa.op (Ab.AP rf rf) rf<|Aa.op (Ab.move rf) rf<|Aa.AQ rf rf (Ab.A6 (o':=0) CP rf rf) rf<|Aa.AQ rf rf (Ab.Am (i:=0) (v:=(.int .i64 a0.kind)) u3 rf rf rf rf) rf<|Aa.AQ rf rf (Ab.BR (b:=decide (a0.kind≠2)) (c:=true) (Ab.neq rf rf) hg3) rf<|Aa.AQ rf rf (Ab.move rf) rf<|Aa.AQ rf rf (Ab.A6 (o':=1) GG rf rf) rf<|Aa.AQ rf rf (Ab.Ga (i:=0) (vs:=[(Ad (word a0.set 0)),(Ad (word a0.set 1)),(Ad (word a0.set 2)),(Ad (word a0.set 3))]) K1 rf Bu rf rf rf) rf ?_
  refine Aa.AQ rf rf (Ab.cast (v':=(.agg #[(Ad (word (fun _=>false) 0)),(Ad (word (fun _=>false) 1)),(Ad (word (fun _=>false) 2)),(Ad (word (fun _=>false) 3))])) (Ab.VK (vs:=[]) (cs:= #[.int .u64 0, .int .u64 0, .int .u64 0, .int .u64 0]) K1 Bu E2 rf rf (A8) rf) ZQ) rf<|Aa.AQ rf rf (Ab.Vg (p:=a0.set) (q:=(fun _=>false)) QP K1 Y0 E2 rf rf) rf<|Aa.AQ rf rf (Ab.AU rf rf) rf<|Aa.op (Ab.AP rf rf) rf<|Aa.Ah ?_
  refine Wp.cond rf (fun hb2=>?_) (fun hb2=>?_)
  ·
   replace hd:=Gl hb2 hd
   refine Wp.sr<|Aa.op (Ab.assign rf) rf<|Aa.Ah<|Wp.ret<|At.Au ?_
   obtain rfl:=si hd
   exact At.q1 1 (Hp.le.refl _) rf (RV.tmp rf) rf
  replace hd:=Gm hb2 hd
  refine Wp.skip<|At.Ae<|Wp.sr<|Aa.op (Ab.A6 (o':=5) CA rf rf) rf<|Aa.op (Ab.Am (i:=0) (v:=v1) Da rf rf rf rf) rf ?_
  have hb3:=hv1.le
  refine Aa.op (Ab.len Da rf hv1.sl) rf<|Aa.op (Ab.assign rf) rf<|Aa.Ah<|Wp.seq<|Wp.sr<|Aa.op (Ab.A6 (o':=0) CP rf rf) rf<|Aa.op (Ab.Am (i:=0) (v:=(.int .i64 a0.kind)) u3 rf rf rf rf) rf<|Aa.Ah ?_
  refine Wp.Jx (fun LL HH OO=>[(1,(.int .i64 a1)),(2,(ptr B2 0))]=LL∧ .Az B2 (.cells #[(.int .i64 a0.kind),(Ad (word a0.set 0)),(Ad (word a0.set 1)),(Ad (word a0.set 2)),(Ad (word a0.set 3)),v1] 27 (0,0))::O=OO∧DS fu a0 a1 slf=some r) ?_ ?_
  ·
   refine Wp.block<|Wp.seq<|Wp.sr<|Aa.op (Ab.eql rf rf) rf<|Aa.op (Ab.assign rf) rf<|Aa.Ah ?_
   refine Wp.Jx (fun LL HH OO=> ∃(b1:Bool),[(1,(.int .i64 a1)),(2,(ptr B2 0)),(5,(.int .i64 (a0.Aq.length:Int))),(34,(.int .i64 a0.kind)),(37,(.bool b1))]=LL∧ .Az B2 (.cells #[(.int .i64 a0.kind),(Ad (word a0.set 0)),(Ad (word a0.set 1)),(Ad (word a0.set 2)),(Ad (word a0.set 3)),v1] 27 (0,0))::O=OO∧DR fu a0 a1 slf b1=some r) ?_ ?_
   ·
    refine Wp.cond rf (fun hb4=>?_) (fun hb4=>?_)
    ·
     obtain⟨hb4,hd⟩:=bT hb4 hd
     refine Wp.skip ?_
     refine At.EC (Hp.le.refl _) ⟨(decide (a0.kind=3)),rf,rf,hd⟩ (Sub.of rf)
    obtain⟨hb4,hd⟩:=bF hb4 hd
    refine Wp.region<|Aa.op (Ab.eql rf rf) rf<|Aa.op (Ab.assign rf) rf<|Aa.nil ?_
    refine At.EC (Hp.le.refl _) ⟨(decide (a0.kind=4)),rf,rf,hd⟩ (Sub.of rf)
   intro L1 H1 O1 hl1 hI1
   obtain⟨b1,rfl,rfl,hd⟩:=hI1
   unfold DR at hd
   refine Wp.cond rf (fun hb5=>?_) (fun hb5=>?_)
   ·
    replace hd:=Gl hb5 hd
    refine Wp.sr<|Aa.op (Ab.move rf) rf<|Aa.op (Ab.lss rf rf) rf<|Aa.Ah ?_
    refine Wp.cond rf (fun hb6=>?_) (fun hb6=>?_)
    ·
     obtain⟨hb6,hd⟩:=bT hb6 hd
     refine Wp.sr<|Aa.op (Ab.assign rf) rf<|Aa.Ah<|Wp.ret<|At.A9<|At.Au ?_
     obtain rfl:=si hd
     exact At.q1 1 hl1 rf (RV.tmp rf) rf
    obtain⟨hb6,hd⟩:=bF hb6 hd
    refine Wp.skip<|At.AF ?_
    refine At.EC hl1 ⟨rf,rf,hd⟩ (Sub.of rf)
   replace hd:=Gm hb5 hd
   refine Wp.sr<|Aa.op (Ab.eql rf rf) rf<|Aa.op (Ab.assign rf) rf<|Aa.Ah ?_
   refine Wp.cond rf (fun hb7=>?_) (fun hb7=>?_)
   ·
    obtain⟨hb7,hd⟩:=bT hb7 hd
    refine Wp.sr<|Aa.op (Ab.move rf) rf<|Aa.op (Ab.neq rf rf) rf<|Aa.Ah ?_
    refine Wp.cond rf (fun hb8=>?_) (fun hb8=>?_)
    ·
     obtain⟨hb8,hd⟩:=bT hb8 hd
     refine Wp.sr<|Aa.op (Ab.assign rf) rf<|Aa.Ah<|Wp.ret<|At.A9<|At.Au ?_
     obtain rfl:=si hd
     exact At.q1 1 hl1 rf (RV.tmp rf) rf
    obtain⟨hb8,hd⟩:=bF hb8 hd
    refine Wp.skip<|At.AF ?_
    refine At.EC hl1 ⟨rf,rf,hd⟩ (Sub.of rf)
   obtain⟨hb7,hd⟩:=bF hb7 hd
   refine Wp.sr<|Aa.op (Ab.move rf) rf<|Aa.op (Ab.neq rf rf) rf<|Aa.Ah ?_
   refine Wp.cond rf (fun hb9=>?_) (fun hb9=>?_)
   ·
    obtain⟨hb9,hd⟩:=bT hb9 hd
    refine Wp.sr<|Aa.op (Ab.assign rf) rf<|Aa.Ah<|Wp.ret<|At.A9<|At.Au ?_
    obtain rfl:=si hd
    exact At.q1 1 hl1 rf (RV.tmp rf) rf
   obtain⟨hb9,hd⟩:=bF hb9 hd
   refine Wp.skip<|At.AF ?_
   refine At.EC hl1 ⟨rf,rf,hd⟩ (Sub.of rf)
  intro L2 H2 O2 hl2 hI2
  obtain⟨rfl,rfl,hd⟩:=hI2
  unfold DS at hd
  refine Wp.seq<|Wp.sr<|Aa.op (Ab.A6 (o':=5) CA rf rf) rf<|Aa.op (Ab.Am (i:=0) (v:=v1) Da rf rf rf rf) rf ?_
  have hb10:=hv1.le
  refine Aa.op (Ab.len Da rf (hv1.mono hl2).sl) rf<|Aa.op (Ab.move rf) rf<|Aa.Ah<|Wp.block<|Wp.Bt (fun m LL HH OO=> ∃(k1:Nat),[(1,(.int .i64 a1)),(47,v1),(48,(.int .i64 (a0.Aq.length:Int))),(49,(.int .i64 (k1:Int)))]=LL∧ .Az B2 (.cells #[(.int .i64 a0.kind),(Ad (word a0.set 0)),(Ad (word a0.set 1)),(Ad (word a0.set 2)),(Ad (word a0.set 3)),v1] 27 (0,0))::O=OO∧Ax m (Eu fu a0 a1 slf) k1=some r) fu ⟨0,rf,rf,hd⟩ (Sub.of rf) ?_
  intro m1 L3 H3 O3 hl3 hI3
  obtain⟨k1,rfl,rfl,hd⟩:=hI3
  obtain⟨m2,nx1,rfl,hn1,hd⟩:=Bm hd
  replace hd:Eu fu a0 a1 slf k1 nx1=some r:=hd
  unfold Eu at hd
  refine Wp.sr<|Aa.op (Ab.lss rf rf) rf<|Aa.Ah<|Wp.seq ?_
  refine Wp.cond rf (fun hb11=>?_) (fun hb11=>?_)
  ·
   obtain⟨hb11,hd⟩:=bT hb11 hd
   refine Wp.skip<|At.Ae<|Wp.seq<|Wp.block<|Wp.seq ?_
   obtain⟨x1,hx1,hd⟩:=Ag hd
   have hx1_:=Aj hx1
   refine Wp.region ?_
   obtain⟨_,hz1,hc1⟩:=AL.get (hv1.mono (hl2.trans hl3)) hx1
   obtain⟨v2,rfl,hv2⟩:=CC.1 hz1
   refine Aa.op (Ab.Bz Da AH rf (hv1.mono (hl2.trans hl3)).sl rf (Aj hx1)) rf<|Aa.op (Ab.DA (vs:=[(.int .i64 x1.kind),(Ad (word x1.set 0)),(Ad (word x1.set 1)),(Ad (word x1.set 2)),(Ad (word x1.set 3)),v2]) DJ rf AH rf rf (fun j u hj=>(hc1 j u hj))) rf<|Aa.alloc (cs:= #[(.int .i64 0),(Ad (word (fun _=>false) 0)),(Ad (word (fun _=>false) 1)),(Ad (word (fun _=>false) 2)),(Ad (word (fun _=>false) 3)),(.slice none 0 0)]) AH (by simp only[zw];rfl) rf fun B3=>Aa.AM (i:=0) (cs':= #[(.int .i64 x1.kind),(Ad (word x1.set 0)),(Ad (word x1.set 1)),(Ad (word x1.set 2)),(Ad (word x1.set 3)),v2]) rf rf AH rf rf (Bd (Ac rf (Ac rf (Ac rf (Ac rf (Ac rf (Ac hv2.one (An)))))))) rf ?_
   refine Aa.own (O:=_::_::_) ?_ rf
   refine Aa.Ah<|Wp.seq ?_
   obtain⟨ha1,hd⟩:=Al hd
   obtain⟨x2,hx2,hd⟩:=Ag hd
   refine Wp.region<|Aa.op (Ab.Aw (i:=0) DJ rf AH rf rf rf) rf<|Aa.op (Ab.move rf) rf<|Aa.op (Ab.add rf rf (Av ha1)) rf<|Aa.op (Ab.call T2 rf (ih hv2 hx2)) rf<|Aa.op (Ab.assign rf) rf<|Aa.Ah<|Wp.sr ?_
   refine Aa.op (Ab.move rf) rf<|Aa.op (Ab.neq rf rf) rf<|Aa.Ah ?_
   refine Wp.cond rf (fun hb12=>?_) (fun hb12=>?_)
   ·
    obtain⟨hb12,hd⟩:=bT hb12 hd
    refine Wp.sr<|Aa.op (Ab.move rf) rf<|Aa.op (Ab.assign rf) rf<|Aa.Ah<|Wp.ret<|At.A9<|At.Au<|At.Au ?_
    refine At.A9<|At.Au ?_
    obtain rfl:=si hd
    exact At.q1 2 (hl2.trans hl3) rf (RV.tmp rf) rf
   obtain⟨hb12,hd⟩:=bF hb12 hd
   refine Wp.skip<|At.AF<|At.Ae<|Wp.region<|Aa.op (Ab.add rf rf (Av (by omega))) rf<|Aa.op (Ab.move rf) rf<|Aa.nil<|At.AW [1] 2 rf rf rf ?_
   refine At.AZ (Hp.le.refl _) ⟨(k1+1),rf,rf,(by rw[←hn1];exact hd)⟩ (Sub.of rf)
  obtain⟨hb11,hd⟩:=bF hb11 hd
  refine Wp.exit<|At.Ao<|At.Ao<|At.AB<|At.Ae<|Wp.sr<|Aa.op (Ab.assign rf) rf<|Aa.Ah ?_
  refine Wp.ret ?_
  obtain rfl:=si hd
  exact At.q1 1 (hl2.trans hl3) rf (RV.tmp rf) rf
 obtain⟨hg3_,hd⟩:=bF hg3 hd
 refine Wp.region<|Aa.op (Ab.A6 (o':=0) CP rf rf) rf<|Aa.op (Ab.Am (i:=0) (v:=(.int .i64 a0.kind)) u3 rf rf rf rf) rf<|Aa.op (Ab.BR (b:=decide (a0.kind<0)) (c:=false) (Ab.lss rf rf) hg1) rf<|Aa.op (Ab.move rf) rf<|Aa.AQ rf rf (Ab.A6 (o':=0) CP rf rf) rf<|Aa.AQ rf rf (Ab.Am (i:=0) (v:=(.int .i64 a0.kind)) u3 rf rf rf rf) rf<|Aa.AQ rf rf (Ab.BR (b:=decide (5<a0.kind)) (c:=false) (Ab.gtr rf rf) hg2) rf ?_
 refine Aa.op (Ab.AP rf rf) rf<|Aa.op (Ab.move rf) rf<|Aa.AQ rf rf (Ab.A6 (o':=0) CP rf rf) rf<|Aa.AQ rf rf (Ab.Am (i:=0) (v:=(.int .i64 a0.kind)) u3 rf rf rf rf) rf<|Aa.AQ rf rf (Ab.BR (b:=decide (a0.kind≠2)) (c:=false) (Ab.neq rf rf) hg3) rf<|Aa.AQ rf rf (Ab.move rf) rf<|Aa.Ak rf rf rf rf<|Aa.Ak rf rf rf rf ?_
 refine Aa.Ak rf rf rf rf<|Aa.Ak rf rf rf rf<|Aa.AQ rf rf (Ab.AP rf rf) rf<|Aa.op (Ab.AP rf rf) rf<|Aa.Ah<|Wp.Hd rf<|Wp.skip<|At.Ae ?_
 refine Wp.sr<|Aa.op (Ab.A6 (o':=5) CA rf rf) rf<|Aa.op (Ab.Am (i:=0) (v:=v1) Da rf rf rf rf) rf ?_
 have hb13:=hv1.le
 refine Aa.op (Ab.len Da rf hv1.sl) rf<|Aa.op (Ab.assign rf) rf<|Aa.Ah<|Wp.seq<|Wp.sr<|Aa.op (Ab.A6 (o':=0) CP rf rf) rf<|Aa.op (Ab.Am (i:=0) (v:=(.int .i64 a0.kind)) u3 rf rf rf rf) rf<|Aa.Ah ?_
 refine Wp.Jx (fun LL HH OO=>[(1,(.int .i64 a1)),(2,(ptr B2 0))]=LL∧ .Az B2 (.cells #[(.int .i64 a0.kind),(Ad (word a0.set 0)),(Ad (word a0.set 1)),(Ad (word a0.set 2)),(Ad (word a0.set 3)),v1] 27 (0,0))::O=OO∧Fg fu a0 a1 slf=some r) ?_ ?_
 ·
  refine Wp.block<|Wp.seq<|Wp.sr<|Aa.op (Ab.eql rf rf) rf<|Aa.op (Ab.assign rf) rf<|Aa.Ah ?_
  refine Wp.Jx (fun LL HH OO=> ∃(b2:Bool),[(1,(.int .i64 a1)),(2,(ptr B2 0)),(5,(.int .i64 (a0.Aq.length:Int))),(34,(.int .i64 a0.kind)),(37,(.bool b2))]=LL∧ .Az B2 (.cells #[(.int .i64 a0.kind),(Ad (word a0.set 0)),(Ad (word a0.set 1)),(Ad (word a0.set 2)),(Ad (word a0.set 3)),v1] 27 (0,0))::O=OO∧Ff fu a0 a1 slf b2=some r) ?_ ?_
  ·
   refine Wp.cond rf (fun hb14=>?_) (fun hb14=>?_)
   ·
    obtain⟨hb14,hd⟩:=bT hb14 hd
    refine Wp.skip ?_
    refine At.EC (Hp.le.refl _) ⟨(decide (a0.kind=3)),rf,rf,hd⟩ (Sub.of rf)
   obtain⟨hb14,hd⟩:=bF hb14 hd
   refine Wp.region<|Aa.op (Ab.eql rf rf) rf<|Aa.op (Ab.assign rf) rf<|Aa.nil ?_
   refine At.EC (Hp.le.refl _) ⟨(decide (a0.kind=4)),rf,rf,hd⟩ (Sub.of rf)
  intro L4 H4 O4 hl4 hI4
  obtain⟨b2,rfl,rfl,hd⟩:=hI4
  unfold Ff at hd
  refine Wp.cond rf (fun hb15=>?_) (fun hb15=>?_)
  ·
   replace hd:=Gl hb15 hd
   refine Wp.sr<|Aa.op (Ab.move rf) rf<|Aa.op (Ab.lss rf rf) rf<|Aa.Ah ?_
   refine Wp.cond rf (fun hb16=>?_) (fun hb16=>?_)
   ·
    obtain⟨hb16,hd⟩:=bT hb16 hd
    refine Wp.sr<|Aa.op (Ab.assign rf) rf<|Aa.Ah<|Wp.ret<|At.A9<|At.Au ?_
    obtain rfl:=si hd
    exact At.q1 1 hl4 rf (RV.tmp rf) rf
   obtain⟨hb16,hd⟩:=bF hb16 hd
   refine Wp.skip<|At.AF ?_
   refine At.EC hl4 ⟨rf,rf,hd⟩ (Sub.of rf)
  replace hd:=Gm hb15 hd
  refine Wp.sr<|Aa.op (Ab.eql rf rf) rf<|Aa.op (Ab.assign rf) rf<|Aa.Ah ?_
  refine Wp.cond rf (fun hb17=>?_) (fun hb17=>?_)
  ·
   obtain⟨hb17,hd⟩:=bT hb17 hd
   refine Wp.sr<|Aa.op (Ab.move rf) rf<|Aa.op (Ab.neq rf rf) rf<|Aa.Ah ?_
   refine Wp.cond rf (fun hb18=>?_) (fun hb18=>?_)
   ·
    obtain⟨hb18,hd⟩:=bT hb18 hd
    refine Wp.sr<|Aa.op (Ab.assign rf) rf<|Aa.Ah<|Wp.ret<|At.A9<|At.Au ?_
    obtain rfl:=si hd
    exact At.q1 1 hl4 rf (RV.tmp rf) rf
   obtain⟨hb18,hd⟩:=bF hb18 hd
   refine Wp.skip<|At.AF ?_
   refine At.EC hl4 ⟨rf,rf,hd⟩ (Sub.of rf)
  obtain⟨hb17,hd⟩:=bF hb17 hd
  refine Wp.sr<|Aa.op (Ab.move rf) rf<|Aa.op (Ab.neq rf rf) rf<|Aa.Ah ?_
  refine Wp.cond rf (fun hb19=>?_) (fun hb19=>?_)
  ·
   obtain⟨hb19,hd⟩:=bT hb19 hd
   refine Wp.sr<|Aa.op (Ab.assign rf) rf<|Aa.Ah<|Wp.ret<|At.A9<|At.Au ?_
   obtain rfl:=si hd
   exact At.q1 1 hl4 rf (RV.tmp rf) rf
  obtain⟨hb19,hd⟩:=bF hb19 hd
  refine Wp.skip<|At.AF ?_
  refine At.EC hl4 ⟨rf,rf,hd⟩ (Sub.of rf)
 intro L5 H5 O5 hl5 hI5
 obtain⟨rfl,rfl,hd⟩:=hI5
 unfold Fg at hd
 refine Wp.seq<|Wp.sr<|Aa.op (Ab.A6 (o':=5) CA rf rf) rf<|Aa.op (Ab.Am (i:=0) (v:=v1) Da rf rf rf rf) rf ?_
 have hb20:=hv1.le
 refine Aa.op (Ab.len Da rf (hv1.mono hl5).sl) rf<|Aa.op (Ab.move rf) rf<|Aa.Ah<|Wp.block<|Wp.Bt (fun m LL HH OO=> ∃(k2:Nat),[(1,(.int .i64 a1)),(47,v1),(48,(.int .i64 (a0.Aq.length:Int))),(49,(.int .i64 (k2:Int)))]=LL∧ .Az B2 (.cells #[(.int .i64 a0.kind),(Ad (word a0.set 0)),(Ad (word a0.set 1)),(Ad (word a0.set 2)),(Ad (word a0.set 3)),v1] 27 (0,0))::O=OO∧Ax m (Gv fu a0 a1 slf) k2=some r) fu ⟨0,rf,rf,hd⟩ (Sub.of rf) ?_
 intro m3 L6 H6 O6 hl6 hI6
 obtain⟨k2,rfl,rfl,hd⟩:=hI6
 obtain⟨m4,nx2,rfl,hn2,hd⟩:=Bm hd
 replace hd:Gv fu a0 a1 slf k2 nx2=some r:=hd
 unfold Gv at hd
 refine Wp.sr<|Aa.op (Ab.lss rf rf) rf<|Aa.Ah<|Wp.seq ?_
 refine Wp.cond rf (fun hb21=>?_) (fun hb21=>?_)
 ·
  obtain⟨hb21,hd⟩:=bT hb21 hd
  refine Wp.skip<|At.Ae<|Wp.seq<|Wp.block<|Wp.seq ?_
  obtain⟨x3,hx3,hd⟩:=Ag hd
  have hx3_:=Aj hx3
  refine Wp.region ?_
  obtain⟨_,hz2,hc2⟩:=AL.get (hv1.mono (hl5.trans hl6)) hx3
  obtain⟨v3,rfl,hv3⟩:=CC.1 hz2
  refine Aa.op (Ab.Bz Da AH rf (hv1.mono (hl5.trans hl6)).sl rf (Aj hx3)) rf<|Aa.op (Ab.DA (vs:=[(.int .i64 x3.kind),(Ad (word x3.set 0)),(Ad (word x3.set 1)),(Ad (word x3.set 2)),(Ad (word x3.set 3)),v3]) DJ rf AH rf rf (fun j u hj=>(hc2 j u hj))) rf<|Aa.alloc (cs:= #[(.int .i64 0),(Ad (word (fun _=>false) 0)),(Ad (word (fun _=>false) 1)),(Ad (word (fun _=>false) 2)),(Ad (word (fun _=>false) 3)),(.slice none 0 0)]) AH (by simp only[zw];rfl) rf fun B4=>Aa.AM (i:=0) (cs':= #[(.int .i64 x3.kind),(Ad (word x3.set 0)),(Ad (word x3.set 1)),(Ad (word x3.set 2)),(Ad (word x3.set 3)),v3]) rf rf AH rf rf (Bd (Ac rf (Ac rf (Ac rf (Ac rf (Ac rf (Ac hv3.one (An)))))))) rf ?_
  refine Aa.own (O:=_::_::_) ?_ rf
  refine Aa.Ah<|Wp.seq ?_
  obtain⟨ha2,hd⟩:=Al hd
  obtain⟨x4,hx4,hd⟩:=Ag hd
  refine Wp.region<|Aa.op (Ab.Aw (i:=0) DJ rf AH rf rf rf) rf<|Aa.op (Ab.move rf) rf<|Aa.op (Ab.add rf rf (Av ha2)) rf<|Aa.op (Ab.call T2 rf (ih hv3 hx4)) rf<|Aa.op (Ab.assign rf) rf<|Aa.Ah<|Wp.sr ?_
  refine Aa.op (Ab.move rf) rf<|Aa.op (Ab.neq rf rf) rf<|Aa.Ah ?_
  refine Wp.cond rf (fun hb22=>?_) (fun hb22=>?_)
  ·
   obtain⟨hb22,hd⟩:=bT hb22 hd
   refine Wp.sr<|Aa.op (Ab.move rf) rf<|Aa.op (Ab.assign rf) rf<|Aa.Ah<|Wp.ret<|At.A9<|At.Au<|At.Au ?_
   refine At.A9<|At.Au ?_
   obtain rfl:=si hd
   exact At.q1 2 (hl5.trans hl6) rf (RV.tmp rf) rf
  obtain⟨hb22,hd⟩:=bF hb22 hd
  refine Wp.skip<|At.AF<|At.Ae<|Wp.region<|Aa.op (Ab.add rf rf (Av (by omega))) rf<|Aa.op (Ab.move rf) rf<|Aa.nil<|At.AW [1] 2 rf rf rf ?_
  refine At.AZ (Hp.le.refl _) ⟨(k2+1),rf,rf,(by rw[←hn2];exact hd)⟩ (Sub.of rf)
 obtain⟨hb21,hd⟩:=bF hb21 hd
 refine Wp.exit<|At.Ao<|At.Ao<|At.AB<|At.Ae<|Wp.sr<|Aa.op (Ab.assign rf) rf<|Aa.Ah ?_
 refine Wp.ret ?_
 obtain rfl:=si hd
 exact At.q1 1 (hl5.trans hl6) rf (RV.tmp rf) rf
theorem DV{fu:Nat}{a0:Rx}{v1:Value}{r:Int}(hv1:AL C' H a0.Aq v1)(hd:C2 fu a0=some r):
  CB Tryz.prog 7 [(.agg #[(.int .i64 a0.kind),(Ad (word a0.set 0)),(Ad (word a0.set 1)),(Ad (word a0.set 2)),(Ad (word a0.set 3)),v1])] H O (.int .i64 r):=by
 intro w hs
 refine Bo Tryz.func7 rf rf rf ?_ hs
 clear hs w
 unfold C2 at hd
 refine Wp.sr<|Aa.box (cs:= #[(.int .i64 a0.kind),(Ad (word a0.set 0)),(Ad (word a0.set 1)),(Ad (word a0.set 2)),(Ad (word a0.set 3)),v1]) rf rf rf fun B2=>Aa.op (Ab.assign rf) rf<|Aa.Ah<|Wp.seq ?_
 obtain⟨x1,hx1,hd⟩:=Ag hd
 refine Wp.region<|Aa.op (Ab.Aw (i:=0) DJ rf AH rf rf rf) rf<|Aa.op (Ab.call T2 rf (PC hv1 hx1)) rf<|Aa.op (Ab.assign rf) rf<|Aa.Ah<|Wp.ret ?_
 obtain rfl:=si hd
 exact At.q1 1 (Hp.le.refl _) rf (RV.tmp rf) rf
theorem NK{fu:Nat} :∀ {H:Hp} {O:List A2} {a0:(List (List Int))×(List (List (AD×Int×Int)))×Int} {a1:Rx} {a2:Int} {a3:Int} {u1 u2:Value} {F1:JW Int} {G1:JW (AD×Int×Int)} {B0:Nat} {v1:Value} {r:(List (List Int))×(List (List (AD×Int×Int)))×Int} (hNF:A3 Ar H a0.1 F1) (hNG:A3 UD H a0.2.1 G1) (hv1:AL C' H a1.Aq v1) (hd:Cm fu a0 a1 a2 a3=some r),
    Eg Tryz.prog 18 [(ptr B0 0),(.agg #[(.int .i64 a1.kind),(Ad (word a1.set 0)),(Ad (word a1.set 1)),(Ad (word a1.set 2)),(Ad (word a1.set 3)),v1]),(.int .i64 a2),(.int .i64 a3)] H (.Az B0 (.cells #[u1,u2,(.int .i64 a0.2.2)] 55 (0,0)):: .row u1 65 1 (AO F1).length (AO F1):: .row u2 66 1 (AO G1).length (AO G1)::(Bi 3 1 F1++(Bi 68 6 G1++O))) (fun v H' O'=> ∃v1 v2 F G, .tuple #[]=v∧A3 Ar H' r.1 F∧A3 UD H' r.2.1 G∧Pk B0 v1 v2 r.2.2 F G O=O'):=by
 induction fu with
 |zero=>intros;rename_i hd;exact absurd hd (by simp[Cm])
 |succ fu ih=>
 intro H O a0 a1 a2 a3 u1 u2 F1 G1 B0 v1 r hNF hNG hv1 hd
 replace hd:C7 fu (Cm fu) a0 a1 a2 a3=some r:=hd
 generalize Cm fu=slf at hd ih
 intro w hs
 refine Bo Tryz.func18 rf rf rf ?_ hs
 clear hs w
 unfold C7 at hd
 refine Wp.sr<|Aa.box (cs:= #[(.int .i64 a1.kind),(Ad (word a1.set 0)),(Ad (word a1.set 1)),(Ad (word a1.set 2)),(Ad (word a1.set 3)),v1]) rf rf rf fun B2=>Aa.Ah<|Wp.sr<|Aa.op (Ab.A6 (o':=0) CP rf rf) rf<|Aa.op (Ab.Am (i:=0) (v:=(.int .i64 a1.kind)) u3 rf rf rf rf) rf<|Aa.Ah<|Wp.block ?_
 refine Wp.sr<|Aa.op (Ab.eql rf rf) rf<|Aa.op (Ab.assign rf) rf<|Aa.Ah ?_
 refine Wp.cond rf (fun hb1=>?_) (fun hb1=>?_)
 ·
  obtain⟨hb1,hd⟩:=bT hb1 hd
  obtain⟨x1,hx1,hd⟩:=Ag hd
  obtain⟨v3,xs1,hf1,hL1,hi1⟩:=A3.get hNF hx1
  refine Wp.RN [.Az B2 (.cells #[(.int .i64 a1.kind),(Ad (word a1.set 0)),(Ad (word a1.set 1)),(Ad (word a1.set 2)),(Ad (word a1.set 3)),v1] 27 (0,0)), .Az B0 (.cells #[u1,u2,(.int .i64 a0.2.2)] 55 (0,0)), .row u1 65 1 (AO F1).length (AO F1), .row u2 66 1 (AO G1).length (AO G1)] hf1 ?_
  obtain⟨ha1,hd⟩:=Al hd
  obtain⟨_,⟨rfl,_⟩,hc1,hc1_⟩:=Ap.get (A3.row hNF) (AX hi1).2
  obtain⟨_,⟨rfl,_⟩,hc2,hc2_⟩:=Ap.get (A3.row hNF) (AX hi1).2
  refine Wp.emp<|Af.runK 6 [Ay,Ay,Ay,⟨[3],[],[]⟩,Ay,Ay,Ay,Ay,⟨[3],[],[]⟩,Ay,⟨[4],[],[]⟩,⟨[4],[],[]⟩,Ay,⟨[0],[0],[13]⟩,⟨[0,1],[1],[14]⟩,⟨[4],[],[]⟩,⟨[4],[4],[14]⟩] follows rf (by kernel_rfl)<|Af.op (val:=fun p1=>(ptr B0 0)) rf rf (fun _=>rfl) (fun _ p1 _ hx hf hy=>Ab.move rf) rf<|Af.op (val:=fun p1=>(ptr B0 0)) rf rf (fun _=>rfl) (fun _ p1 _ hx hf hy=>Ab.nilCheck rf) rf<|Af.op (val:=fun p1=>(ptr B0 0)) rf rf (fun _=>rfl) (fun _ p1 _ hx hf hy=>Ab.A6 (o':=0) Hv rf rf) rf<|Af.op (val:=fun p1=>u1) rf rf (fun _=>rfl) (fun _ p1 _ hx hf hy=>Ab.Am (i:=3) (v:=u1) FH rf rf (hy 3 _ rf rf) rf) rf<|Af.op (val:=fun p1=>(.int .i64 a2)) rf rf (fun _=>rfl) (fun _ p1 _ hx hf hy=>Ab.move rf) rf<|Af.op (val:=fun p1=>(ptr B0 0)) rf rf (fun _=>rfl) (fun _ p1 _ hx hf hy=>Ab.move rf) rf ?_
  refine Af.op (val:=fun p1=>(ptr B0 0)) rf rf (fun _=>rfl) (fun _ p1 _ hx hf hy=>Ab.nilCheck rf) rf<|Af.op (val:=fun p1=>(ptr B0 0)) rf rf (fun _=>rfl) (fun _ p1 _ hx hf hy=>Ab.A6 (o':=0) Hv rf rf) rf<|Af.op (val:=fun p1=>u1) rf rf (fun _=>rfl) (fun _ p1 _ hx hf hy=>Ab.Am (i:=3) (v:=u1) FH rf rf (hy 3 _ rf rf) rf) rf<|Af.op (val:=fun p1=>(.int .i64 a2)) rf rf (fun _=>rfl) (fun _ p1 _ hx hf hy=>Ab.move rf) rf<|Af.op (val:=fun p1=>(AG u1 ((Int.toNat a2)*1))) rf rf (fun _=>rfl) (fun _ p1 _ hx hf hy=>Ab.Co (j:=4) FH Eo rf (hy 4 _ rf rf) rf (Aj hi1)) rf<|Af.op (val:=fun p1=>v3) rf rf (fun _=>rfl) (fun _ p1 _ hx hf hy=>Ab.EX (i:=4) (k:=(Int.toNat a2)*1+0) Cv rf rf (hy 4 _ rf rf) (hc1 0 _ rf)) rf<|Af.op (val:=fun p1=>(.int .i64 a3)) rf rf (fun _=>rfl) (fun _ p1 _ hx hf hy=>Ab.move rf) rf<|Af.Fz (res:=fun p1=> .row (p1 13) 3 1 1 [(.int .i64 a3)]) 0 rf rf rf (fun _=>rfl) (fun _ p1 _ hx hf hy=>Bc.DM (v:=(.int .i64 a3)) (cs:=[(.int .i64 a3)]) 0 Cv DP rf rf rf rf rf (hy 0 _ rf rf)) rf (fun _=>⟨_,_,_,_,rf⟩) ?_
  refine Af.Fz (res:=fun p1=> .row (p1 14) 3 1 (x1.length+1) (xs1++[(.int .i64 a3)])) 1 rf rf rf (fun _=>rfl) (fun _ p1 _ hx hf hy=>Bc.KE 1 0 Cv DP rf rf rf rf (hy 1 _ rf rf) (hy 0 _ rf rf) (Ac rf (An)) rf ha1) rf (fun _=>⟨_,_,_,_,rf⟩)<|Af.op (val:=fun p1=>(AG u1 ((Int.toNat a2)*1))) rf rf (fun _=>rfl) (fun _ p1 _ hx hf hy=>Ab.Co (j:=4) FH Eo rf (hy 4 _ rf rf) rf (Aj hi1)) rf<|Af.GY (res:=fun p1=> .row u1 65 1 (AO F1).length (E' (AO F1) ((Int.toNat a2)*1+0) [(p1 14)])) 4 rf rf rf (fun _=>rfl) (fun _ p1 _ hx hf hy=>Bc.J0 (k:=(Int.toNat a2)*1+0) (vs:=[(p1 14)]) rf rf (Ef (hf 14 rf rf)) Eo rf rf (Ac (hf 14 rf rf) (An)) (hy 4 _ rf rf) (by have h1:_=_*1:=(A3.row hNF).len;have h2:=Aj hi1;simp only[List.length_cons,List.length_nil];omega))<|Af.done fun H1 p1 hl1 hF1=>At.sub (L':=[]) (Sub.of rf) ?_
  refine At.own (O:= .row (p1 13) 3 1 ([a3]:List Int).length [(.int .i64 a3)]:: .row (p1 14) 3 1 (x1++([a3]:List Int)).length (xs1++[(.int .i64 a3)]):: .Az B2 (.cells #[(.int .i64 a1.kind),(Ad (word a1.set 0)),(Ad (word a1.set 1)),(Ad (word a1.set 2)),(Ad (word a1.set 3)),v1] 27 (0,0)):: .Az B0 (.cells #[u1,u2,(.int .i64 a0.2.2)] 55 (0,0)):: .row u1 65 1 ((AO F1).set (Int.toNat a2) (p1 14)).length (E' (AO F1) ((Int.toNat a2)*1+0) [(p1 14)]):: .row u2 66 1 (AO G1).length (AO G1)::(Bi 3 1 (List.eraseIdx F1 (Int.toNat a2))++(Bi 68 6 G1++O))) ?_ (by first|rfl|(simp only[List.length_append,List.length_set];rfl)|simp)
  have hq1:Ap Ar H1 (x1++([a3]:List Int)) (xs1++[(.int .i64 a3)]):=(Ap.app (hL1.mono hl1) (Ap.Iy (c:=Ar) (a:=a3) (cs:=[(.int .i64 a3)]) rfl))
  refine At.BU (i:=1) rf fun ho1=>?_
  refine At.own (O:= .row (p1 13) 3 1 ([a3]:List Int).length [(.int .i64 a3)]:: .row (p1 14) 3 1 (x1++([a3]:List Int)).length (xs1++[(.int .i64 a3)]):: .Az B2 (.cells #[(.int .i64 a1.kind),(Ad (word a1.set 0)),(Ad (word a1.set 1)),(Ad (word a1.set 2)),(Ad (word a1.set 3)),v1] 27 (0,0)):: .Az B0 (.cells #[u1,u2,(.int .i64 a0.2.2)] 55 (0,0)):: .row u1 65 1 (AO (List.set F1 (Int.toNat a2) ((p1 14),x1++([a3]:List Int),xs1++[(.int .i64 a3)]))).length (AO (List.set F1 (Int.toNat a2) ((p1 14),x1++([a3]:List Int),xs1++[(.int .i64 a3)]))):: .row u2 66 1 (AO G1).length (AO G1)::(Bi 3 1 (List.eraseIdx F1 (Int.toNat a2))++(Bi 68 6 G1++O))) ?_ (by rw[show E' (AO F1) ((Int.toNat a2)*1+0) [(p1 14)]=AO (List.set F1 (Int.toNat a2) ((p1 14),x1++([a3]:List Int),xs1++[(.int .i64 a3)]))from NF _ _ _ hf1,show(AO F1).set (Int.toNat a2) (p1 14)=AO (List.set F1 (Int.toNat a2) ((p1 14),x1++([a3]:List Int),xs1++[(.int .i64 a3)]))from LR _ _ _])
  refine At.AW [1,2,3,4,5] 6 rf rf rf<|At.JX [.Az B2 (.cells #[(.int .i64 a1.kind),(Ad (word a1.set 0)),(Ad (word a1.set 1)),(Ad (word a1.set 2)),(Ad (word a1.set 3)),v1] 27 (0,0)), .Az B0 (.cells #[u1,u2,(.int .i64 a0.2.2)] 55 (0,0)), .row u1 65 1 (AO (List.set F1 (Int.toNat a2) ((p1 14),x1++([a3]:List Int),xs1++[(.int .i64 a3)]))).length (AO (List.set F1 (Int.toNat a2) ((p1 14),x1++([a3]:List Int),xs1++[(.int .i64 a3)]))), .row u2 66 1 (AO G1).length (AO G1)] ((p1 14),x1++([a3]:List Int),xs1++[(.int .i64 a3)]) hf1 ?_
  have hN1:A3 Ar H1 (List.set a0.1 (Int.toNat a2) (x1++([a3]:List Int))) (List.set F1 (Int.toNat a2) ((p1 14),x1++([a3]:List Int),xs1++[(.int .i64 a3)])):=A3.set (hNF.mono hl1) hq1 ho1
  refine At.AF ?_
  obtain rfl:=si hd
  exact At.IH rf (fun w hs=>⟨_,_,_,rf,hl1,(hs.BW 1),u1,u2,(List.set F1 (Int.toNat a2) ((p1 14),x1++([a3]:List Int),xs1++[(.int .i64 a3)])),G1,rf,hN1,(hNG.mono hl1),rf⟩)
 obtain⟨hb1,hd⟩:=bF hb1 hd
 refine Wp.sr<|Aa.op (Ab.eql rf rf) rf<|Aa.op (Ab.assign rf) rf<|Aa.Ah ?_
 refine Wp.cond rf (fun hb2=>?_) (fun hb2=>?_)
 ·
  obtain⟨hb2,hd⟩:=bT hb2 hd
  refine Wp.seq ?_
  obtain⟨x2,hx2,hd⟩:=Ag hd
  obtain⟨v4,xs2,hf2,hL2,hi2⟩:=A3.get hNG hx2
  refine Wp.Tt [.Az B2 (.cells #[(.int .i64 a1.kind),(Ad (word a1.set 0)),(Ad (word a1.set 1)),(Ad (word a1.set 2)),(Ad (word a1.set 3)),v1] 27 (0,0)), .Az B0 (.cells #[u1,u2,(.int .i64 a0.2.2)] 55 (0,0)), .row u1 65 1 (AO F1).length (AO F1), .row u2 66 1 (AO G1).length (AO G1)] hf2 ?_
  obtain⟨ha2,hd⟩:=Al hd
  obtain⟨_,⟨rfl,_⟩,hc3,hc3_⟩:=Ap.get (A3.row hNG) (AX hi2).2
  obtain⟨_,⟨rfl,_⟩,hc4,hc4_⟩:=Ap.get (A3.row hNG) (AX hi2).2
  refine Wp.emp<|Af.runK 6 [Ay,Ay,Ay,⟨[3],[],[]⟩,Ay,Ay,Ay,Ay,⟨[3],[],[]⟩,Ay,⟨[5],[],[]⟩,⟨[5],[],[]⟩,Ay,⟨[2],[],[]⟩,Ay,Ay,Ay,Ay,⟨[3],[],[]⟩,Ay,⟨[0],[0],[20]⟩,⟨[0,1],[1],[21]⟩,⟨[5],[],[]⟩,⟨[5],[5],[21]⟩] follows rf (by kernel_rfl)<|Af.op (val:=fun p2=>(ptr B0 0)) rf rf (fun _=>rfl) (fun _ p2 _ hx hf hy=>Ab.move rf) rf<|Af.op (val:=fun p2=>(ptr B0 0)) rf rf (fun _=>rfl) (fun _ p2 _ hx hf hy=>Ab.nilCheck rf) rf<|Af.op (val:=fun p2=>(ptr B0 1)) rf rf (fun _=>rfl) (fun _ p2 _ hx hf hy=>Ab.A6 (o':=1) Hu rf rf) rf<|Af.op (val:=fun p2=>u2) rf rf (fun _=>rfl) (fun _ p2 _ hx hf hy=>Ab.Am (i:=3) (v:=u2) Rh rf rf (hy 3 _ rf rf) rf) rf<|Af.op (val:=fun p2=>(.int .i64 a2)) rf rf (fun _=>rfl) (fun _ p2 _ hx hf hy=>Ab.move rf) rf<|Af.op (val:=fun p2=>(ptr B0 0)) rf rf (fun _=>rfl) (fun _ p2 _ hx hf hy=>Ab.move rf) rf ?_
  refine Af.op (val:=fun p2=>(ptr B0 0)) rf rf (fun _=>rfl) (fun _ p2 _ hx hf hy=>Ab.nilCheck rf) rf<|Af.op (val:=fun p2=>(ptr B0 1)) rf rf (fun _=>rfl) (fun _ p2 _ hx hf hy=>Ab.A6 (o':=1) Hu rf rf) rf<|Af.op (val:=fun p2=>u2) rf rf (fun _=>rfl) (fun _ p2 _ hx hf hy=>Ab.Am (i:=3) (v:=u2) Rh rf rf (hy 3 _ rf rf) rf) rf<|Af.op (val:=fun p2=>(.int .i64 a2)) rf rf (fun _=>rfl) (fun _ p2 _ hx hf hy=>Ab.move rf) rf<|Af.op (val:=fun p2=>(AG u2 ((Int.toNat a2)*1))) rf rf (fun _=>rfl) (fun _ p2 _ hx hf hy=>Ab.Co (j:=5) Rh N5 rf (hy 5 _ rf rf) rf (Aj hi2)) rf<|Af.op (val:=fun p2=>v4) rf rf (fun _=>rfl) (fun _ p2 _ hx hf hy=>Ab.EX (i:=5) (k:=(Int.toNat a2)*1+0) Sb rf rf (hy 5 _ rf rf) (hc3 0 _ rf)) rf<|Af.op (val:=fun p2=>(ptr B2 1)) rf rf (fun _=>rfl) (fun _ p2 _ hx hf hy=>Ab.A6 (o':=1) GG rf rf) rf<|Af.op (val:=fun p2=>(.agg #[(Ad (word a1.set 0)),(Ad (word a1.set 1)),(Ad (word a1.set 2)),(Ad (word a1.set 3))])) rf rf (fun _=>rfl) (fun _ p2 _ hx hf hy=>Ab.Ga (i:=2) (vs:=[(Ad (word a1.set 0)),(Ad (word a1.set 1)),(Ad (word a1.set 2)),(Ad (word a1.set 3))]) K1 rf Bu rf (hy 2 _ rf rf) rf) rf ?_
  refine Af.op (val:=fun p2=>(.int .i64 a3)) rf rf (fun _=>rfl) (fun _ p2 _ hx hf hy=>Ab.move rf) rf<|Af.op (val:=fun p2=>(ptr B0 0)) rf rf (fun _=>rfl) (fun _ p2 _ hx hf hy=>Ab.move rf) rf<|Af.op (val:=fun p2=>(ptr B0 0)) rf rf (fun _=>rfl) (fun _ p2 _ hx hf hy=>Ab.nilCheck rf) rf<|Af.op (val:=fun p2=>(ptr B0 2)) rf rf (fun _=>rfl) (fun _ p2 _ hx hf hy=>Ab.A6 (o':=2) PQ rf rf) rf<|Af.op (val:=fun p2=>(.int .i64 a0.2.2)) rf rf (fun _=>rfl) (fun _ p2 _ hx hf hy=>Ab.Am (i:=3) (v:=(.int .i64 a0.2.2)) u3 rf rf (hy 3 _ rf rf) rf) rf<|Af.op (val:=fun p2=>(.agg #[(Ad (word a1.set 0)),(Ad (word a1.set 1)),(Ad (word a1.set 2)),(Ad (word a1.set 3)),(.int .i64 a3),(.int .i64 a0.2.2)])) rf rf (fun _=>rfl) (fun _ p2 _ hx hf hy=>Ab.Bj (vs:=[(0,(.agg #[(Ad (word a1.set 0)),(Ad (word a1.set 1)),(Ad (word a1.set 2)),(Ad (word a1.set 3))])),(1,(.int .i64 a3)),(2,(.int .i64 a0.2.2))]) (cs:= #[(Ad (word a1.set 0)),(Ad (word a1.set 1)),(Ad (word a1.set 2)),(Ad (word a1.set 3)),(.int .i64 a3),(.int .i64 a0.2.2)]) XZ IW rf rf (AK rf (AK rf (AK rf (A8)))) rf) rf<|Af.Fz (res:=fun p2=> .row (p2 20) 68 6 1 [(Ad (word a1.set 0)),(Ad (word a1.set 1)),(Ad (word a1.set 2)),(Ad (word a1.set 3)),(.int .i64 a3),(.int .i64 a0.2.2)]) 0 rf rf rf (fun _=>rfl) (fun _ p2 _ hx hf hy=>Bc.DM (v:=(.agg #[(Ad (word a1.set 0)),(Ad (word a1.set 1)),(Ad (word a1.set 2)),(Ad (word a1.set 3)),(.int .i64 a3),(.int .i64 a0.2.2)])) (cs:=[(Ad (word a1.set 0)),(Ad (word a1.set 1)),(Ad (word a1.set 2)),(Ad (word a1.set 3)),(.int .i64 a3),(.int .i64 a0.2.2)]) 0 Sb IW rf rf rf rf rf (hy 0 _ rf rf)) rf (fun _=>⟨_,_,_,_,rf⟩)<|Af.Fz (res:=fun p2=> .row (p2 21) 68 6 (x2.length+1) (xs2++[(Ad (word a1.set 0)),(Ad (word a1.set 1)),(Ad (word a1.set 2)),(Ad (word a1.set 3)),(.int .i64 a3),(.int .i64 a0.2.2)])) 1 rf rf rf (fun _=>rfl) (fun _ p2 _ hx hf hy=>Bc.KE 1 0 Sb IW rf rf rf rf (hy 1 _ rf rf) (hy 0 _ rf rf) (Ac rf (Ac rf (Ac rf (Ac rf (Ac rf (Ac rf (An))))))) rf ha2) rf (fun _=>⟨_,_,_,_,rf⟩) ?_
  refine Af.op (val:=fun p2=>(AG u2 ((Int.toNat a2)*1))) rf rf (fun _=>rfl) (fun _ p2 _ hx hf hy=>Ab.Co (j:=5) Rh N5 rf (hy 5 _ rf rf) rf (Aj hi2)) rf<|Af.GY (res:=fun p2=> .row u2 66 1 (AO G1).length (E' (AO G1) ((Int.toNat a2)*1+0) [(p2 21)])) 5 rf rf rf (fun _=>rfl) (fun _ p2 _ hx hf hy=>Bc.J0 (k:=(Int.toNat a2)*1+0) (vs:=[(p2 21)]) rf rf (Ef (hf 21 rf rf)) N5 rf rf (Ac (hf 21 rf rf) (An)) (hy 5 _ rf rf) (by have h1:_=_*1:=(A3.row hNG).len;have h2:=Aj hi2;simp only[List.length_cons,List.length_nil];omega))<|Af.done fun H2 p2 hl2 hF2=>At.sub (L':=[(0,(ptr B0 0))]) (Sub.of rf) ?_
  refine At.own (O:= .row (p2 20) 68 6 ([(a1.set,a3,a0.2.2)]:List (AD×Int×Int)).length [(Ad (word a1.set 0)),(Ad (word a1.set 1)),(Ad (word a1.set 2)),(Ad (word a1.set 3)),(.int .i64 a3),(.int .i64 a0.2.2)]:: .row (p2 21) 68 6 (x2++([(a1.set,a3,a0.2.2)]:List (AD×Int×Int))).length (xs2++[(Ad (word a1.set 0)),(Ad (word a1.set 1)),(Ad (word a1.set 2)),(Ad (word a1.set 3)),(.int .i64 a3),(.int .i64 a0.2.2)]):: .Az B2 (.cells #[(.int .i64 a1.kind),(Ad (word a1.set 0)),(Ad (word a1.set 1)),(Ad (word a1.set 2)),(Ad (word a1.set 3)),v1] 27 (0,0)):: .Az B0 (.cells #[u1,u2,(.int .i64 a0.2.2)] 55 (0,0)):: .row u1 65 1 (AO F1).length (AO F1):: .row u2 66 1 ((AO G1).set (Int.toNat a2) (p2 21)).length (E' (AO G1) ((Int.toNat a2)*1+0) [(p2 21)])::(Bi 3 1 F1++(Bi 68 6 (List.eraseIdx G1 (Int.toNat a2))++O))) ?_ (by first|rfl|(simp only[List.length_append,List.length_set];rfl)|simp)
  have hq2:Ap (cP KA (cP Ar Ar)) H2 (x2++([(a1.set,a3,a0.2.2)]:List (AD×Int×Int))) (xs2++[(Ad (word a1.set 0)),(Ad (word a1.set 1)),(Ad (word a1.set 2)),(Ad (word a1.set 3)),(.int .i64 a3),(.int .i64 a0.2.2)]):=(Ap.app (hL2.mono hl2) (Ap.Iy (c:=(cP KA (cP Ar Ar))) (a:=(a1.set,a3,a0.2.2)) (cs:=[(Ad (word a1.set 0)),(Ad (word a1.set 1)),(Ad (word a1.set 2)),(Ad (word a1.set 3)),(.int .i64 a3),(.int .i64 a0.2.2)]) (⟨[(Ad (word a1.set 0)),(Ad (word a1.set 1)),(Ad (word a1.set 2)),(Ad (word a1.set 3))],[(.int .i64 a3),(.int .i64 a0.2.2)],rfl,rfl,⟨[(.int .i64 a3)],[(.int .i64 a0.2.2)],rfl,rfl,rfl⟩⟩)))
  refine At.BU (i:=1) rf fun ho2=>?_
  refine At.own (O:= .row (p2 20) 68 6 ([(a1.set,a3,a0.2.2)]:List (AD×Int×Int)).length [(Ad (word a1.set 0)),(Ad (word a1.set 1)),(Ad (word a1.set 2)),(Ad (word a1.set 3)),(.int .i64 a3),(.int .i64 a0.2.2)]:: .row (p2 21) 68 6 (x2++([(a1.set,a3,a0.2.2)]:List (AD×Int×Int))).length (xs2++[(Ad (word a1.set 0)),(Ad (word a1.set 1)),(Ad (word a1.set 2)),(Ad (word a1.set 3)),(.int .i64 a3),(.int .i64 a0.2.2)]):: .Az B2 (.cells #[(.int .i64 a1.kind),(Ad (word a1.set 0)),(Ad (word a1.set 1)),(Ad (word a1.set 2)),(Ad (word a1.set 3)),v1] 27 (0,0)):: .Az B0 (.cells #[u1,u2,(.int .i64 a0.2.2)] 55 (0,0)):: .row u1 65 1 (AO F1).length (AO F1):: .row u2 66 1 (AO (List.set G1 (Int.toNat a2) ((p2 21),x2++([(a1.set,a3,a0.2.2)]:List (AD×Int×Int)),xs2++[(Ad (word a1.set 0)),(Ad (word a1.set 1)),(Ad (word a1.set 2)),(Ad (word a1.set 3)),(.int .i64 a3),(.int .i64 a0.2.2)]))).length (AO (List.set G1 (Int.toNat a2) ((p2 21),x2++([(a1.set,a3,a0.2.2)]:List (AD×Int×Int)),xs2++[(Ad (word a1.set 0)),(Ad (word a1.set 1)),(Ad (word a1.set 2)),(Ad (word a1.set 3)),(.int .i64 a3),(.int .i64 a0.2.2)])))::(Bi 3 1 F1++(Bi 68 6 (List.eraseIdx G1 (Int.toNat a2))++O))) ?_ (by rw[show E' (AO G1) ((Int.toNat a2)*1+0) [(p2 21)]=AO (List.set G1 (Int.toNat a2) ((p2 21),x2++([(a1.set,a3,a0.2.2)]:List (AD×Int×Int)),xs2++[(Ad (word a1.set 0)),(Ad (word a1.set 1)),(Ad (word a1.set 2)),(Ad (word a1.set 3)),(.int .i64 a3),(.int .i64 a0.2.2)]))from NF _ _ _ hf2,show(AO G1).set (Int.toNat a2) (p2 21)=AO (List.set G1 (Int.toNat a2) ((p2 21),x2++([(a1.set,a3,a0.2.2)]:List (AD×Int×Int)),xs2++[(Ad (word a1.set 0)),(Ad (word a1.set 1)),(Ad (word a1.set 2)),(Ad (word a1.set 3)),(.int .i64 a3),(.int .i64 a0.2.2)]))from LR _ _ _])
  refine At.AW [1,2,3,4,5] 6 rf rf rf<|At.M4 [.Az B2 (.cells #[(.int .i64 a1.kind),(Ad (word a1.set 0)),(Ad (word a1.set 1)),(Ad (word a1.set 2)),(Ad (word a1.set 3)),v1] 27 (0,0)), .Az B0 (.cells #[u1,u2,(.int .i64 a0.2.2)] 55 (0,0)), .row u1 65 1 (AO F1).length (AO F1), .row u2 66 1 (AO (List.set G1 (Int.toNat a2) ((p2 21),x2++([(a1.set,a3,a0.2.2)]:List (AD×Int×Int)),xs2++[(Ad (word a1.set 0)),(Ad (word a1.set 1)),(Ad (word a1.set 2)),(Ad (word a1.set 3)),(.int .i64 a3),(.int .i64 a0.2.2)]))).length (AO (List.set G1 (Int.toNat a2) ((p2 21),x2++([(a1.set,a3,a0.2.2)]:List (AD×Int×Int)),xs2++[(Ad (word a1.set 0)),(Ad (word a1.set 1)),(Ad (word a1.set 2)),(Ad (word a1.set 3)),(.int .i64 a3),(.int .i64 a0.2.2)])))] ((p2 21),x2++([(a1.set,a3,a0.2.2)]:List (AD×Int×Int)),xs2++[(Ad (word a1.set 0)),(Ad (word a1.set 1)),(Ad (word a1.set 2)),(Ad (word a1.set 3)),(.int .i64 a3),(.int .i64 a0.2.2)]) hf2 ?_
  have hN2:A3 UD H2 (List.set a0.2.1 (Int.toNat a2) (x2++([(a1.set,a3,a0.2.2)]:List (AD×Int×Int)))) (List.set G1 (Int.toNat a2) ((p2 21),x2++([(a1.set,a3,a0.2.2)]:List (AD×Int×Int)),xs2++[(Ad (word a1.set 0)),(Ad (word a1.set 1)),(Ad (word a1.set 2)),(Ad (word a1.set 3)),(.int .i64 a3),(.int .i64 a0.2.2)])):=A3.set (hNG.mono hl2) hq2 ho2
  refine At.Ae ?_
  obtain⟨ha3,hd⟩:=Al hd
  refine Wp.region<|Aa.op (Ab.move rf) rf<|Aa.op (Ab.nilCheck rf) rf<|Aa.op (Ab.A6 (o':=2) PQ rf rf) rf<|Aa.op (Ab.Am (i:=1) (v:=(.int .i64 a0.2.2)) u3 rf rf rf rf) rf<|Aa.op (Ab.add rf rf (Av ha3)) rf<|Aa.op (Ab.nilCheck rf) rf<|Aa.op (Ab.A6 (o':=2) PQ rf rf) rf ?_
  refine Aa.Dc (i:=1) rf rf rf DP rf (Nat.le_of_ble_eq_true rf) ?_
  refine Aa.own (O:=_::_::_::_::_) ?_ rf
  refine Aa.nil<|At.AF ?_
  obtain rfl:=si hd
  exact At.IH rf (fun w hs=>⟨_,_,_,rf,hl2,(hs.BW 1),u1,u2,F1,(List.set G1 (Int.toNat a2) ((p2 21),x2++([(a1.set,a3,a0.2.2)]:List (AD×Int×Int)),xs2++[(Ad (word a1.set 0)),(Ad (word a1.set 1)),(Ad (word a1.set 2)),(Ad (word a1.set 3)),(.int .i64 a3),(.int .i64 a0.2.2)])),rf,(hNF.mono hl2),hN2,rf⟩)
 obtain⟨hb2,hd⟩:=bF hb2 hd
 refine Wp.sr<|Aa.op (Ab.eql rf rf) rf<|Aa.op (Ab.assign rf) rf<|Aa.Ah ?_
 refine Wp.cond rf (fun hb3=>?_) (fun hb3=>?_)
 ·
  obtain⟨hb3,hd⟩:=bT hb3 hd
  refine Wp.sr<|Aa.op (Ab.A6 (o':=5) CA rf rf) rf<|Aa.op (Ab.Am (i:=0) (v:=v1) Da rf rf rf rf) rf ?_
  have hb4:=hv1.le
  refine Aa.op (Ab.len Da rf hv1.sl) rf<|Aa.op (Ab.move rf) rf<|Aa.Ah<|Wp.block<|Wp.Bt (fun m LL HH OO=> ∃(d1:List (List Int)),∃(e1:List (List (AD×Int×Int))),∃(k1:Nat),∃(i1:Int),∃(F2:JW Int),∃(G2:JW (AD×Int×Int)),∃(v5:Value),∃(v6:Value),[(0,(ptr B0 0)),(2,(.int .i64 a2)),(3,(.int .i64 a3)),(70,v1),(71,(.int .i64 (a1.Aq.length:Int))),(72,(.int .i64 (k1:Int)))]=LL∧ .Az B2 (.cells #[(.int .i64 a1.kind),(Ad (word a1.set 0)),(Ad (word a1.set 1)),(Ad (word a1.set 2)),(Ad (word a1.set 3)),v1] 27 (0,0)):: .Az B0 (.cells #[v5,v6,(.int .i64 i1)] 55 (0,0)):: .row v5 65 1 (AO F2).length (AO F2):: .row v6 66 1 (AO G2).length (AO G2)::(Bi 3 1 F2++(Bi 68 6 G2++O))=OO∧Ax m (fun p nx=>BM fu a1 a2 a3 slf p.1 p.2.1 p.2.2.1 p.2.2.2 nx) (d1,e1,k1,i1)=some r∧A3 Ar HH d1 F2∧A3 UD HH e1 G2) fu ⟨a0.1,a0.2.1,0,a0.2.2,F1,G1,u1,u2,rf,rf,hd,hNF,hNG⟩ (Sub.of rf) ?_
  intro m1 L1 H3 O1 hl3 hI1
  obtain⟨d1,e1,k1,i1,F2,G2,v5,v6,rfl,rfl,hd,hN3,hN4⟩:=hI1
  obtain⟨m2,nx1,rfl,hn1,hd⟩:=Bm hd
  replace hd:BM fu a1 a2 a3 slf d1 e1 k1 i1 nx1=some r:=hd
  unfold BM at hd
  refine Wp.sr<|Aa.op (Ab.lss rf rf) rf<|Aa.Ah<|Wp.seq ?_
  refine Wp.cond rf (fun hb5=>?_) (fun hb5=>?_)
  ·
   obtain⟨hb5,hd⟩:=bT hb5 hd
   refine Wp.skip<|At.Ae<|Wp.seq<|Wp.block<|Wp.seq ?_
   obtain⟨x3,hx3,hd⟩:=Ag hd
   have hx3_:=Aj hx3
   refine Wp.region ?_
   obtain⟨_,hz1,hc5⟩:=AL.get (hv1.mono hl3) hx3
   obtain⟨v7,rfl,hv2⟩:=CC.1 hz1
   refine Aa.op (Ab.Bz Da AH rf (hv1.mono hl3).sl rf (Aj hx3)) rf<|Aa.op (Ab.DA (vs:=[(.int .i64 x3.kind),(Ad (word x3.set 0)),(Ad (word x3.set 1)),(Ad (word x3.set 2)),(Ad (word x3.set 3)),v7]) DJ rf AH rf rf (fun j u hj=>(hc5 j u hj))) rf<|Aa.alloc (cs:= #[(.int .i64 0),(Ad (word (fun _=>false) 0)),(Ad (word (fun _=>false) 1)),(Ad (word (fun _=>false) 2)),(Ad (word (fun _=>false) 3)),(.slice none 0 0)]) AH (by simp only[zw];rfl) rf fun B3=>Aa.AM (i:=0) (cs':= #[(.int .i64 x3.kind),(Ad (word x3.set 0)),(Ad (word x3.set 1)),(Ad (word x3.set 2)),(Ad (word x3.set 3)),v7]) rf rf AH rf rf (Bd (Ac rf (Ac rf (Ac rf (Ac rf (Ac rf (Ac hv2.one (An)))))))) rf ?_
   refine Aa.own (O:=_::_::_::_::_::_) ?_ rf
   refine Aa.Ah ?_
   obtain⟨x4,hx4,hd⟩:=Ag hd
   refine Wp.region<|Aa.op (Ab.move rf) rf<|Aa.op (Ab.Aw (i:=0) DJ rf AH rf rf rf) rf<|Aa.op (Ab.move rf) rf<|Aa.op (Ab.move rf) rf<|Aa.GC [.Az B3 (.cells #[(.int .i64 x3.kind),(Ad (word x3.set 0)),(Ad (word x3.set 1)),(Ad (word x3.set 2)),(Ad (word x3.set 3)),v7] 27 (0,0)), .Az B2 (.cells #[(.int .i64 a1.kind),(Ad (word a1.set 0)),(Ad (word a1.set 1)),(Ad (word a1.set 2)),(Ad (word a1.set 3)),v1] 27 (0,0))]<|Aa.Fi (Bc.call QT rf (ih (a0:=(d1,e1,i1)) hN3 hN4 hv2 hx4)) rf ?_
   rintro _ H4 _ hl4 ⟨v8,v9,F3,G3,rfl,hN5,hN6,rfl⟩
   refine Aa.IJ [.Az B3 (.cells #[(.int .i64 x3.kind),(Ad (word x3.set 0)),(Ad (word x3.set 1)),(Ad (word x3.set 2)),(Ad (word x3.set 3)),v7] 27 (0,0)), .Az B2 (.cells #[(.int .i64 a1.kind),(Ad (word a1.set 0)),(Ad (word a1.set 1)),(Ad (word a1.set 2)),(Ad (word a1.set 3)),v1] 27 (0,0))] ?_
   refine Aa.own (O:=_::_::_::_::_::_) ?_ rf
   refine Aa.nil<|At.AF<|At.Ae<|Wp.region<|Aa.op (Ab.add rf rf (Av (by omega))) rf<|Aa.op (Ab.move rf) rf<|Aa.nil<|At.AW [1,2,3,4] 5 rf rf rf ?_
   refine At.AZ hl4 ⟨x4.1,x4.2.1,(k1+1),x4.2.2,F3,G3,v8,v9,rf,rf,(by rw[←hn1];exact hd),hN5,hN6⟩ (Sub.of rf)
  obtain⟨hb5,hd⟩:=bF hb5 hd
  refine Wp.exit<|At.Ao<|At.Ao<|At.AB<|At.AF ?_
  obtain rfl:=si hd
  exact At.IH rf (fun w hs=>⟨_,_,_,rf,hl3,(hs.BW 1),v5,v6,F2,G2,rf,hN3,hN4,rf⟩)
 obtain⟨hb3,hd⟩:=bF hb3 hd
 refine Wp.sr<|Aa.op (Ab.eql rf rf) rf<|Aa.op (Ab.assign rf) rf<|Aa.Ah ?_
 refine Wp.cond rf (fun hb6=>?_) (fun hb6=>?_)
 ·
  obtain⟨hb6,hd⟩:=bT hb6 hd
  refine Wp.sr<|Aa.op (Ab.move rf) rf<|Aa.op (Ab.assign rf) rf<|Aa.Ah<|Wp.sr<|Aa.op (Ab.A6 (o':=5) CA rf rf) rf<|Aa.op (Ab.Am (i:=0) (v:=v1) Da rf rf rf rf) rf ?_
  have hb7:=hv1.le
  refine Aa.op (Ab.len Da rf hv1.sl) rf<|Aa.op (Ab.move rf) rf<|Aa.Ah<|Wp.block<|Wp.Bt (fun m LL HH OO=> ∃(d2:List (List Int)),∃(e2:List (List (AD×Int×Int))),∃(i2:Int),∃(k2:Nat),∃(i3:Int),∃(F4:JW Int),∃(G4:JW (AD×Int×Int)),∃(v10:Value),∃(v11:Value),[(0,(ptr B0 0)),(3,(.int .i64 a3)),(5,(ptr B2 0)),(10,(.int .i64 i2)),(86,v1),(87,(.int .i64 (a1.Aq.length:Int))),(88,(.int .i64 (k2:Int)))]=LL∧ .Az B2 (.cells #[(.int .i64 a1.kind),(Ad (word a1.set 0)),(Ad (word a1.set 1)),(Ad (word a1.set 2)),(Ad (word a1.set 3)),v1] 27 (0,0)):: .Az B0 (.cells #[v10,v11,(.int .i64 i3)] 55 (0,0)):: .row v10 65 1 (AO F4).length (AO F4):: .row v11 66 1 (AO G4).length (AO G4)::(Bi 3 1 F4++(Bi 68 6 G4++O))=OO∧Ax m (fun p nx=>BL fu a1 a3 slf p.1 p.2.1 p.2.2.1 p.2.2.2.1 p.2.2.2.2 nx) (d2,e2,i2,k2,i3)=some r∧A3 Ar HH d2 F4∧A3 UD HH e2 G4) fu ⟨a0.1,a0.2.1,a2,0,a0.2.2,F1,G1,u1,u2,rf,rf,hd,hNF,hNG⟩ (Sub.of rf) ?_
  intro m3 L2 H5 O2 hl5 hI2
  obtain⟨d2,e2,i2,k2,i3,F4,G4,v10,v11,rfl,rfl,hd,hN7,hN8⟩:=hI2
  obtain⟨m4,nx2,rfl,hn2,hd⟩:=Bm hd
  replace hd:BL fu a1 a3 slf d2 e2 i2 k2 i3 nx2=some r:=hd
  unfold BL at hd
  refine Wp.sr<|Aa.op (Ab.lss rf rf) rf<|Aa.Ah<|Wp.seq ?_
  refine Wp.cond rf (fun hb8=>?_) (fun hb8=>?_)
  ·
   obtain⟨hb8,hd⟩:=bT hb8 hd
   refine Wp.skip<|At.Ae<|Wp.seq<|Wp.block<|Wp.seq ?_
   obtain⟨x5,hx5,hd⟩:=Ag hd
   have hx5_:=Aj hx5
   refine Wp.region<|Aa.op (Ab.move rf) rf ?_
   obtain⟨_,hz2,hc6⟩:=AL.get (hv1.mono hl5) hx5
   obtain⟨v12,rfl,hv3⟩:=CC.1 hz2
   refine Aa.op (Ab.Bz Da AH rf (hv1.mono hl5).sl rf (Aj hx5)) rf<|Aa.op (Ab.DA (vs:=[(.int .i64 x5.kind),(Ad (word x5.set 0)),(Ad (word x5.set 1)),(Ad (word x5.set 2)),(Ad (word x5.set 3)),v12]) DJ rf AH rf rf (fun j u hj=>(hc6 j u hj))) rf<|Aa.alloc (cs:= #[(.int .i64 0),(Ad (word (fun _=>false) 0)),(Ad (word (fun _=>false) 1)),(Ad (word (fun _=>false) 2)),(Ad (word (fun _=>false) 3)),(.slice none 0 0)]) AH (by simp only[zw];rfl) rf fun B4=>Aa.op (Ab.assign rf) rf<|Aa.AM (i:=0) (cs':= #[(.int .i64 x5.kind),(Ad (word x5.set 0)),(Ad (word x5.set 1)),(Ad (word x5.set 2)),(Ad (word x5.set 3)),v12]) rf rf AH rf rf (Bd (Ac rf (Ac rf (Ac rf (Ac rf (Ac rf (Ac hv3.one (An)))))))) rf ?_
   refine Aa.own (O:=_::_::_::_::_::_) ?_ rf
   refine Aa.Ah<|Wp.sr<|Aa.op (Ab.move rf) rf<|Aa.op (Ab.assign rf) rf<|Aa.Ah<|Wp.seq<|Wp.sr<|Aa.op (Ab.move rf) rf ?_
   refine Aa.op (Ab.add rf rf (Av (by omega))) rf<|Aa.op (Ab.A6 (o':=5) CA rf rf) rf<|Aa.op (Ab.Am (i:=1) (v:=v1) Da rf rf rf rf) rf ?_
   have hb9:=hv1.le
   refine Aa.op (Ab.len Da rf (hv1.mono hl5).sl) rf<|Aa.op (Ab.lss rf rf) rf<|Aa.Ah ?_
   refine Wp.Jx (fun LL HH OO=> ∃(d3:List (List Int)),∃(e3:List (List (AD×Int×Int))),∃(i4:Int),∃(F5:JW Int),∃(G5:JW (AD×Int×Int)),∃(v13:Value),∃(v14:Value),[(0,(ptr B0 0)),(3,(.int .i64 a3)),(5,(ptr B2 0)),(10,(.int .i64 i2)),(12,(ptr B4 0)),(13,(.int .i64 i4)),(86,v1),(87,(.int .i64 (a1.Aq.length:Int))),(88,(.int .i64 (k2:Int)))]=LL∧ .Az B4 (.cells #[(.int .i64 x5.kind),(Ad (word x5.set 0)),(Ad (word x5.set 1)),(Ad (word x5.set 2)),(Ad (word x5.set 3)),v12] 27 (0,0)):: .Az B2 (.cells #[(.int .i64 a1.kind),(Ad (word a1.set 0)),(Ad (word a1.set 1)),(Ad (word a1.set 2)),(Ad (word a1.set 3)),v1] 27 (0,0)):: .Az B0 (.cells #[v13,v14,(.int .i64 i3)] 55 (0,0)):: .row v13 65 1 (AO F5).length (AO F5):: .row v14 66 1 (AO G5).length (AO G5)::(Bi 3 1 F5++(Bi 68 6 G5++O))=OO∧CH fu slf i2 k2 i3 nx2 x5 d3 e3 i4=some r∧A3 Ar HH d3 F5∧A3 UD HH e3 G5) ?_ ?_
   ·
    refine Wp.cond rf (fun hb10=>?_) (fun hb10=>?_)
    ·
     obtain⟨hb10,hd⟩:=bT hb10 hd
     obtain⟨ha4,hd⟩:=Al hd
     obtain⟨ha5,hd⟩:=Al hd
     refine Wp.region<|Aa.op (Ab.move rf) rf<|Aa.GC [.Az B4 (.cells #[(.int .i64 x5.kind),(Ad (word x5.set 0)),(Ad (word x5.set 1)),(Ad (word x5.set 2)),(Ad (word x5.set 3)),v12] 27 (0,0)), .Az B2 (.cells #[(.int .i64 a1.kind),(Ad (word a1.set 0)),(Ad (word a1.set 1)),(Ad (word a1.set 2)),(Ad (word a1.set 3)),v1] 27 (0,0))]<|Aa.Fi (Bc.call QU rf (KH hN7 hN8 ha4 ha5)) rf ?_
     rintro _ H6 _ hl6 ⟨v15,v16,rfl,rfl⟩
     refine Aa.IJ [.Az B4 (.cells #[(.int .i64 x5.kind),(Ad (word x5.set 0)),(Ad (word x5.set 1)),(Ad (word x5.set 2)),(Ad (word x5.set 3)),v12] 27 (0,0)), .Az B2 (.cells #[(.int .i64 a1.kind),(Ad (word a1.set 0)),(Ad (word a1.set 1)),(Ad (word a1.set 2)),(Ad (word a1.set 3)),v1] 27 (0,0))] ?_
     have hN9:=A3.mono (A3.add hN7) hl6;have hN10:=A3.mono (A3.add hN8) hl6
     refine Aa.own (O:=_::_::_::_::_::_) ?_ rf
     refine Aa.op (Ab.assign rf) rf<|Aa.nil ?_
     refine At.EC hl6 ⟨(d2++[[]]),(e2++[[]]),(e2.length:Int),(F4++[(Value.slice none 0 0,[],[])]),(G4++[(Value.slice none 0 0,[],[])]),v15,v16,rf,rf,hd,hN9,hN10⟩ (Sub.of rf)
    obtain⟨hb10,hd⟩:=bF hb10 hd
    refine Wp.skip ?_
    refine At.EC (Hp.le.refl _) ⟨d2,e2,a3,F4,G4,v10,v11,rf,rf,hd,hN7,hN8⟩ (Sub.of rf)
   intro L3 H7 O3 hl7 hI3
   obtain⟨d3,e3,i4,F5,G5,v13,v14,rfl,rfl,hd,hN11,hN12⟩:=hI3
   unfold CH at hd
   refine Wp.seq ?_
   obtain⟨x6,hx6,hd⟩:=Ag hd
   refine Wp.region<|Aa.op (Ab.move rf) rf<|Aa.op (Ab.Aw (i:=0) DJ rf AH rf rf rf) rf<|Aa.op (Ab.move rf) rf<|Aa.op (Ab.move rf) rf<|Aa.GC [.Az B4 (.cells #[(.int .i64 x5.kind),(Ad (word x5.set 0)),(Ad (word x5.set 1)),(Ad (word x5.set 2)),(Ad (word x5.set 3)),v12] 27 (0,0)), .Az B2 (.cells #[(.int .i64 a1.kind),(Ad (word a1.set 0)),(Ad (word a1.set 1)),(Ad (word a1.set 2)),(Ad (word a1.set 3)),v1] 27 (0,0))]<|Aa.Fi (Bc.call QT rf (ih (a0:=(d3,e3,i3)) hN11 hN12 (hv3.mono hl7) hx6)) rf ?_
   rintro _ H8 _ hl8 ⟨v17,v18,F6,G6,rfl,hN13,hN14,rfl⟩
   refine Aa.IJ [.Az B4 (.cells #[(.int .i64 x5.kind),(Ad (word x5.set 0)),(Ad (word x5.set 1)),(Ad (word x5.set 2)),(Ad (word x5.set 3)),v12] 27 (0,0)), .Az B2 (.cells #[(.int .i64 a1.kind),(Ad (word a1.set 0)),(Ad (word a1.set 1)),(Ad (word a1.set 2)),(Ad (word a1.set 3)),v1] 27 (0,0))] ?_
   refine Aa.own (O:=_::_::_::_::_::_) ?_ rf
   refine Aa.Ah<|Wp.region<|Aa.op (Ab.move rf) rf<|Aa.op (Ab.assign rf) rf<|Aa.nil<|At.AF<|At.Ae<|Wp.region ?_
   refine Aa.op (Ab.add rf rf (Av (by omega))) rf<|Aa.op (Ab.move rf) rf<|Aa.nil<|At.AW [1,2,3,4] 5 rf rf rf ?_
   refine At.AZ (hl7.trans hl8) ⟨x6.1,x6.2.1,i4,(k2+1),x6.2.2,F6,G6,v17,v18,rf,rf,(by rw[←hn2];exact hd),hN13,hN14⟩ (Sub.of rf)
  obtain⟨hb8,hd⟩:=bF hb8 hd
  refine Wp.exit<|At.Ao<|At.Ao<|At.AB<|At.AF ?_
  obtain rfl:=si hd
  exact At.IH rf (fun w hs=>⟨_,_,_,rf,hl5,(hs.BW 1),v10,v11,F4,G4,rf,hN7,hN8,rf⟩)
 obtain⟨hb6,hd⟩:=bF hb6 hd
 refine Wp.sr<|Aa.op (Ab.eql rf rf) rf<|Aa.op (Ab.assign rf) rf<|Aa.Ah ?_
 refine Wp.cond rf (fun hb11=>?_) (fun hb11=>?_)
 ·
  obtain⟨hb11,hd⟩:=bT hb11 hd
  refine Wp.seq ?_
  obtain⟨ha6,hd⟩:=Al hd
  obtain⟨ha7,hd⟩:=Al hd
  refine Wp.region<|Aa.op (Ab.move rf) rf<|Aa.GC [.Az B2 (.cells #[(.int .i64 a1.kind),(Ad (word a1.set 0)),(Ad (word a1.set 1)),(Ad (word a1.set 2)),(Ad (word a1.set 3)),v1] 27 (0,0))]<|Aa.Fi (Bc.call QU rf (KH hNF hNG ha6 ha7)) rf ?_
  rintro _ H9 _ hl9 ⟨v19,v20,rfl,rfl⟩
  refine Aa.IJ [.Az B2 (.cells #[(.int .i64 a1.kind),(Ad (word a1.set 0)),(Ad (word a1.set 1)),(Ad (word a1.set 2)),(Ad (word a1.set 3)),v1] 27 (0,0))] ?_
  have hN15:=A3.mono (A3.add hNF) hl9;have hN16:=A3.mono (A3.add hNG) hl9
  refine Aa.own (O:=_::_::_::_::_) ?_ rf
  refine Aa.op (Ab.assign rf) rf<|Aa.Ah<|Wp.seq ?_
  obtain⟨x7,hx7,hd⟩:=Ag hd
  obtain⟨v21,xs3,hf3,hL3,hi3⟩:=A3.get hN15 hx7
  refine Wp.RN [.Az B2 (.cells #[(.int .i64 a1.kind),(Ad (word a1.set 0)),(Ad (word a1.set 1)),(Ad (word a1.set 2)),(Ad (word a1.set 3)),v1] 27 (0,0)), .Az B0 (.cells #[v19,v20,(.int .i64 a0.2.2)] 55 (0,0)), .row v19 65 1 (AO (F1++[(Value.slice none 0 0,[],[])])).length (AO (F1++[(Value.slice none 0 0,[],[])])), .row v20 66 1 (AO (G1++[(Value.slice none 0 0,[],[])])).length (AO (G1++[(Value.slice none 0 0,[],[])]))] hf3 ?_
  obtain⟨ha8,hd⟩:=Al hd
  obtain⟨_,⟨rfl,_⟩,hc7,hc7_⟩:=Ap.get (A3.row hN15) (AX hi3).2
  obtain⟨_,⟨rfl,_⟩,hc8,hc8_⟩:=Ap.get (A3.row hN15) (AX hi3).2
  refine Wp.emp<|Af.runK 6 [Ay,Ay,Ay,⟨[3],[],[]⟩,Ay,Ay,Ay,Ay,⟨[3],[],[]⟩,Ay,⟨[4],[],[]⟩,⟨[4],[],[]⟩,Ay,⟨[0],[0],[13]⟩,⟨[0,1],[1],[14]⟩,⟨[4],[],[]⟩,⟨[4],[4],[14]⟩] follows rf (by kernel_rfl)<|Af.op (val:=fun p3=>(ptr B0 0)) rf rf (fun _=>rfl) (fun _ p3 _ hx hf hy=>Ab.move rf) rf<|Af.op (val:=fun p3=>(ptr B0 0)) rf rf (fun _=>rfl) (fun _ p3 _ hx hf hy=>Ab.nilCheck rf) rf<|Af.op (val:=fun p3=>(ptr B0 0)) rf rf (fun _=>rfl) (fun _ p3 _ hx hf hy=>Ab.A6 (o':=0) Hv rf rf) rf<|Af.op (val:=fun p3=>v19) rf rf (fun _=>rfl) (fun _ p3 _ hx hf hy=>Ab.Am (i:=3) (v:=v19) FH rf rf (hy 3 _ rf rf) rf) rf<|Af.op (val:=fun p3=>(.int .i64 a2)) rf rf (fun _=>rfl) (fun _ p3 _ hx hf hy=>Ab.move rf) rf<|Af.op (val:=fun p3=>(ptr B0 0)) rf rf (fun _=>rfl) (fun _ p3 _ hx hf hy=>Ab.move rf) rf ?_
  refine Af.op (val:=fun p3=>(ptr B0 0)) rf rf (fun _=>rfl) (fun _ p3 _ hx hf hy=>Ab.nilCheck rf) rf<|Af.op (val:=fun p3=>(ptr B0 0)) rf rf (fun _=>rfl) (fun _ p3 _ hx hf hy=>Ab.A6 (o':=0) Hv rf rf) rf<|Af.op (val:=fun p3=>v19) rf rf (fun _=>rfl) (fun _ p3 _ hx hf hy=>Ab.Am (i:=3) (v:=v19) FH rf rf (hy 3 _ rf rf) rf) rf<|Af.op (val:=fun p3=>(.int .i64 a2)) rf rf (fun _=>rfl) (fun _ p3 _ hx hf hy=>Ab.move rf) rf<|Af.op (val:=fun p3=>(AG v19 ((Int.toNat a2)*1))) rf rf (fun _=>rfl) (fun _ p3 _ hx hf hy=>Ab.Co (j:=4) FH Eo rf (hy 4 _ rf rf) rf (Aj hi3)) rf<|Af.op (val:=fun p3=>v21) rf rf (fun _=>rfl) (fun _ p3 _ hx hf hy=>Ab.EX (i:=4) (k:=(Int.toNat a2)*1+0) Cv rf rf (hy 4 _ rf rf) (hc7 0 _ rf)) rf<|Af.op (val:=fun p3=>(.int .i64 (a0.2.1.length:Int))) rf rf (fun _=>rfl) (fun _ p3 _ hx hf hy=>Ab.move rf) rf<|Af.Fz (res:=fun p3=> .row (p3 13) 3 1 1 [(.int .i64 (a0.2.1.length:Int))]) 0 rf rf rf (fun _=>rfl) (fun _ p3 _ hx hf hy=>Bc.DM (v:=(.int .i64 (a0.2.1.length:Int))) (cs:=[(.int .i64 (a0.2.1.length:Int))]) 0 Cv DP rf rf rf rf rf (hy 0 _ rf rf)) rf (fun _=>⟨_,_,_,_,rf⟩) ?_
  refine Af.Fz (res:=fun p3=> .row (p3 14) 3 1 (x7.length+1) (xs3++[(.int .i64 (a0.2.1.length:Int))])) 1 rf rf rf (fun _=>rfl) (fun _ p3 _ hx hf hy=>Bc.KE 1 0 Cv DP rf rf rf rf (hy 1 _ rf rf) (hy 0 _ rf rf) (Ac rf (An)) rf ha8) rf (fun _=>⟨_,_,_,_,rf⟩)<|Af.op (val:=fun p3=>(AG v19 ((Int.toNat a2)*1))) rf rf (fun _=>rfl) (fun _ p3 _ hx hf hy=>Ab.Co (j:=4) FH Eo rf (hy 4 _ rf rf) rf (Aj hi3)) rf<|Af.GY (res:=fun p3=> .row v19 65 1 (AO (F1++[(Value.slice none 0 0,[],[])])).length (E' (AO (F1++[(Value.slice none 0 0,[],[])])) ((Int.toNat a2)*1+0) [(p3 14)])) 4 rf rf rf (fun _=>rfl) (fun _ p3 _ hx hf hy=>Bc.J0 (k:=(Int.toNat a2)*1+0) (vs:=[(p3 14)]) rf rf (Ef (hf 14 rf rf)) Eo rf rf (Ac (hf 14 rf rf) (An)) (hy 4 _ rf rf) (by have h1:_=_*1:=(A3.row hN15).len;have h2:=Aj hi3;simp only[List.length_cons,List.length_nil];omega))<|Af.done fun H10 p3 hl10 hF3=>At.sub (L':=[(0,(ptr B0 0)),(3,(.int .i64 a3)),(5,(ptr B2 0)),(14,(.int .i64 (a0.2.1.length:Int)))]) (Sub.of rf) ?_
  refine At.own (O:= .row (p3 13) 3 1 ([(a0.2.1.length:Int)]:List Int).length [(.int .i64 (a0.2.1.length:Int))]:: .row (p3 14) 3 1 (x7++([(a0.2.1.length:Int)]:List Int)).length (xs3++[(.int .i64 (a0.2.1.length:Int))]):: .Az B2 (.cells #[(.int .i64 a1.kind),(Ad (word a1.set 0)),(Ad (word a1.set 1)),(Ad (word a1.set 2)),(Ad (word a1.set 3)),v1] 27 (0,0)):: .Az B0 (.cells #[v19,v20,(.int .i64 a0.2.2)] 55 (0,0)):: .row v19 65 1 ((AO (F1++[(Value.slice none 0 0,[],[])])).set (Int.toNat a2) (p3 14)).length (E' (AO (F1++[(Value.slice none 0 0,[],[])])) ((Int.toNat a2)*1+0) [(p3 14)]):: .row v20 66 1 (AO (G1++[(Value.slice none 0 0,[],[])])).length (AO (G1++[(Value.slice none 0 0,[],[])]))::(Bi 3 1 (List.eraseIdx (F1++[(Value.slice none 0 0,[],[])]) (Int.toNat a2))++(Bi 68 6 (G1++[(Value.slice none 0 0,[],[])])++O))) ?_ (by first|rfl|(simp only[List.length_append,List.length_set];rfl)|simp)
  have hq3:Ap Ar H10 (x7++([(a0.2.1.length:Int)]:List Int)) (xs3++[(.int .i64 (a0.2.1.length:Int))]):=(Ap.app (hL3.mono hl10) (Ap.Iy (c:=Ar) (a:=(a0.2.1.length:Int)) (cs:=[(.int .i64 (a0.2.1.length:Int))]) rfl))
  refine At.BU (i:=1) rf fun ho3=>?_
  refine At.own (O:= .row (p3 13) 3 1 ([(a0.2.1.length:Int)]:List Int).length [(.int .i64 (a0.2.1.length:Int))]:: .row (p3 14) 3 1 (x7++([(a0.2.1.length:Int)]:List Int)).length (xs3++[(.int .i64 (a0.2.1.length:Int))]):: .Az B2 (.cells #[(.int .i64 a1.kind),(Ad (word a1.set 0)),(Ad (word a1.set 1)),(Ad (word a1.set 2)),(Ad (word a1.set 3)),v1] 27 (0,0)):: .Az B0 (.cells #[v19,v20,(.int .i64 a0.2.2)] 55 (0,0)):: .row v19 65 1 (AO (List.set (F1++[(Value.slice none 0 0,[],[])]) (Int.toNat a2) ((p3 14),x7++([(a0.2.1.length:Int)]:List Int),xs3++[(.int .i64 (a0.2.1.length:Int))]))).length (AO (List.set (F1++[(Value.slice none 0 0,[],[])]) (Int.toNat a2) ((p3 14),x7++([(a0.2.1.length:Int)]:List Int),xs3++[(.int .i64 (a0.2.1.length:Int))]))):: .row v20 66 1 (AO (G1++[(Value.slice none 0 0,[],[])])).length (AO (G1++[(Value.slice none 0 0,[],[])]))::(Bi 3 1 (List.eraseIdx (F1++[(Value.slice none 0 0,[],[])]) (Int.toNat a2))++(Bi 68 6 (G1++[(Value.slice none 0 0,[],[])])++O))) ?_ (by rw[show E' (AO (F1++[(Value.slice none 0 0,[],[])])) ((Int.toNat a2)*1+0) [(p3 14)]=AO (List.set (F1++[(Value.slice none 0 0,[],[])]) (Int.toNat a2) ((p3 14),x7++([(a0.2.1.length:Int)]:List Int),xs3++[(.int .i64 (a0.2.1.length:Int))]))from NF _ _ _ hf3,show(AO (F1++[(Value.slice none 0 0,[],[])])).set (Int.toNat a2) (p3 14)=AO (List.set (F1++[(Value.slice none 0 0,[],[])]) (Int.toNat a2) ((p3 14),x7++([(a0.2.1.length:Int)]:List Int),xs3++[(.int .i64 (a0.2.1.length:Int))]))from LR _ _ _])
  refine At.AW [1,2,3,4,5] 6 rf rf rf<|At.JX [.Az B2 (.cells #[(.int .i64 a1.kind),(Ad (word a1.set 0)),(Ad (word a1.set 1)),(Ad (word a1.set 2)),(Ad (word a1.set 3)),v1] 27 (0,0)), .Az B0 (.cells #[v19,v20,(.int .i64 a0.2.2)] 55 (0,0)), .row v19 65 1 (AO (List.set (F1++[(Value.slice none 0 0,[],[])]) (Int.toNat a2) ((p3 14),x7++([(a0.2.1.length:Int)]:List Int),xs3++[(.int .i64 (a0.2.1.length:Int))]))).length (AO (List.set (F1++[(Value.slice none 0 0,[],[])]) (Int.toNat a2) ((p3 14),x7++([(a0.2.1.length:Int)]:List Int),xs3++[(.int .i64 (a0.2.1.length:Int))]))), .row v20 66 1 (AO (G1++[(Value.slice none 0 0,[],[])])).length (AO (G1++[(Value.slice none 0 0,[],[])]))] ((p3 14),x7++([(a0.2.1.length:Int)]:List Int),xs3++[(.int .i64 (a0.2.1.length:Int))]) hf3 ?_
  have hN17:A3 Ar H10 (List.set (a0.1++[[]]) (Int.toNat a2) (x7++([(a0.2.1.length:Int)]:List Int))) (List.set (F1++[(Value.slice none 0 0,[],[])]) (Int.toNat a2) ((p3 14),x7++([(a0.2.1.length:Int)]:List Int),xs3++[(.int .i64 (a0.2.1.length:Int))])):=A3.set (hN15.mono hl10) hq3 ho3
  refine At.Ae<|Wp.seq ?_
  obtain⟨x8,hx8,hd⟩:=Ag hd
  obtain⟨v22,xs4,hf4,hL4,hi4⟩:=A3.get hN17 hx8
  refine Wp.RN [.Az B2 (.cells #[(.int .i64 a1.kind),(Ad (word a1.set 0)),(Ad (word a1.set 1)),(Ad (word a1.set 2)),(Ad (word a1.set 3)),v1] 27 (0,0)), .Az B0 (.cells #[v19,v20,(.int .i64 a0.2.2)] 55 (0,0)), .row v19 65 1 (AO (List.set (F1++[(Value.slice none 0 0,[],[])]) (Int.toNat a2) ((p3 14),x7++([(a0.2.1.length:Int)]:List Int),xs3++[(.int .i64 (a0.2.1.length:Int))]))).length (AO (List.set (F1++[(Value.slice none 0 0,[],[])]) (Int.toNat a2) ((p3 14),x7++([(a0.2.1.length:Int)]:List Int),xs3++[(.int .i64 (a0.2.1.length:Int))]))), .row v20 66 1 (AO (G1++[(Value.slice none 0 0,[],[])])).length (AO (G1++[(Value.slice none 0 0,[],[])]))] hf4 ?_
  obtain⟨ha9,hd⟩:=Al hd
  obtain⟨_,⟨rfl,_⟩,hc9,hc9_⟩:=Ap.get (A3.row hN17) (AX hi4).2
  obtain⟨_,⟨rfl,_⟩,hc10,hc10_⟩:=Ap.get (A3.row hN17) (AX hi4).2
  refine Wp.emp<|Af.runK 6 [Ay,Ay,Ay,⟨[3],[],[]⟩,Ay,Ay,Ay,Ay,⟨[3],[],[]⟩,Ay,⟨[4],[],[]⟩,⟨[4],[],[]⟩,Ay,⟨[0],[0],[13]⟩,⟨[0,1],[1],[14]⟩,⟨[4],[],[]⟩,⟨[4],[4],[14]⟩] follows rf (by kernel_rfl)<|Af.op (val:=fun p4=>(ptr B0 0)) rf rf (fun _=>rfl) (fun _ p4 _ hx hf hy=>Ab.move rf) rf<|Af.op (val:=fun p4=>(ptr B0 0)) rf rf (fun _=>rfl) (fun _ p4 _ hx hf hy=>Ab.nilCheck rf) rf<|Af.op (val:=fun p4=>(ptr B0 0)) rf rf (fun _=>rfl) (fun _ p4 _ hx hf hy=>Ab.A6 (o':=0) Hv rf rf) rf<|Af.op (val:=fun p4=>v19) rf rf (fun _=>rfl) (fun _ p4 _ hx hf hy=>Ab.Am (i:=3) (v:=v19) FH rf rf (hy 3 _ rf rf) rf) rf<|Af.op (val:=fun p4=>(.int .i64 (a0.2.1.length:Int))) rf rf (fun _=>rfl) (fun _ p4 _ hx hf hy=>Ab.move rf) rf<|Af.op (val:=fun p4=>(ptr B0 0)) rf rf (fun _=>rfl) (fun _ p4 _ hx hf hy=>Ab.move rf) rf ?_
  refine Af.op (val:=fun p4=>(ptr B0 0)) rf rf (fun _=>rfl) (fun _ p4 _ hx hf hy=>Ab.nilCheck rf) rf<|Af.op (val:=fun p4=>(ptr B0 0)) rf rf (fun _=>rfl) (fun _ p4 _ hx hf hy=>Ab.A6 (o':=0) Hv rf rf) rf<|Af.op (val:=fun p4=>v19) rf rf (fun _=>rfl) (fun _ p4 _ hx hf hy=>Ab.Am (i:=3) (v:=v19) FH rf rf (hy 3 _ rf rf) rf) rf<|Af.op (val:=fun p4=>(.int .i64 (a0.2.1.length:Int))) rf rf (fun _=>rfl) (fun _ p4 _ hx hf hy=>Ab.move rf) rf<|Af.op (val:=fun p4=>(AG v19 (a0.2.1.length*1))) rf rf (fun _=>rfl) (fun _ p4 _ hx hf hy=>Ab.Co (j:=4) FH Eo rf (hy 4 _ rf rf) rf (Aj hi4)) rf<|Af.op (val:=fun p4=>v22) rf rf (fun _=>rfl) (fun _ p4 _ hx hf hy=>Ab.EX (i:=4) (k:=a0.2.1.length*1+0) Cv rf rf (hy 4 _ rf rf) (hc9 0 _ rf)) rf<|Af.op (val:=fun p4=>(.int .i64 a3)) rf rf (fun _=>rfl) (fun _ p4 _ hx hf hy=>Ab.move rf) rf<|Af.Fz (res:=fun p4=> .row (p4 13) 3 1 1 [(.int .i64 a3)]) 0 rf rf rf (fun _=>rfl) (fun _ p4 _ hx hf hy=>Bc.DM (v:=(.int .i64 a3)) (cs:=[(.int .i64 a3)]) 0 Cv DP rf rf rf rf rf (hy 0 _ rf rf)) rf (fun _=>⟨_,_,_,_,rf⟩) ?_
  refine Af.Fz (res:=fun p4=> .row (p4 14) 3 1 (x8.length+1) (xs4++[(.int .i64 a3)])) 1 rf rf rf (fun _=>rfl) (fun _ p4 _ hx hf hy=>Bc.KE 1 0 Cv DP rf rf rf rf (hy 1 _ rf rf) (hy 0 _ rf rf) (Ac rf (An)) rf ha9) rf (fun _=>⟨_,_,_,_,rf⟩)<|Af.op (val:=fun p4=>(AG v19 (a0.2.1.length*1))) rf rf (fun _=>rfl) (fun _ p4 _ hx hf hy=>Ab.Co (j:=4) FH Eo rf (hy 4 _ rf rf) rf (Aj hi4)) rf<|Af.GY (res:=fun p4=> .row v19 65 1 (AO (List.set (F1++[(Value.slice none 0 0,[],[])]) (Int.toNat a2) ((p3 14),x7++([(a0.2.1.length:Int)]:List Int),xs3++[(.int .i64 (a0.2.1.length:Int))]))).length (E' (AO (List.set (F1++[(Value.slice none 0 0,[],[])]) (Int.toNat a2) ((p3 14),x7++([(a0.2.1.length:Int)]:List Int),xs3++[(.int .i64 (a0.2.1.length:Int))]))) (a0.2.1.length*1+0) [(p4 14)])) 4 rf rf rf (fun _=>rfl) (fun _ p4 _ hx hf hy=>Bc.J0 (k:=a0.2.1.length*1+0) (vs:=[(p4 14)]) rf rf (Ef (hf 14 rf rf)) Eo rf rf (Ac (hf 14 rf rf) (An)) (hy 4 _ rf rf) (by have h1:_=_*1:=(A3.row hN17).len;have h2:=Aj hi4;simp only[List.length_cons,List.length_nil];omega))<|Af.done fun H11 p4 hl11 hF4=>At.sub (L':=[(0,(ptr B0 0)),(5,(ptr B2 0)),(14,(.int .i64 (a0.2.1.length:Int)))]) (Sub.of rf) ?_
  refine At.own (O:= .row (p4 13) 3 1 ([a3]:List Int).length [(.int .i64 a3)]:: .row (p4 14) 3 1 (x8++([a3]:List Int)).length (xs4++[(.int .i64 a3)]):: .Az B2 (.cells #[(.int .i64 a1.kind),(Ad (word a1.set 0)),(Ad (word a1.set 1)),(Ad (word a1.set 2)),(Ad (word a1.set 3)),v1] 27 (0,0)):: .Az B0 (.cells #[v19,v20,(.int .i64 a0.2.2)] 55 (0,0)):: .row v19 65 1 ((AO (List.set (F1++[(Value.slice none 0 0,[],[])]) (Int.toNat a2) ((p3 14),x7++([(a0.2.1.length:Int)]:List Int),xs3++[(.int .i64 (a0.2.1.length:Int))]))).set a0.2.1.length (p4 14)).length (E' (AO (List.set (F1++[(Value.slice none 0 0,[],[])]) (Int.toNat a2) ((p3 14),x7++([(a0.2.1.length:Int)]:List Int),xs3++[(.int .i64 (a0.2.1.length:Int))]))) (a0.2.1.length*1+0) [(p4 14)]):: .row v20 66 1 (AO (G1++[(Value.slice none 0 0,[],[])])).length (AO (G1++[(Value.slice none 0 0,[],[])]))::(Bi 3 1 (List.eraseIdx (List.set (F1++[(Value.slice none 0 0,[],[])]) (Int.toNat a2) ((p3 14),x7++([(a0.2.1.length:Int)]:List Int),xs3++[(.int .i64 (a0.2.1.length:Int))])) a0.2.1.length)++(Bi 68 6 (G1++[(Value.slice none 0 0,[],[])])++O))) ?_ (by first|rfl|(simp only[List.length_append,List.length_set];rfl)|simp)
  have hq4:Ap Ar H11 (x8++([a3]:List Int)) (xs4++[(.int .i64 a3)]):=(Ap.app (hL4.mono hl11) (Ap.Iy (c:=Ar) (a:=a3) (cs:=[(.int .i64 a3)]) rfl))
  refine At.BU (i:=1) rf fun ho4=>?_
  refine At.own (O:= .row (p4 13) 3 1 ([a3]:List Int).length [(.int .i64 a3)]:: .row (p4 14) 3 1 (x8++([a3]:List Int)).length (xs4++[(.int .i64 a3)]):: .Az B2 (.cells #[(.int .i64 a1.kind),(Ad (word a1.set 0)),(Ad (word a1.set 1)),(Ad (word a1.set 2)),(Ad (word a1.set 3)),v1] 27 (0,0)):: .Az B0 (.cells #[v19,v20,(.int .i64 a0.2.2)] 55 (0,0)):: .row v19 65 1 (AO (List.set (List.set (F1++[(Value.slice none 0 0,[],[])]) (Int.toNat a2) ((p3 14),x7++([(a0.2.1.length:Int)]:List Int),xs3++[(.int .i64 (a0.2.1.length:Int))])) a0.2.1.length ((p4 14),x8++([a3]:List Int),xs4++[(.int .i64 a3)]))).length (AO (List.set (List.set (F1++[(Value.slice none 0 0,[],[])]) (Int.toNat a2) ((p3 14),x7++([(a0.2.1.length:Int)]:List Int),xs3++[(.int .i64 (a0.2.1.length:Int))])) a0.2.1.length ((p4 14),x8++([a3]:List Int),xs4++[(.int .i64 a3)]))):: .row v20 66 1 (AO (G1++[(Value.slice none 0 0,[],[])])).length (AO (G1++[(Value.slice none 0 0,[],[])]))::(Bi 3 1 (List.eraseIdx (List.set (F1++[(Value.slice none 0 0,[],[])]) (Int.toNat a2) ((p3 14),x7++([(a0.2.1.length:Int)]:List Int),xs3++[(.int .i64 (a0.2.1.length:Int))])) a0.2.1.length)++(Bi 68 6 (G1++[(Value.slice none 0 0,[],[])])++O))) ?_ (by rw[show E' (AO (List.set (F1++[(Value.slice none 0 0,[],[])]) (Int.toNat a2) ((p3 14),x7++([(a0.2.1.length:Int)]:List Int),xs3++[(.int .i64 (a0.2.1.length:Int))]))) (a0.2.1.length*1+0) [(p4 14)]=AO (List.set (List.set (F1++[(Value.slice none 0 0,[],[])]) (Int.toNat a2) ((p3 14),x7++([(a0.2.1.length:Int)]:List Int),xs3++[(.int .i64 (a0.2.1.length:Int))])) a0.2.1.length ((p4 14),x8++([a3]:List Int),xs4++[(.int .i64 a3)]))from NF _ _ _ hf4,show(AO (List.set (F1++[(Value.slice none 0 0,[],[])]) (Int.toNat a2) ((p3 14),x7++([(a0.2.1.length:Int)]:List Int),xs3++[(.int .i64 (a0.2.1.length:Int))]))).set a0.2.1.length (p4 14)=AO (List.set (List.set (F1++[(Value.slice none 0 0,[],[])]) (Int.toNat a2) ((p3 14),x7++([(a0.2.1.length:Int)]:List Int),xs3++[(.int .i64 (a0.2.1.length:Int))])) a0.2.1.length ((p4 14),x8++([a3]:List Int),xs4++[(.int .i64 a3)]))from LR _ _ _])
  refine At.AW [1,2,3,4,5] 6 rf rf rf<|At.JX [.Az B2 (.cells #[(.int .i64 a1.kind),(Ad (word a1.set 0)),(Ad (word a1.set 1)),(Ad (word a1.set 2)),(Ad (word a1.set 3)),v1] 27 (0,0)), .Az B0 (.cells #[v19,v20,(.int .i64 a0.2.2)] 55 (0,0)), .row v19 65 1 (AO (List.set (List.set (F1++[(Value.slice none 0 0,[],[])]) (Int.toNat a2) ((p3 14),x7++([(a0.2.1.length:Int)]:List Int),xs3++[(.int .i64 (a0.2.1.length:Int))])) a0.2.1.length ((p4 14),x8++([a3]:List Int),xs4++[(.int .i64 a3)]))).length (AO (List.set (List.set (F1++[(Value.slice none 0 0,[],[])]) (Int.toNat a2) ((p3 14),x7++([(a0.2.1.length:Int)]:List Int),xs3++[(.int .i64 (a0.2.1.length:Int))])) a0.2.1.length ((p4 14),x8++([a3]:List Int),xs4++[(.int .i64 a3)]))), .row v20 66 1 (AO (G1++[(Value.slice none 0 0,[],[])])).length (AO (G1++[(Value.slice none 0 0,[],[])]))] ((p4 14),x8++([a3]:List Int),xs4++[(.int .i64 a3)]) hf4 ?_
  have hN18:A3 Ar H11 (List.set (List.set (a0.1++[[]]) (Int.toNat a2) (x7++([(a0.2.1.length:Int)]:List Int))) a0.2.1.length (x8++([a3]:List Int))) (List.set (List.set (F1++[(Value.slice none 0 0,[],[])]) (Int.toNat a2) ((p3 14),x7++([(a0.2.1.length:Int)]:List Int),xs3++[(.int .i64 (a0.2.1.length:Int))])) a0.2.1.length ((p4 14),x8++([a3]:List Int),xs4++[(.int .i64 a3)])):=A3.set (hN17.mono hl11) hq4 ho4
  refine At.Ae ?_
  obtain⟨x9,hx9,hd⟩:=Ag hd
  have hx9_:=Aj hx9
  obtain⟨x10,hx10,hd⟩:=Ag hd
  refine Wp.region<|Aa.op (Ab.move rf) rf<|Aa.op (Ab.A6 (o':=5) CA rf rf) rf<|Aa.op (Ab.Am (i:=0) (v:=v1) Da rf rf rf rf) rf ?_
  obtain⟨_,hz3,hc11⟩:=AL.get (hv1.mono ((hl9.trans hl10).trans hl11)) hx9
  obtain⟨v23,rfl,hv4⟩:=CC.1 hz3
  refine Aa.op (Ab.Bz Da AH rf (hv1.mono ((hl9.trans hl10).trans hl11)).sl rf (Aj hx9)) rf<|Aa.op (Ab.DA (vs:=[(.int .i64 x9.kind),(Ad (word x9.set 0)),(Ad (word x9.set 1)),(Ad (word x9.set 2)),(Ad (word x9.set 3)),v23]) DJ rf AH rf rf (fun j u hj=>(hc11 j u hj))) rf<|Aa.op (Ab.move rf) rf<|Aa.op (Ab.move rf) rf<|Aa.GC [.Az B2 (.cells #[(.int .i64 a1.kind),(Ad (word a1.set 0)),(Ad (word a1.set 1)),(Ad (word a1.set 2)),(Ad (word a1.set 3)),v1] 27 (0,0))]<|Aa.Fi (Bc.call QT rf (ih (a0:=((List.set (List.set (a0.1++[[]]) (Int.toNat a2) (x7++([(a0.2.1.length:Int)]:List Int))) a0.2.1.length (x8++([a3]:List Int))),(a0.2.1++[[]]),a0.2.2)) hN18 ((hN16.mono hl10).mono hl11) hv4 hx10)) rf ?_
  rintro _ H12 _ hl12 ⟨v24,v25,F7,G7,rfl,hN19,hN20,rfl⟩
  refine Aa.IJ [.Az B2 (.cells #[(.int .i64 a1.kind),(Ad (word a1.set 0)),(Ad (word a1.set 1)),(Ad (word a1.set 2)),(Ad (word a1.set 3)),v1] 27 (0,0))] ?_
  refine Aa.own (O:=_::_::_::_::_) ?_ rf
  refine Aa.nil<|At.AF ?_
  obtain rfl:=si hd
  exact At.IH rf (fun w hs=>⟨_,_,_,rf,(((hl9.trans hl10).trans hl11).trans hl12),(hs.BW 1),v24,v25,F7,G7,rf,hN19,hN20,rf⟩)
 obtain⟨hb11,hd⟩:=bF hb11 hd
 refine Wp.skip<|At.AF ?_
 obtain rfl:=si hd
 exact At.IH rf (fun w hs=>⟨_,_,_,rf,(Hp.le.refl _),(hs.BW 1),u1,u2,F1,G1,rf,hNF,hNG,rf⟩)
theorem NM{fu:Nat}{a0:Rx}{v1:Value}{r:(List (Bool×(List (Int×Int×Int))))×Int}(hv1:AL C' H a0.Aq v1)(hG:El Tryz.prog H)(hd:Ma fu a0=some r):
   Eg Tryz.prog 6 [(.agg #[(.int .i64 a0.kind),(Ad (word a0.set 0)),(Ad (word a0.set 1)),(Ad (word a0.set 2)),(Ad (word a0.set 3)),v1])] H O (fun v H' O'=>(∃v2:Value,(.tuple #[(.agg #[v2]),(.int .i64 r.2)])=v∧AL (cP cB (cL (cP A0 (cP A0 Ar)))) H' r.1 v2)∧O=O'):=by
 intro w hs
 refine Bo Tryz.func6 rf rf rf ?_ hs
 clear hs w
 unfold Ma at hd
 refine Wp.sr<|Aa.box (cs:= #[(.int .i64 a0.kind),(Ad (word a0.set 0)),(Ad (word a0.set 1)),(Ad (word a0.set 2)),(Ad (word a0.set 3)),v1]) rf rf rf fun B2=>Aa.alloc (cs:= #[(.slice none 0 0)]) A5 rf rf fun B3=>Aa.op (Ab.assign rf) rf<|Aa.Ah<|Wp.seq<|Wp.seq ?_
 obtain⟨x1,hx1,hd⟩:=Ag hd
 refine Wp.region<|Aa.op (Ab.Aw (i:=1) DJ rf AH rf rf rf) rf<|Aa.op (Ab.call OQ rf (DV hv1 hx1)) rf<|Aa.op (Ab.assign rf) rf<|Aa.Ah<|Wp.sr<|Aa.op (Ab.move rf) rf<|Aa.op (Ab.neq rf rf) rf ?_
 refine Aa.Ah ?_
 refine Wp.cond rf (fun hb1=>?_) (fun hb1=>?_)
 ·
  obtain⟨hb1,hd⟩:=bT hb1 hd
  refine Wp.sr<|Aa.op (Ab.Bj (vs:=[]) (cs:= #[(.slice none 0 0)]) HB A5 rf rf (A8) rf) rf<|Aa.op (Ab.move rf) rf<|Aa.AM (i:=0) (cs':= #[(.slice none 0 0)]) rf rf A5 rf rf (Bd (Ac rf (An))) rf ?_
  refine Aa.own (O:=_::_::_) ?_ rf
  refine Aa.op (Ab.assign rf) rf<|Aa.Ah<|Wp.ret<|At.Au ?_
  obtain rfl:=si hd
  exact At.Mj rf (RV.CQ (i:=0) rf u32 rf A5 rf rf) (RV.tmp (v:=(.int .i64 x1)) rf) (fun w hs=>⟨_,_,_,rf,(Hp.le.refl _),(hs.BW 2),⟨⟨(.slice none 0 0),rf,AL.nil⟩,rf⟩⟩)
 obtain⟨hb1,hd⟩:=bF hb1 hd
 refine Wp.skip<|At.Ae<|Wp.sr<|Aa.op (Ab.Bj (vs:=[]) (cs:= #[(.slice none 0 0),(.slice none 0 0),(.int .i64 0)]) X0 Y_ rf rf (A8) rf) rf<|Aa.box (cs:= #[(.slice none 0 0),(.slice none 0 0),(.int .i64 0)]) rf rf rf fun B4=>Aa.op (Ab.assign rf) rf<|Aa.Ah<|Wp.seq ?_
 obtain⟨ha1,hd⟩:=Al hd
 obtain⟨ha2,hd⟩:=Al hd
 obtain⟨ha3,hd⟩:=Al hd
 obtain⟨ha4,hd⟩:=Al hd
 refine Wp.region<|Aa.op (Ab.move rf) rf<|Aa.Cb 66 1<|Aa.Cb 65 1<|Aa.AW [3,4,2,0,1] 5 rf rf rf ?_
 refine Aa.own (O:=_::_::_::_::_::_) ?_ rf
 refine Aa.GC [.Az B3 (.cells #[(.slice none 0 0)] 32 (0,0)), .Az B2 (.cells #[(.int .i64 a0.kind),(Ad (word a0.set 0)),(Ad (word a0.set 1)),(Ad (word a0.set 2)),(Ad (word a0.set 3)),v1] 27 (0,0))]<|Aa.Fi (Bc.call QU rf (KH (A3.nil (c:=Ar) (H:=H)) (A3.nil (c:=UD) (H:=H)) ha1 ha2)) rf ?_
 rintro _ H1 _ hl1 ⟨v3,v4,rfl,rfl⟩
 refine Aa.IJ [.Az B3 (.cells #[(.slice none 0 0)] 32 (0,0)), .Az B2 (.cells #[(.int .i64 a0.kind),(Ad (word a0.set 0)),(Ad (word a0.set 1)),(Ad (word a0.set 2)),(Ad (word a0.set 3)),v1] 27 (0,0))] ?_
 have hN1:=A3.mono (A3.add (A3.nil (c:=Ar) (H:=H))) hl1;have hN2:=A3.mono (A3.add (A3.nil (c:=UD) (H:=H))) hl1
 refine Aa.own (O:=_::_::_::_::_::_) ?_ rf
 refine Aa.op (Ab.move rf) rf<|Aa.GC [.Az B3 (.cells #[(.slice none 0 0)] 32 (0,0)), .Az B2 (.cells #[(.int .i64 a0.kind),(Ad (word a0.set 0)),(Ad (word a0.set 1)),(Ad (word a0.set 2)),(Ad (word a0.set 3)),v1] 27 (0,0))]<|Aa.Fi (Bc.call QU rf (KH hN1 hN2 ha3 ha4)) rf ?_
 rintro _ H2 _ hl2 ⟨v5,v6,rfl,rfl⟩
 refine Aa.IJ [.Az B3 (.cells #[(.slice none 0 0)] 32 (0,0)), .Az B2 (.cells #[(.int .i64 a0.kind),(Ad (word a0.set 0)),(Ad (word a0.set 1)),(Ad (word a0.set 2)),(Ad (word a0.set 3)),v1] 27 (0,0))] ?_
 have hN3:=A3.mono (A3.add hN1) hl2;have hN4:=A3.mono (A3.add hN2) hl2
 refine Aa.own (O:=_::_::_::_::_::_) ?_ rf
 refine Aa.op (Ab.assign rf) rf<|Aa.op (Ab.assign rf) rf<|Aa.Ah<|Wp.seq ?_
 obtain⟨x2,hx2,hd⟩:=Ag hd
 refine Wp.region<|Aa.op (Ab.move rf) rf<|Aa.op (Ab.Aw (i:=1) DJ rf AH rf rf rf) rf<|Aa.op (Ab.move rf) rf<|Aa.op (Ab.move rf) rf<|Aa.GC [.Az B3 (.cells #[(.slice none 0 0)] 32 (0,0)), .Az B2 (.cells #[(.int .i64 a0.kind),(Ad (word a0.set 0)),(Ad (word a0.set 1)),(Ad (word a0.set 2)),(Ad (word a0.set 3)),v1] 27 (0,0))]<|Aa.Fi (Bc.call QT rf (NK (a0:=(((([]:List (List Int))++[[]])++[[]]),((([]:List (List (AD×Int×Int)))++[[]])++[[]]),0)) hN3 hN4 (hv1.mono (hl1.trans hl2)) hx2)) rf ?_
 rintro _ H3 _ hl3 ⟨v7,v8,F1,G1,rfl,hN5,hN6,rfl⟩
 refine Aa.IJ [.Az B3 (.cells #[(.slice none 0 0)] 32 (0,0)), .Az B2 (.cells #[(.int .i64 a0.kind),(Ad (word a0.set 0)),(Ad (word a0.set 1)),(Ad (word a0.set 2)),(Ad (word a0.set 3)),v1] 27 (0,0))] ?_
 refine Aa.own (O:=_::_::_::_::_::_) ?_ rf
 refine Aa.Ah<|Wp.seq<|Wp.seq ?_
 obtain⟨x3,hx3,hd⟩:=Ag hd
 refine Wp.region<|Aa.op (Ab.move rf) rf<|Aa.op (Ab.move rf) rf<|Aa.G' (c:=Ar) [.Az B3 (.cells #[(.slice none 0 0)] 32 (0,0)), .Az B2 (.cells #[(.int .i64 a0.kind),(Ad (word a0.set 0)),(Ad (word a0.set 1)),(Ad (word a0.set 2)),(Ad (word a0.set 3)),v1] 27 (0,0)), .Az B4 (.cells #[v7,v8,(.int .i64 x2.2.2)] 55 (0,0)), .row v7 65 1 (AO F1).length (AO F1), .row v8 66 1 (AO G1).length (AO G1)] hN5 fun H4 hl4 hq1=>Aa.G' (c:=UD) [.Az B3 (.cells #[(.slice none 0 0)] 32 (0,0)), .Az B2 (.cells #[(.int .i64 a0.kind),(Ad (word a0.set 0)),(Ad (word a0.set 1)),(Ad (word a0.set 2)),(Ad (word a0.set 3)),v1] 27 (0,0)), .Az B4 (.cells #[v7,v8,(.int .i64 x2.2.2)] 55 (0,0)), .row v7 65 1 (AO F1).length (AO F1), .row v8 66 1 (AO G1).length (AO G1)] (A3.mono hN6 hl4) fun H5 hl5 hq2=>?_
 refine Aa.own (O:= .Az B3 (.cells #[(.slice none 0 0)] 32 (0,0)):: .Az B2 (.cells #[(.int .i64 a0.kind),(Ad (word a0.set 0)),(Ad (word a0.set 1)),(Ad (word a0.set 2)),(Ad (word a0.set 3)),v1] 27 (0,0)):: .Az B4 (.cells #[v7,v8,(.int .i64 x2.2.2)] 55 (0,0)):: .row v7 65 1 x2.1.length (AO F1):: .row v8 66 1 x2.2.1.length (AO G1)::O) ?_ (by rw[JJ hN5,JJ hN6]<;>rfl)
 refine Aa.Bk (i:=3) rf fun hb2=>?_
 refine Aa.freeze (i:=3) rf fun H6 hl6 hs1=>?_
 have hv2:=AL.of (c:=(cL Ar)) hs1 rfl ((hq1.mono hl5).mono hl6) hb2
 refine Aa.Bk (i:=3) rf fun hb3=>?_
 refine Aa.freeze (i:=3) rf fun H7 hl7 hs2=>?_
 have hv3:=AL.of (c:=(cL (cP KA (cP Ar Ar)))) hs2 rfl ((hq2.mono hl6).mono hl7) hb3
 refine Aa.op (Ab.call YI rf (CB.at 2 rf (Mp (hv2.mono hl7) hv3 (hG.mono ((((((hl1.trans hl2).trans hl3).trans hl4).trans hl5).trans hl6).trans hl7)) hx3))) rf<|Aa.Ah ?_
 refine Wp.cond rf (fun hb4=>?_) (fun hb4=>?_)
 ·
  replace hd:=Gl hb4 hd
  refine Wp.sr<|Aa.op (Ab.Bj (vs:=[]) (cs:= #[(.slice none 0 0)]) HB A5 rf rf (A8) rf) rf<|Aa.AM (i:=0) (cs':= #[(.slice none 0 0)]) rf rf A5 rf rf (Bd (Ac rf (An))) rf ?_
  refine Aa.own (O:=_::_::_::_) ?_ rf
  refine Aa.op (Ab.assign rf) rf<|Aa.Ah<|Wp.ret<|At.Au ?_
  obtain rfl:=si hd
  exact At.Mj rf (RV.CQ (i:=0) rf u32 rf A5 rf rf) (RV.tmp (v:=(.int .i64 10)) rf) (fun w hs=>⟨_,_,_,rf,((((((hl1.trans hl2).trans hl3).trans hl4).trans hl5).trans hl6).trans hl7),(hs.BW 3),⟨⟨(.slice none 0 0),rf,AL.nil⟩,rf⟩⟩)
 replace hd:=Gm hb4 hd
 refine Wp.skip<|At.Ae<|Wp.seq ?_
 obtain⟨x4,hx4,hd⟩:=Ag hd
 obtain⟨x5,hx5,hd⟩:=Ag hd
 refine Wp.region<|Aa.op (Ab.move rf) rf<|Aa.op (Ab.move rf) rf<|Aa.op (Ab.move rf) rf<|Aa.Fi (Bc.call YH rf (Eg.atR 2 rf (Ja (hv2.mono hl7) hv3 (hG.mono ((((((hl1.trans hl2).trans hl3).trans hl4).trans hl5).trans hl6).trans hl7)) hx4))) rf ?_
 rintro _ H8 _ hl8 ⟨⟨v9,rfl,hv4⟩,rfl⟩
 refine Aa.Fi (Bc.call QV rf (FM hv4 (hG.mono (((((((hl1.trans hl2).trans hl3).trans hl4).trans hl5).trans hl6).trans hl7).trans hl8)) hx5)) rf ?_
 rintro _ H9 _ hl9 ⟨⟨v10,rfl,hv5⟩,rfl⟩
 refine Aa.op (Ab.move rf) rf<|Aa.op (Ab.extract rf rf) rf<|Aa.op (Ab.extract rf rf) rf<|Aa.alloc (cs:= #[(.slice none 0 0)]) A5 rf rf fun B5=>Aa.AM (i:=0) (cs':= #[v10]) rf rf A5 rf rf (Bd (Ac hv5.one (An))) rf ?_
 refine Aa.own (O:=_::_::_::_::_) ?_ rf
 refine Aa.op (Ab.assign rf) rf<|Aa.Ah<|Wp.seq<|Wp.sr<|Aa.op (Ab.A6 (o':=0) BO rf rf) rf<|Aa.op (Ab.Am (i:=0) (v:=v10) C9 rf rf rf rf) rf ?_
 have hb5:=hv5.le
 refine Aa.op (Ab.len C9 rf hv5.sl) rf<|Aa.op (Ab.gtr rf rf) rf<|Aa.Ah ?_
 refine Wp.cond rf (fun hb6=>?_) (fun hb6=>?_)
 ·
  obtain⟨hb6,hd⟩:=bT hb6 hd
  refine Wp.sr<|Aa.op (Ab.Bj (vs:=[]) (cs:= #[(.slice none 0 0)]) HB A5 rf rf (A8) rf) rf<|Aa.AM (i:=1) (cs':= #[(.slice none 0 0)]) rf rf A5 rf rf (Bd (Ac rf (An))) rf ?_
  refine Aa.own (O:=_::_::_::_::_) ?_ rf
  refine Aa.op (Ab.assign rf) rf<|Aa.Ah<|Wp.ret<|At.Au ?_
  obtain rfl:=si hd
  exact At.Mj rf (RV.CQ (i:=1) rf u32 rf A5 rf rf) (RV.tmp (v:=(.int .i64 10)) rf) (fun w hs=>⟨_,_,_,rf,((((((((hl1.trans hl2).trans hl3).trans hl4).trans hl5).trans hl6).trans hl7).trans hl8).trans hl9),(hs.BW 4),⟨⟨(.slice none 0 0),rf,AL.nil⟩,rf⟩⟩)
 obtain⟨hb6,hd⟩:=bF hb6 hd
 refine Wp.skip<|At.Ae<|Wp.sr<|Aa.op (Ab.Aw (i:=0) u32 rf A5 rf rf rf) rf<|Aa.AM (i:=1) (cs':= #[v10]) rf rf A5 rf rf (Bd (Ac hv5.one (An))) rf ?_
 refine Aa.own (O:=_::_::_::_::_) ?_ rf
 refine Aa.op (Ab.assign rf) rf<|Aa.Ah<|Wp.ret ?_
 obtain rfl:=si hd
 exact At.Mj rf (RV.CQ (i:=1) rf u32 rf A5 rf rf) (RV.tmp (v:=(.int .i64 0)) rf) (fun w hs=>⟨_,_,_,rf,((((((((hl1.trans hl2).trans hl3).trans hl4).trans hl5).trans hl6).trans hl7).trans hl8).trans hl9),(hs.BW 4),⟨⟨v10,rf,hv5⟩,rf⟩⟩)
theorem IE{fu:Nat}{a0:Int}{r:Rx}(hr1:0≤a0)(hr2:a0≤255)(hd:Gq fu a0=some r):
    Eg Tryz.prog 12 [(.int .u8 a0)] H O (fun v H' O'=>(∃v1:Value,(.agg #[(.int .i64 r.kind),(Ad (word r.set 0)),(Ad (word r.set 1)),(Ad (word r.set 2)),(Ad (word r.set 3)),v1])=v∧AL C' H' r.Aq v1)∧O=O'):=by
 intro w hs
 refine Bo Tryz.func12 rf rf rf ?_ hs
 clear hs w
 unfold Gq at hd
 refine Wp.sr<|Aa.alloc (cs:= #[(.int .i64 0),(Ad (word (fun _=>false) 0)),(Ad (word (fun _=>false) 1)),(Ad (word (fun _=>false) 2)),(Ad (word (fun _=>false) 3)),(.slice none 0 0)]) AH (by simp only[zw];rfl) rf fun B2=>Aa.Ah<|Wp.sr<|Aa.op (Ab.Bj (vs:=[(0,(.int .i64 2))]) (cs:= #[(.int .i64 2),(Ad (word (fun _=>false) 0)),(Ad (word (fun _=>false) 1)),(Ad (word (fun _=>false) 2)),(Ad (word (fun _=>false) 3)),(.slice none 0 0)]) II AH rf rf (AK rf (A8)) (by simp only[zw];rfl)) rf<|Aa.alloc (cs:= #[(.int .i64 0),(Ad (word (fun _=>false) 0)),(Ad (word (fun _=>false) 1)),(Ad (word (fun _=>false) 2)),(Ad (word (fun _=>false) 3)),(.slice none 0 0)]) AH (by simp only[zw];rfl) rf fun B3=>Aa.AM (i:=0) (cs':= #[(.int .i64 2),(Ad (word (fun _=>false) 0)),(Ad (word (fun _=>false) 1)),(Ad (word (fun _=>false) 2)),(Ad (word (fun _=>false) 3)),(.slice none 0 0)]) rf rf AH rf rf (Bd (Ac rf (Ac rf (Ac rf (Ac rf (Ac rf (Ac rf (An)))))))) rf ?_
 refine Aa.own (O:=_::_::_) ?_ rf
 refine Aa.Ah<|Wp.seq<|Wp.sr<|Aa.op (Ab.assign rf) rf<|Aa.Ah<|Wp.block<|Wp.Bt (fun m LL HH OO=> ∃(i1:Int),∃(w28:BitVec 64),[(0,(.int .u8 a0)),(2,(ptr B2 0)),(3,(ptr B3 0)),(4,(.int .u8 i1))]=LL∧ .Az B3 (.cells #[(.int .i64 2),(Ad (word (fun _=>false) 0)),(Ad w28),(Ad (word (fun _=>false) 2)),(Ad (word (fun _=>false) 3)),(.slice none 0 0)] 27 (0,0)):: .Az B2 (.cells #[(.int .i64 0),(Ad (word (fun _=>false) 0)),(Ad (word (fun _=>false) 1)),(Ad (word (fun _=>false) 2)),(Ad (word (fun _=>false) 3)),(.slice none 0 0)] 27 (0,0))::O=OO∧Ax m (fun p nx=>EK fu a0 p.1 p.2 nx) (i1,w28)=some r∧0≤i1∧i1≤255) fu ⟨97,(word (fun _=>false) 1),rf,rf,hd,by omega⟩ (Sub.of rf) ?_
 intro m1 L1 H1 O1 hl1 hI1
 obtain⟨i1,w28,rfl,rfl,hd,hr3⟩:=hI1
 obtain⟨m2,nx1,rfl,hn1,hd⟩:=Bm hd
 replace hd:EK fu a0 i1 w28 nx1=some r:=hd
 unfold EK at hd
 refine Wp.seq<|Wp.seq ?_
 rcases Bool.eq_false_or_eq_true (decide (i1≤a0))with hg1|hg1
 ·
  obtain⟨hg1_,hd⟩:=bT hg1 hd
  refine Wp.region<|Aa.op (Ab.move rf) rf<|Aa.op (Ab.move rf) rf<|Aa.op (Ab.BR (b:=decide (i1≤a0)) (c:=true) (Ab.leq rf rf) hg1) rf<|Aa.op (Ab.move rf) rf<|Aa.AQ rf rf (Ab.move rf) rf<|Aa.AQ rf rf (Ab.lss rf rf) rf<|Aa.op (Ab.AU rf rf) rf ?_
  refine Aa.Ah ?_
  refine Wp.cond rf (fun hb1=>?_) (fun hb1=>?_)
  ·
   obtain⟨hb1,hd⟩:=bT hb1 hd
   refine Wp.skip<|At.Ae<|Wp.seq<|Wp.block ?_
   obtain⟨ha1,hd⟩:=Al hd
   refine Wp.region<|Aa.op (Ab.A6 (o':=1) GG rf rf) rf<|Aa.op (Ab.ED (off':=2) K1 E2 rf rf (by decide) rf) rf<|Aa.op (Ab.Am (i:=0) (v:=(Ad w28)) Y0 rf rf rf rf) rf<|Aa.op (Ab.move rf) rf<|Aa.op (Ab.sub rf rf (DW ha1)) rf<|Aa.op (Ab.Ze (a:=1#64) rf rf (by omega)) rf<|Aa.op (Ab.YT (a:=w28) (b:=(1#64)<<<(i1-64).toNat) rf rf) rf ?_
   refine Aa.op (Ab.A6 (o':=1) GG rf rf) rf<|Aa.op (Ab.ED (off':=2) K1 E2 rf rf (by decide) rf) rf<|Aa.Dc (i:=0) rf rf rf E2 rf (Nat.le_of_ble_eq_true rf) ?_
   refine Aa.own (O:=_::_::_) ?_ rf
   refine Aa.nil<|At.AF<|At.Ae ?_
   obtain⟨ha2,hd⟩:=Al hd
   refine Wp.region<|Aa.op (Ab.move rf) rf<|Aa.op (Ab.add rf rf (DW ha2)) rf<|Aa.op (Ab.assign rf) rf<|Aa.nil ?_
   refine At.AZ (Hp.le.refl _) ⟨(i1+1),(w28+((1#64)<<<(i1-64).toNat)),rf,rf,(by rw[←hn1];exact hd),by omega⟩ (Sub.of rf)
  obtain⟨hb1,hd⟩:=bF hb1 hd
  refine Wp.exit<|At.Ao<|At.Ao<|At.AB<|At.Ae<|Wp.sr<|Aa.op (Ab.Aw (i:=0) DJ rf AH rf rf rf) rf<|Aa.AM (i:=1) (cs':= #[(.int .i64 2),(Ad (word (fun _=>false) 0)),(Ad w28),(Ad (word (fun _=>false) 2)),(Ad (word (fun _=>false) 3)),(.slice none 0 0)]) rf rf AH rf rf (Bd (Ac rf (Ac rf (Ac rf (Ac rf (Ac rf (Ac rf (An)))))))) rf ?_
  refine Aa.own (O:=_::_::_) ?_ rf
  refine Aa.Ah<|Wp.ret ?_
  obtain rfl:=si hd
  exact At.C_ rf (RV.CQ (i:=1) rf DJ rf AH rf rf) (fun w hs=>⟨_,_,_,rf,hl1,(hs.BW 2),⟨⟨(.slice none 0 0),(by simp only[Rx.kind,Rx.set,Rx.Aq,Pr,Pq,Pp,Po]),AL.nil⟩,rf⟩⟩)
 obtain⟨hg1_,hd⟩:=bF hg1 hd
 refine Wp.region<|Aa.op (Ab.move rf) rf<|Aa.op (Ab.move rf) rf<|Aa.op (Ab.BR (b:=decide (i1≤a0)) (c:=false) (Ab.leq rf rf) hg1) rf<|Aa.op (Ab.move rf) rf<|Aa.Ak rf rf rf rf<|Aa.Ak rf rf rf rf<|Aa.op (Ab.AP rf rf) rf ?_
 refine Aa.Ah<|Wp.Hd rf<|Wp.exit<|At.Ao<|At.Ao<|At.AB<|At.Ae<|Wp.sr ?_
 refine Aa.op (Ab.Aw (i:=0) DJ rf AH rf rf rf) rf<|Aa.AM (i:=1) (cs':= #[(.int .i64 2),(Ad (word (fun _=>false) 0)),(Ad w28),(Ad (word (fun _=>false) 2)),(Ad (word (fun _=>false) 3)),(.slice none 0 0)]) rf rf AH rf rf (Bd (Ac rf (Ac rf (Ac rf (Ac rf (Ac rf (Ac rf (An)))))))) rf ?_
 refine Aa.own (O:=_::_::_) ?_ rf
 refine Aa.Ah<|Wp.ret ?_
 obtain rfl:=si hd
 exact At.C_ rf (RV.CQ (i:=1) rf DJ rf AH rf rf) (fun w hs=>⟨_,_,_,rf,hl1,(hs.BW 2),⟨⟨(.slice none 0 0),(by simp only[Rx.kind,Rx.set,Rx.Aq,Pr,Pq,Pp,Po]),AL.nil⟩,rf⟩⟩)
theorem Fe{fu:Nat}{r:Bool}(hG:El Tryz.prog H)(hd:DG fu=some r):
    CB Tryz.prog 5 [] H O (.bool r):=by
 intro w hs
 refine Bo Tryz.func5 rf rf rf ?_ hs
 clear hs w
 unfold DG at hd
 refine Wp.sr<|Aa.op (Ab.assign rf) rf<|Aa.Ah<|Wp.sr<|Aa.op (Ab.Bj (vs:=[(0,(.int .i64 2))]) (cs:= #[(.int .i64 2),(Ad (word (fun _=>false) 0)),(Ad (word (fun _=>false) 1)),(Ad (word (fun _=>false) 2)),(Ad (word (fun _=>false) 3)),(.slice none 0 0)]) II AH rf rf (AK rf (A8)) (by simp only[zw];rfl)) rf<|Aa.alloc (cs:= #[(.int .i64 0),(Ad (word (fun _=>false) 0)),(Ad (word (fun _=>false) 1)),(Ad (word (fun _=>false) 2)),(Ad (word (fun _=>false) 3)),(.slice none 0 0)]) AH (by simp only[zw];rfl) rf fun B2=>Aa.AM (i:=0) (cs':= #[(.int .i64 2),(Ad (word (fun _=>false) 0)),(Ad (word (fun _=>false) 1)),(Ad (word (fun _=>false) 2)),(Ad (word (fun _=>false) 3)),(.slice none 0 0)]) rf rf AH rf rf (Bd (Ac rf (Ac rf (Ac rf (Ac rf (Ac rf (Ac rf (An)))))))) rf ?_
 refine Aa.own (O:=_::_) ?_ rf
 refine Aa.Ah<|Wp.sr<|Aa.op (Ab.A6 (o':=1) GG rf rf) rf<|Aa.op (Ab.ED (off':=2) K1 E2 rf rf (by decide) rf) rf<|Aa.Dc (i:=0) rf rf rf E2 rf (Nat.le_of_ble_eq_true rf) ?_
 refine Aa.own (O:=_::_) ?_ rf
 refine Aa.Ah<|Wp.seq ?_
 obtain⟨x1,hx1,hd⟩:=Ag hd
 obtain⟨x2,hx2,hd⟩:=Ag hd
 refine Wp.emp<|Af.runK 2 [⟨[],[],[0]⟩,⟨[1],[],[]⟩,⟨[],[],[0,2]⟩,⟨[],[],[2]⟩,⟨[],[],[2,4]⟩,⟨[],[],[4]⟩,⟨[],[],[4]⟩,Ay,⟨[0],[0],[8]⟩,⟨[0],[0],[4,8]⟩,Ay] follows rfl (by kernel_rfl)<|Af.Mk (val:=fun p1=>(.agg #[(.int .i64 x1.kind),(Ad (word x1.set 0)),(Ad (word x1.set 1)),(Ad (word x1.set 2)),(Ad (word x1.set 3)),(Bl (p1 0) 5)])) (fact:=fun p1 HH=>AL C' HH x1.Aq (Bl (p1 0) 5)) rfl (fun _=>rfl) (fun _=>rfl) (fun _ _ _ hl h=>h.mono hl) (fun _ p1 _ hx hf hy=>(Bc.call Wl rfl (IE (by omega) (by omega) hx1)).mono (by rintro v HH OO ⟨⟨v1,rfl,hv1⟩,rfl⟩;exact⟨rfl,hv1,rfl⟩)) rfl<|Af.op (val:=fun p1=>(.agg #[(.int .i64 2),(Ad (word (fun _=>false) 0)),(Ad (17179869184#64)),(Ad (word (fun _=>false) 2)),(Ad (word (fun _=>false) 3)),(.slice none 0 0)])) rfl rfl (fun _=>rfl) (fun _ p1 _ hx hf hy=>Ab.Aw (i:=1) DJ rfl AH rfl rfl (hy 1 _ rfl rfl)) rfl<|Af.Mk (val:=fun p1=>(p1 2)) (fact:=fun p1 HH=>AL C' HH ([x1,(Rx.mk 2 (bitsOf (word (fun _=>false) 0) (17179869184#64) (word (fun _=>false) 2) (word (fun _=>false) 3)) ([]:List Rx))]:List Rx) (p1 2)) rfl (fun _=>rfl) (fun _=>rfl) (fun _ _ _ hl h=>h.mono hl) (fun _ p1 _ hx hf hy=>(Bc.KW (len:=2) (c:=C') (l:=([x1,(Rx.mk 2 (bitsOf (word (fun _=>false) 0) (17179869184#64) (word (fun _=>false) 2) (word (fun _=>false) 3)) ([]:List Rx))]:List Rx)) (z:=(.agg #[.int .i64 0, .int .u64 0, .int .u64 0, .int .u64 0, .int .u64 0, .slice none 0 0])) (zs:= #[.int .i64 0, .int .u64 0, .int .u64 0, .int .u64 0, .int .u64 0, .slice none 0 0]) (vs:=[(0,(.agg #[(.int .i64 x1.kind),(Ad (word x1.set 0)),(Ad (word x1.set 1)),(Ad (word x1.set 2)),(Ad (word x1.set 3)),(Bl (p1 0) 5)])),(1,(.agg #[(.int .i64 2),(Ad (word (fun _=>false) 0)),(Ad (17179869184#64)),(Ad (word (fun _=>false) 2)),(Ad (word (fun _=>false) 3)),(.slice none 0 0)]))]) (cs:= #[(.int .i64 x1.kind),(Ad (word x1.set 0)),(Ad (word x1.set 1)),(Ad (word x1.set 2)),(Ad (word x1.set 3)),(Bl (p1 0) 5),(.int .i64 2),(Ad (word (fun _=>false) 0)),(Ad (17179869184#64)),(Ad (word (fun _=>false) 2)),(Ad (word (fun _=>false) 3)),(.slice none 0 0)]) Da AH rfl rfl rfl rfl (AK rfl (AK rfl (A8))) (by kernel_rfl) rfl rfl (show Ap C' _ [x1,(Rx.mk 2 (bitsOf (word (fun _=>false) 0) (17179869184#64) (word (fun _=>false) 2) (word (fun _=>false) 3)) ([]:List Rx))] [(.int .i64 x1.kind),(Ad (word x1.set 0)),(Ad (word x1.set 1)),(Ad (word x1.set 2)),(Ad (word x1.set 3)),(Bl (p1 0) 5),(.int .i64 2),(Ad (word (fun _=>false) 0)),(Ad (17179869184#64)),(Ad (word (fun _=>false) 2)),(Ad (word (fun _=>false) 3)),(.slice none 0 0)]from⟨[(.int .i64 x1.kind),(Ad (word x1.set 0)),(Ad (word x1.set 1)),(Ad (word x1.set 2)),(Ad (word x1.set 3)),(Bl (p1 0) 5)],_,rfl,(CC.2 ⟨_,rfl,(hf 0 rfl rfl)⟩),⟨[(.int .i64 2),(Ad (word (fun _=>false) 0)),(Ad (17179869184#64)),(Ad (word (fun _=>false) 2)),(Ad (word (fun _=>false) 3)),(.slice none 0 0)],_,rfl,(Kb AL.nil),rfl⟩⟩)).mono (by rintro v HH OO ⟨rfl,h⟩;exact⟨rfl,h,rfl⟩)) rfl<|Af.op (val:=fun p1=>(.agg #[(.int .i64 4),(Ad (word (fun _=>false) 0)),(Ad (word (fun _=>false) 1)),(Ad (word (fun _=>false) 2)),(Ad (word (fun _=>false) 3)),(p1 2)])) rfl rfl (fun _=>rfl) (fun _ p1 _ hx hf hy=>Ab.Bj (vs:=[(0,(.int .i64 4)),(2,(p1 2))]) (cs:= #[(.int .i64 4),(Ad (word (fun _=>false) 0)),(Ad (word (fun _=>false) 1)),(Ad (word (fun _=>false) 2)),(Ad (word (fun _=>false) 3)),(p1 2)]) II AH rfl rfl (AK rfl (AK (E8 ((hf 2 rfl rfl).one)) (A8))) (by simp only[zw];rfl)) rfl<|Af.Mk (val:=fun p1=>(.tuple #[(.agg #[(Bl (Bl (p1 4) 0) 0)]),(.int .i64 x2.2)])) (fact:=fun p1 HH=>AL (cP cB (cL (cP A0 (cP A0 Ar)))) HH x2.1 (Bl (Bl (p1 4) 0) 0)) rfl (fun _=>rfl) (fun _=>rfl) (fun _ _ _ hl h=>h.mono hl) (fun _ p1 _ hx hf hy=>(Bc.call Xa rfl (NM (a0:=(Rx.mk 4 (fun _=>false) ([x1,(Rx.mk 2 (bitsOf (word (fun _=>false) 0) (17179869184#64) (word (fun _=>false) 2) (word (fun _=>false) 3)) ([]:List Rx))]:List Rx))) (hf 2 rfl rfl) (hG.mono hx) hx2)).mono (by rintro v HH OO ⟨⟨v2,rfl,hv2⟩,rfl⟩;exact⟨rfl,hv2,rfl⟩)) rfl<|Af.op (val:=fun p1=>(.tuple #[(.agg #[(Bl (Bl (p1 4) 0) 0)]),(.int .i64 x2.2)])) rfl rfl (fun _=>rfl) (fun _ p1 _ hx hf hy=>Ab.move rfl) rfl ?_
 refine Af.op (val:=fun p1=>(.agg #[(Bl (Bl (p1 4) 0) 0)])) rf rf (fun _=>rfl) (fun _ p1 _ hx hf hy=>Ab.extract rf rf) rf<|Af.op (val:=fun p1=>(.int .i64 x2.2)) rf rf (fun _=>rfl) (fun _ p1 _ hx hf hy=>Ab.extract rf rf) rf<|Af.Xy (val:=fun p1=>ptr (Bh (p1 8)) 0) (res:=fun p1=> .Az (Bh (p1 8)) (.cells #[(.slice none 0 0)] 32 (0,0))) 0 rf rf (fun _=>rfl) (fun _=>rfl) (fun _ p1 _ hx hf hy=>Bc.Mb 0 A5 rf (hy 0 _ rf rf)) rf<|Af.GY (res:=fun p1=> .Az (Bh (p1 8)) (.cells #[(Bl (Bl (p1 4) 0) 0)] 32 (0,0))) 0 rf rf rf (fun _=>rfl) (fun _ p1 _ hx hf hy=>Bc.P' (vs:=[(Bl (Bl (p1 4) 0) 0)]) rf rf rf A5 rf (Ac ((hf 4 rf rf).one) (An)) (hy 0 _ rf rf) rf rf)<|Af.op (val:=fun p1=>(.int .i64 x2.2)) rf rf (fun _=>rfl) (fun _ p1 _ hx hf hy=>Ab.assign rf) rf<|Af.done fun H1 p1 hl1 hF1=>?_
 have hf1:AL C' H1 x1.Aq (Bl (p1 0) 5):=hF1 0
 have hf2:AL C' H1 ([x1,(Rx.mk 2 (bitsOf (word (fun _=>false) 0) (17179869184#64) (word (fun _=>false) 2) (word (fun _=>false) 3)) ([]:List Rx))]:List Rx) (p1 2):=hF1 2
 have hf3:AL (cP cB (cL (cP A0 (cP A0 Ar)))) H1 x2.1 (Bl (Bl (p1 4) 0) 0):=hF1 4
 refine At.sub (L':=[(2,(ptr (Bh (p1 8)) 0)),(3,(.int .i64 x2.2))]) (Sub.of rf) ?_
 refine At.own (O:= .Az (Bh (p1 8)) (.cells #[(Bl (Bl (p1 4) 0) 0)] 32 (0,0)):: .Az B2 (.cells #[(.int .i64 2),(Ad (word (fun _=>false) 0)),(Ad (17179869184#64)),(Ad (word (fun _=>false) 2)),(Ad (word (fun _=>false) 3)),(.slice none 0 0)] 27 (0,0))::O) ?_ (by first|rfl|(simp only[List.length_append,List.length_set];rfl)|simp)
 refine At.Ae<|Wp.seq ?_
 obtain⟨x3,hx3,hd⟩:=Ag hd
 obtain⟨x4,hx4,hd⟩:=Ag hd
 refine Wp.region<|Aa.Fi (Bc.call Wl rf (IE (by omega) (by omega) hx3)) rf ?_
 rintro _ H2 _ hl2 ⟨⟨v3,rfl,hv3⟩,rfl⟩
 refine Aa.Fi (Bc.call Xa rf (NM hv3 (hG.mono (hl1.trans hl2)) hx4)) rf ?_
 rintro _ H3 _ hl3 ⟨⟨v4,rfl,hv4⟩,rfl⟩
 refine Aa.op (Ab.move rf) rf<|Aa.op (Ab.extract rf rf) rf<|Aa.op (Ab.extract rf rf) rf<|Aa.alloc (cs:= #[(.slice none 0 0)]) A5 rf rf fun B3=>Aa.AM (i:=0) (cs':= #[v4]) rf rf A5 rf rf (Bd (Ac hv4.one (An))) rf ?_
 refine Aa.own (O:=_::_::_::_) ?_ rf
 refine Aa.op (Ab.assign rf) rf<|Aa.Ah<|Wp.seq ?_
 obtain⟨x5,hx5,hd⟩:=Ag hd
 refine Wp.region<|Aa.op (Ab.Bj (vs:=[]) (cs:= #[(.bool false),(.slice none 0 0)]) HV BX rf rf (A8) rf) rf<|Aa.Bv (c:=(cP cB (cL (cP A0 (cP A0 Ar))))) (y:=(false,([]:List (Int×Int×Int)))) (cs:=[(.bool false),(.slice none 0 0)]) C9 BX rf rf rf rf (⟨[(.bool false)],[(.slice none 0 0)],rf,rf,⟨_,rf,AL.nil⟩⟩) rf fun v5 xs1 hq1=>?_
 refine Aa.Bk (i:=0) rf fun hb1=>?_
 refine Aa.freeze (i:=0) rf fun H4 hl4 hs1=>?_
 have hv5:=AL.of (c:=(cP cB (cL (cP A0 (cP A0 Ar))))) hs1 rfl (hq1.mono hl4) hb1
 refine Aa.Fi (Bc.call QV rf (FM hv5 (hG.mono (((hl1.trans hl2).trans hl3).trans hl4)) hx5)) rf ?_
 rintro _ H5 _ hl5 ⟨⟨v6,rfl,hv6⟩,rfl⟩
 refine Aa.op (Ab.move rf) rf<|Aa.op (Ab.extract rf rf) rf<|Aa.op (Ab.extract rf rf) rf<|Aa.alloc (cs:= #[(.slice none 0 0)]) A5 rf rf fun B4=>Aa.AM (i:=0) (cs':= #[v6]) rf rf A5 rf rf (Bd (Ac hv6.one (An))) rf ?_
 refine Aa.own (O:=_::_::_::_::_) ?_ rf
 refine Aa.op (Ab.assign rf) rf<|Aa.Ah<|Wp.seq ?_
 obtain⟨x6,hx6,hd⟩:=Ag hd
 refine Wp.region<|Aa.op (Ab.Bj (vs:=[(0,(.int .u8 2)),(1,(.int .u8 1))]) (cs:= #[(.int .u8 2),(.int .u8 1),(.int .i64 0)]) Jl Cz rf rf (AK rf (AK rf (A8))) rf) rf<|Aa.Bv (c:=(cP A0 (cP A0 Ar))) (y:=(2,1,0)) (cs:=[(.int .u8 2),(.int .u8 1),(.int .i64 0)]) EL Cz rf rf rf rf (⟨[(.int .u8 2)],[(.int .u8 1),(.int .i64 0)],rf,⟨rf,(show(0:Int)≤2 by omega),(show 2≤(255:Int) by omega)⟩,⟨[(.int .u8 1)],[(.int .i64 0)],rf,⟨rf,(show(0:Int)≤1 by omega),(show 1≤(255:Int) by omega)⟩,rf⟩⟩) rf fun v7 xs2 hq2=>Aa.BU (i:=0) rf fun ho1=>Aa.op (Ab.Bj (vs:=[(1,v7)]) (cs:= #[(.bool false),v7]) HV BX rf rf (AK (E8 ho1) (A8)) rf) rf ?_
 refine Aa.Bk (i:=0) rf fun hb2=>?_
 refine Aa.freeze (i:=0) rf fun H6 hl6 hs2=>?_
 have hv7:=AL.of (c:=(cP A0 (cP A0 Ar))) hs2 rfl (hq2.mono hl6) hb2
 refine Aa.Bv (c:=(cP cB (cL (cP A0 (cP A0 Ar))))) (y:=(false,([(2,1,0)]:List (Int×Int×Int)))) (cs:=[(.bool false),v7]) C9 BX rf rf rf rf (⟨[(.bool false)],[v7],rf,rf,⟨_,rf,hv7⟩⟩) rf fun v8 xs3 hq3=>?_
 refine Aa.Bk (i:=0) rf fun hb3=>?_
 refine Aa.freeze (i:=0) rf fun H7 hl7 hs3=>?_
 have hv8:=AL.of (c:=(cP cB (cL (cP A0 (cP A0 Ar))))) hs3 rfl (hq3.mono hl7) hb3
 refine Aa.Fi (Bc.call QV rf (FM hv8 (hG.mono ((((((hl1.trans hl2).trans hl3).trans hl4).trans hl5).trans hl6).trans hl7)) hx6)) rf ?_
 rintro _ H8 _ hl8 ⟨⟨v9,rfl,hv9⟩,rfl⟩
 refine Aa.op (Ab.move rf) rf<|Aa.op (Ab.extract rf rf) rf<|Aa.op (Ab.extract rf rf) rf<|Aa.alloc (cs:= #[(.slice none 0 0)]) A5 rf rf fun B5=>Aa.AM (i:=0) (cs':= #[v9]) rf rf A5 rf rf (Bd (Ac hv9.one (An))) rf ?_
 refine Aa.own (O:=_::_::_::_::_::_) ?_ rf
 refine Aa.op (Ab.assign rf) rf<|Aa.Ah<|Wp.sr<|Aa.op (Ab.Bj (vs:=[(0,(.int .u8 97)),(1,(.int .u8 98)),(2,(.int .i64 1))]) (cs:= #[(.int .u8 97),(.int .u8 98),(.int .i64 1)]) Jl Cz rf rf (AK rf (AK rf (AK rf (A8)))) rf) rf<|Aa.Bv (c:=(cP A0 (cP A0 Ar))) (y:=(97,98,1)) (cs:=[(.int .u8 97),(.int .u8 98),(.int .i64 1)]) EL Cz rf rf rf rf (⟨[(.int .u8 97)],[(.int .u8 98),(.int .i64 1)],rf,⟨rf,(show(0:Int)≤97 by omega),(show 97≤(255:Int) by omega)⟩,⟨[(.int .u8 98)],[(.int .i64 1)],rf,⟨rf,(show(0:Int)≤98 by omega),(show 98≤(255:Int) by omega)⟩,rf⟩⟩) rf fun v10 xs4 hq4=>Aa.BU (i:=0) rf fun ho2=>Aa.op (Ab.Bj (vs:=[(1,v10)]) (cs:= #[(.bool false),v10]) HV BX rf rf (AK (E8 ho2) (A8)) rf) rf<|Aa.op (Ab.Bj (vs:=[(0,(.bool true))]) (cs:= #[(.bool true),(.slice none 0 0)]) HV BX rf rf (AK rf (A8)) rf) rf ?_
 refine Aa.Bk (i:=0) rf fun hb4=>?_
 refine Aa.freeze (i:=0) rf fun H9 hl9 hs4=>?_
 have hv10:=AL.of (c:=(cP A0 (cP A0 Ar))) hs4 rfl (hq4.mono hl9) hb4
 refine Aa.Ug (c:=(cP cB (cL (cP A0 (cP A0 Ar))))) (l:=[(false,([(97,98,1)]:List (Int×Int×Int))),(true,([]:List (Int×Int×Int)))]) (z:=(.agg #[.bool false, .slice none 0 0])) (zs:= #[.bool false, .slice none 0 0]) (vs:=[(0,(.agg #[(.bool false),v10])),(1,(.agg #[(.bool true),(.slice none 0 0)]))]) (cs:= #[(.bool false),v10,(.bool true),(.slice none 0 0)]) C9 BX rf rf rf rf (AK rf (AK rf (A8))) (by kernel_rfl) rf ⟨[(.bool false),v10],_,rf,⟨[(.bool false)],[v10],rf,rf,⟨_,rf,hv10⟩⟩,⟨[(.bool true),(.slice none 0 0)],_,rf,⟨[(.bool true)],[(.slice none 0 0)],rf,rf,⟨_,rf,AL.nil⟩⟩,rf⟩⟩ rfl fun v11 xs5 hq5=>Aa.BU (i:=0) rf fun ho3=>Aa.op (Ab.Bj (vs:=[(0,v11)]) (cs:= #[v11]) HB A5 rf rf (AK (E8 ho3) (A8)) rf) rf<|Aa.alloc (cs:= #[(.slice none 0 0)]) A5 rf rf fun B6=>Aa.BU (i:=1) rf fun ho4=>Aa.AM (i:=0) (cs':= #[v11]) rf rf A5 rf rf (Bd (Ac ho4 (An))) rf ?_
 refine Aa.own (O:=_::_::_::_::_::_::_::_) ?_ rf
 refine Aa.Ah<|Wp.sr<|Aa.op (Ab.Bj (vs:=[(0,(.int .u8 0)),(1,(.int .u8 255))]) (cs:= #[(.int .u8 0),(.int .u8 255),(.int .i64 0)]) Jl Cz rf rf (AK rf (AK rf (A8))) rf) rf<|Aa.Bv (c:=(cP A0 (cP A0 Ar))) (y:=(0,255,0)) (cs:=[(.int .u8 0),(.int .u8 255),(.int .i64 0)]) EL Cz rf rf rf rf (⟨[(.int .u8 0)],[(.int .u8 255),(.int .i64 0)],rf,⟨rf,(show(0:Int)≤0 by omega),(show 0≤(255:Int) by omega)⟩,⟨[(.int .u8 255)],[(.int .i64 0)],rf,⟨rf,(show(0:Int)≤255 by omega),(show 255≤(255:Int) by omega)⟩,rf⟩⟩) rf fun v12 xs6 hq6=>Aa.BU (i:=0) rf fun ho5=>Aa.op (Ab.Bj (vs:=[(0,(.bool true)),(1,v12)]) (cs:= #[(.bool true),v12]) HV BX rf rf (AK rf (AK (E8 ho5) (A8))) rf) rf ?_
 refine Aa.Bk (i:=0) rf fun hb5=>?_
 refine Aa.freeze (i:=0) rf fun H10 hl10 hs5=>?_
 have hv11:=AL.of (c:=(cP A0 (cP A0 Ar))) hs5 rfl (hq6.mono hl10) hb5
 refine Aa.Bv (c:=(cP cB (cL (cP A0 (cP A0 Ar))))) (y:=(true,([(0,255,0)]:List (Int×Int×Int)))) (cs:=[(.bool true),v12]) C9 BX rf rf rf rf (⟨[(.bool true)],[v12],rf,rf,⟨_,rf,hv11⟩⟩) rf fun v13 xs7 hq7=>Aa.BU (i:=0) rf fun ho6=>Aa.op (Ab.Bj (vs:=[(0,v13)]) (cs:= #[v13]) HB A5 rf rf (AK (E8 ho6) (A8)) rf) rf<|Aa.alloc (cs:= #[(.slice none 0 0)]) A5 rf rf fun B7=>Aa.BU (i:=1) rf fun ho7=>Aa.AM (i:=0) (cs':= #[v13]) rf rf A5 rf rf (Bd (Ac ho7 (An))) rf ?_
 refine Aa.own (O:=_::_::_::_::_::_::_::_::_::_) ?_ rf
 refine Aa.Ah<|Wp.seq<|Wp.seq ?_
 rcases Bool.eq_false_or_eq_true (decide (x2.2≠0))with hg1|hg1
 ·
  obtain⟨hg1_,hd⟩:=bT hg1 hd
  refine Wp.region<|Aa.op (Ab.move rf) rf<|Aa.op (Ab.BR (b:=decide (x2.2≠0)) (c:=true) (Ab.neq rf rf) hg1) rf<|Aa.op (Ab.move rf) rf<|Aa.Ak rf rf rf rf<|Aa.Ak rf rf rf rf<|Aa.op (Ab.AU rf rf) rf<|Aa.op (Ab.move rf) rf ?_
  refine Aa.Ak rf rf rf rf<|Aa.Ak rf rf rf rf<|Aa.Ak rf rf rf rf<|Aa.Ak rf rf rf rf<|Aa.op (Ab.AU rf rf) rf<|Aa.op (Ab.move rf) rf<|Aa.Ak rf rf rf rf<|Aa.Ak rf rf rf rf ?_
  refine Aa.Ak rf rf rf rf<|Aa.Ak rf rf rf rf<|Aa.op (Ab.AU rf rf) rf<|Aa.op (Ab.move rf) rf<|Aa.Ak rf rf rf rf<|Aa.Ak rf rf rf rf<|Aa.op (Ab.AU rf rf) rf<|Aa.op (Ab.move rf) rf ?_
  refine Aa.Ak rf rf rf rf<|Aa.Ak rf rf rf rf<|Aa.Ak rf rf rf rf<|Aa.Ak rf rf rf rf<|Aa.op (Ab.AU rf rf) rf<|Aa.op (Ab.move rf) rf<|Aa.Ak rf rf rf rf<|Aa.Ak rf rf rf rf ?_
  refine Aa.op (Ab.AU rf rf) rf<|Aa.Ah<|Wp.EY rf<|Wp.sr<|Aa.op (Ab.assign rf) rf<|Aa.Ah<|Wp.ret<|At.Au ?_
  obtain rfl:=si hd
  exact At.q1 9 (((((((((hl1.trans hl2).trans hl3).trans hl4).trans hl5).trans hl6).trans hl7).trans hl8).trans hl9).trans hl10) rf (RV.tmp rf) rf
 obtain⟨hg1_,hd⟩:=bF hg1 hd
 rcases Bool.eq_false_or_eq_true (decide (x4.2≠0))with hg2|hg2
 ·
  obtain⟨hg2_,hd⟩:=bT hg2 hd
  refine Wp.region<|Aa.op (Ab.move rf) rf<|Aa.op (Ab.BR (b:=decide (x2.2≠0)) (c:=false) (Ab.neq rf rf) hg1) rf<|Aa.op (Ab.move rf) rf<|Aa.AQ rf rf (Ab.move rf) rf<|Aa.AQ rf rf (Ab.BR (b:=decide (x4.2≠0)) (c:=true) (Ab.neq rf rf) hg2) rf<|Aa.op (Ab.AP rf rf) rf<|Aa.op (Ab.move rf) rf ?_
  refine Aa.Ak rf rf rf rf<|Aa.Ak rf rf rf rf<|Aa.Ak rf rf rf rf<|Aa.Ak rf rf rf rf<|Aa.op (Ab.AU rf rf) rf<|Aa.op (Ab.move rf) rf<|Aa.Ak rf rf rf rf<|Aa.Ak rf rf rf rf ?_
  refine Aa.Ak rf rf rf rf<|Aa.Ak rf rf rf rf<|Aa.op (Ab.AU rf rf) rf<|Aa.op (Ab.move rf) rf<|Aa.Ak rf rf rf rf<|Aa.Ak rf rf rf rf<|Aa.op (Ab.AU rf rf) rf<|Aa.op (Ab.move rf) rf ?_
  refine Aa.Ak rf rf rf rf<|Aa.Ak rf rf rf rf<|Aa.Ak rf rf rf rf<|Aa.Ak rf rf rf rf<|Aa.op (Ab.AU rf rf) rf<|Aa.op (Ab.move rf) rf<|Aa.Ak rf rf rf rf<|Aa.Ak rf rf rf rf ?_
  refine Aa.op (Ab.AU rf rf) rf<|Aa.Ah<|Wp.EY rf<|Wp.sr<|Aa.op (Ab.assign rf) rf<|Aa.Ah<|Wp.ret<|At.Au ?_
  obtain rfl:=si hd
  exact At.q1 9 (((((((((hl1.trans hl2).trans hl3).trans hl4).trans hl5).trans hl6).trans hl7).trans hl8).trans hl9).trans hl10) rf (RV.tmp rf) rf
 obtain⟨hg2_,hd⟩:=bF hg2 hd
 obtain⟨x7,hx7,hd⟩:=Ag hd
 rcases Bool.eq_false_or_eq_true (!x7)with hg3|hg3
 ·
  replace hd:=Gl hg3 hd
  refine Wp.region<|Aa.op (Ab.move rf) rf<|Aa.op (Ab.BR (b:=decide (x2.2≠0)) (c:=false) (Ab.neq rf rf) hg1) rf<|Aa.op (Ab.move rf) rf<|Aa.AQ rf rf (Ab.move rf) rf<|Aa.AQ rf rf (Ab.BR (b:=decide (x4.2≠0)) (c:=false) (Ab.neq rf rf) hg2) rf<|Aa.op (Ab.AP rf rf) rf<|Aa.op (Ab.move rf) rf ?_
  refine Aa.AQ rf rf (Ab.Aw (i:=7) u32 rf A5 rf rf rf) rf<|Aa.AQ rf rf (Ab.Aw (i:=2) u32 rf A5 rf rf rf) rf ?_
  refine Aa.Bk (i:=3) rf fun hb6=>?_
  refine Aa.freeze (i:=3) rf fun H11 hl11 hs6=>?_
  have hv12:=AL.of (c:=(cP cB (cL (cP A0 (cP A0 Ar))))) hs6 rfl ((hq5.mono hl10).mono hl11) hb6
  refine Aa.AQ rf rf (Ab.call Fo rf (BG (a1:=([(false,([(97,98,1)]:List (Int×Int×Int))),(true,([]:List (Int×Int×Int)))]:List (Bool×(List (Int×Int×Int))))) (hf3.mono (((((((((hl2.trans hl3).trans hl4).trans hl5).trans hl6).trans hl7).trans hl8).trans hl9).trans hl10).trans hl11)) hv12 hx7)) rf<|Aa.AQ rf rf (Ab.BR (b:= !x7) (c:=true) (Ab.not rf) hg3) rf<|Aa.op (Ab.AP rf rf) rf<|Aa.op (Ab.move rf) rf<|Aa.Ak rf rf rf rf<|Aa.Ak rf rf rf rf<|Aa.Ak rf rf rf rf<|Aa.Ak rf rf rf rf ?_
  refine Aa.op (Ab.AU rf rf) rf<|Aa.op (Ab.move rf) rf<|Aa.Ak rf rf rf rf<|Aa.Ak rf rf rf rf<|Aa.op (Ab.AU rf rf) rf<|Aa.op (Ab.move rf) rf<|Aa.Ak rf rf rf rf<|Aa.Ak rf rf rf rf ?_
  refine Aa.Ak rf rf rf rf<|Aa.Ak rf rf rf rf<|Aa.op (Ab.AU rf rf) rf<|Aa.op (Ab.move rf) rf<|Aa.Ak rf rf rf rf<|Aa.Ak rf rf rf rf<|Aa.op (Ab.AU rf rf) rf<|Aa.Ah ?_
  refine Wp.EY rf<|Wp.sr<|Aa.op (Ab.assign rf) rf<|Aa.Ah<|Wp.ret<|At.Au ?_
  obtain rfl:=si hd
  exact At.q1 8 ((((((((((hl1.trans hl2).trans hl3).trans hl4).trans hl5).trans hl6).trans hl7).trans hl8).trans hl9).trans hl10).trans hl11) rf (RV.tmp rf) rf
 replace hd:=Gm hg3 hd
 obtain⟨x8,hx8,hd⟩:=Ag hd
 rcases Bool.eq_false_or_eq_true (!x8)with hg4|hg4
 ·
  replace hd:=Gl hg4 hd
  refine Wp.region<|Aa.op (Ab.move rf) rf<|Aa.op (Ab.BR (b:=decide (x2.2≠0)) (c:=false) (Ab.neq rf rf) hg1) rf<|Aa.op (Ab.move rf) rf<|Aa.AQ rf rf (Ab.move rf) rf<|Aa.AQ rf rf (Ab.BR (b:=decide (x4.2≠0)) (c:=false) (Ab.neq rf rf) hg2) rf<|Aa.op (Ab.AP rf rf) rf<|Aa.op (Ab.move rf) rf ?_
  refine Aa.AQ rf rf (Ab.Aw (i:=7) u32 rf A5 rf rf rf) rf<|Aa.AQ rf rf (Ab.Aw (i:=2) u32 rf A5 rf rf rf) rf ?_
  refine Aa.Bk (i:=3) rf fun hb6=>?_
  refine Aa.freeze (i:=3) rf fun H11 hl11 hs6=>?_
  have hv12:=AL.of (c:=(cP cB (cL (cP A0 (cP A0 Ar))))) hs6 rfl ((hq5.mono hl10).mono hl11) hb6
  refine Aa.AQ rf rf (Ab.call Fo rf (BG (a1:=([(false,([(97,98,1)]:List (Int×Int×Int))),(true,([]:List (Int×Int×Int)))]:List (Bool×(List (Int×Int×Int))))) (hf3.mono (((((((((hl2.trans hl3).trans hl4).trans hl5).trans hl6).trans hl7).trans hl8).trans hl9).trans hl10).trans hl11)) hv12 hx7)) rf<|Aa.AQ rf rf (Ab.BR (b:= !x7) (c:=false) (Ab.not rf) hg3) rf<|Aa.op (Ab.AP rf rf) rf<|Aa.op (Ab.move rf) rf<|Aa.AQ rf rf (Ab.Aw (i:=5) u32 rf A5 rf rf rf) rf<|Aa.AQ rf rf (Ab.Aw (i:=2) u32 rf A5 rf rf rf) rf<|Aa.AQ rf rf (Ab.call Fo rf (BG (a1:=([(false,([(97,98,1)]:List (Int×Int×Int))),(true,([]:List (Int×Int×Int)))]:List (Bool×(List (Int×Int×Int))))) (hv4.mono (((((((hl4.trans hl5).trans hl6).trans hl7).trans hl8).trans hl9).trans hl10).trans hl11)) hv12 hx8)) rf<|Aa.AQ rf rf (Ab.BR (b:= !x8) (c:=true) (Ab.not rf) hg4) rf ?_
  refine Aa.op (Ab.AP rf rf) rf<|Aa.op (Ab.move rf) rf<|Aa.Ak rf rf rf rf<|Aa.Ak rf rf rf rf<|Aa.op (Ab.AU rf rf) rf<|Aa.op (Ab.move rf) rf<|Aa.Ak rf rf rf rf<|Aa.Ak rf rf rf rf ?_
  refine Aa.Ak rf rf rf rf<|Aa.Ak rf rf rf rf<|Aa.op (Ab.AU rf rf) rf<|Aa.op (Ab.move rf) rf<|Aa.Ak rf rf rf rf<|Aa.Ak rf rf rf rf<|Aa.op (Ab.AU rf rf) rf<|Aa.Ah ?_
  refine Wp.EY rf<|Wp.sr<|Aa.op (Ab.assign rf) rf<|Aa.Ah<|Wp.ret<|At.Au ?_
  obtain rfl:=si hd
  exact At.q1 8 ((((((((((hl1.trans hl2).trans hl3).trans hl4).trans hl5).trans hl6).trans hl7).trans hl8).trans hl9).trans hl10).trans hl11) rf (RV.tmp rf) rf
 replace hd:=Gm hg4 hd
 rcases Bool.eq_false_or_eq_true (decide (x5.2≠0))with hg5|hg5
 ·
  obtain⟨hg5_,hd⟩:=bT hg5 hd
  refine Wp.region<|Aa.op (Ab.move rf) rf<|Aa.op (Ab.BR (b:=decide (x2.2≠0)) (c:=false) (Ab.neq rf rf) hg1) rf<|Aa.op (Ab.move rf) rf<|Aa.AQ rf rf (Ab.move rf) rf<|Aa.AQ rf rf (Ab.BR (b:=decide (x4.2≠0)) (c:=false) (Ab.neq rf rf) hg2) rf<|Aa.op (Ab.AP rf rf) rf<|Aa.op (Ab.move rf) rf ?_
  refine Aa.AQ rf rf (Ab.Aw (i:=7) u32 rf A5 rf rf rf) rf<|Aa.AQ rf rf (Ab.Aw (i:=2) u32 rf A5 rf rf rf) rf ?_
  refine Aa.Bk (i:=3) rf fun hb6=>?_
  refine Aa.freeze (i:=3) rf fun H11 hl11 hs6=>?_
  have hv12:=AL.of (c:=(cP cB (cL (cP A0 (cP A0 Ar))))) hs6 rfl ((hq5.mono hl10).mono hl11) hb6
  refine Aa.AQ rf rf (Ab.call Fo rf (BG (a1:=([(false,([(97,98,1)]:List (Int×Int×Int))),(true,([]:List (Int×Int×Int)))]:List (Bool×(List (Int×Int×Int))))) (hf3.mono (((((((((hl2.trans hl3).trans hl4).trans hl5).trans hl6).trans hl7).trans hl8).trans hl9).trans hl10).trans hl11)) hv12 hx7)) rf<|Aa.AQ rf rf (Ab.BR (b:= !x7) (c:=false) (Ab.not rf) hg3) rf<|Aa.op (Ab.AP rf rf) rf<|Aa.op (Ab.move rf) rf<|Aa.AQ rf rf (Ab.Aw (i:=5) u32 rf A5 rf rf rf) rf<|Aa.AQ rf rf (Ab.Aw (i:=2) u32 rf A5 rf rf rf) rf<|Aa.AQ rf rf (Ab.call Fo rf (BG (a1:=([(false,([(97,98,1)]:List (Int×Int×Int))),(true,([]:List (Int×Int×Int)))]:List (Bool×(List (Int×Int×Int))))) (hv4.mono (((((((hl4.trans hl5).trans hl6).trans hl7).trans hl8).trans hl9).trans hl10).trans hl11)) hv12 hx8)) rf<|Aa.AQ rf rf (Ab.BR (b:= !x8) (c:=false) (Ab.not rf) hg4) rf ?_
  refine Aa.op (Ab.AP rf rf) rf<|Aa.op (Ab.move rf) rf<|Aa.AQ rf rf (Ab.move rf) rf<|Aa.AQ rf rf (Ab.BR (b:=decide (x5.2≠0)) (c:=true) (Ab.neq rf rf) hg5) rf<|Aa.op (Ab.AP rf rf) rf<|Aa.op (Ab.move rf) rf<|Aa.Ak rf rf rf rf<|Aa.Ak rf rf rf rf ?_
  refine Aa.Ak rf rf rf rf<|Aa.Ak rf rf rf rf<|Aa.op (Ab.AU rf rf) rf<|Aa.op (Ab.move rf) rf<|Aa.Ak rf rf rf rf<|Aa.Ak rf rf rf rf<|Aa.op (Ab.AU rf rf) rf<|Aa.Ah ?_
  refine Wp.EY rf<|Wp.sr<|Aa.op (Ab.assign rf) rf<|Aa.Ah<|Wp.ret<|At.Au ?_
  obtain rfl:=si hd
  exact At.q1 8 ((((((((((hl1.trans hl2).trans hl3).trans hl4).trans hl5).trans hl6).trans hl7).trans hl8).trans hl9).trans hl10).trans hl11) rf (RV.tmp rf) rf
 obtain⟨hg5_,hd⟩:=bF hg5 hd
 rcases Bool.eq_false_or_eq_true (decide ((x5.1.length:Int)≠0))with hg6|hg6
 ·
  obtain⟨hg6_,hd⟩:=bT hg6 hd
  refine Wp.region<|Aa.op (Ab.move rf) rf<|Aa.op (Ab.BR (b:=decide (x2.2≠0)) (c:=false) (Ab.neq rf rf) hg1) rf<|Aa.op (Ab.move rf) rf<|Aa.AQ rf rf (Ab.move rf) rf<|Aa.AQ rf rf (Ab.BR (b:=decide (x4.2≠0)) (c:=false) (Ab.neq rf rf) hg2) rf<|Aa.op (Ab.AP rf rf) rf<|Aa.op (Ab.move rf) rf ?_
  refine Aa.AQ rf rf (Ab.Aw (i:=7) u32 rf A5 rf rf rf) rf<|Aa.AQ rf rf (Ab.Aw (i:=2) u32 rf A5 rf rf rf) rf ?_
  refine Aa.Bk (i:=3) rf fun hb6=>?_
  refine Aa.freeze (i:=3) rf fun H11 hl11 hs6=>?_
  have hv12:=AL.of (c:=(cP cB (cL (cP A0 (cP A0 Ar))))) hs6 rfl ((hq5.mono hl10).mono hl11) hb6
  refine Aa.AQ rf rf (Ab.call Fo rf (BG (a1:=([(false,([(97,98,1)]:List (Int×Int×Int))),(true,([]:List (Int×Int×Int)))]:List (Bool×(List (Int×Int×Int))))) (hf3.mono (((((((((hl2.trans hl3).trans hl4).trans hl5).trans hl6).trans hl7).trans hl8).trans hl9).trans hl10).trans hl11)) hv12 hx7)) rf<|Aa.AQ rf rf (Ab.BR (b:= !x7) (c:=false) (Ab.not rf) hg3) rf<|Aa.op (Ab.AP rf rf) rf<|Aa.op (Ab.move rf) rf<|Aa.AQ rf rf (Ab.Aw (i:=5) u32 rf A5 rf rf rf) rf<|Aa.AQ rf rf (Ab.Aw (i:=2) u32 rf A5 rf rf rf) rf<|Aa.AQ rf rf (Ab.call Fo rf (BG (a1:=([(false,([(97,98,1)]:List (Int×Int×Int))),(true,([]:List (Int×Int×Int)))]:List (Bool×(List (Int×Int×Int))))) (hv4.mono (((((((hl4.trans hl5).trans hl6).trans hl7).trans hl8).trans hl9).trans hl10).trans hl11)) hv12 hx8)) rf<|Aa.AQ rf rf (Ab.BR (b:= !x8) (c:=false) (Ab.not rf) hg4) rf ?_
  refine Aa.op (Ab.AP rf rf) rf<|Aa.op (Ab.move rf) rf<|Aa.AQ rf rf (Ab.move rf) rf<|Aa.AQ rf rf (Ab.BR (b:=decide (x5.2≠0)) (c:=false) (Ab.neq rf rf) hg5) rf<|Aa.op (Ab.AP rf rf) rf<|Aa.op (Ab.move rf) rf<|Aa.AQ rf rf (Ab.A6 (o':=0) BO rf rf) rf<|Aa.AQ rf rf (Ab.Am (i:=4) (v:=v6) C9 rf rf rf rf) rf ?_
  have hb7:=hv6.le
  refine Aa.AQ rf rf (Ab.len C9 rf (hv6.mono (((((hl6.trans hl7).trans hl8).trans hl9).trans hl10).trans hl11)).sl) rf<|Aa.AQ rf rf (Ab.BR (b:=decide ((x5.1.length:Int)≠0)) (c:=true) (Ab.neq rf rf) hg6) rf<|Aa.op (Ab.AP rf rf) rf<|Aa.op (Ab.move rf) rf<|Aa.Ak rf rf rf rf<|Aa.Ak rf rf rf rf<|Aa.op (Ab.AU rf rf) rf<|Aa.Ah ?_
  refine Wp.EY rf<|Wp.sr<|Aa.op (Ab.assign rf) rf<|Aa.Ah<|Wp.ret<|At.Au ?_
  obtain rfl:=si hd
  exact At.q1 8 ((((((((((hl1.trans hl2).trans hl3).trans hl4).trans hl5).trans hl6).trans hl7).trans hl8).trans hl9).trans hl10).trans hl11) rf (RV.tmp rf) rf
 obtain⟨hg6_,hd⟩:=bF hg6 hd
 refine Wp.region<|Aa.op (Ab.move rf) rf<|Aa.op (Ab.BR (b:=decide (x2.2≠0)) (c:=false) (Ab.neq rf rf) hg1) rf<|Aa.op (Ab.move rf) rf<|Aa.AQ rf rf (Ab.move rf) rf<|Aa.AQ rf rf (Ab.BR (b:=decide (x4.2≠0)) (c:=false) (Ab.neq rf rf) hg2) rf<|Aa.op (Ab.AP rf rf) rf<|Aa.op (Ab.move rf) rf ?_
 refine Aa.AQ rf rf (Ab.Aw (i:=7) u32 rf A5 rf rf rf) rf<|Aa.AQ rf rf (Ab.Aw (i:=2) u32 rf A5 rf rf rf) rf ?_
 refine Aa.Bk (i:=3) rf fun hb6=>?_
 refine Aa.freeze (i:=3) rf fun H11 hl11 hs6=>?_
 have hv12:=AL.of (c:=(cP cB (cL (cP A0 (cP A0 Ar))))) hs6 rfl ((hq5.mono hl10).mono hl11) hb6
 refine Aa.AQ rf rf (Ab.call Fo rf (BG (a1:=([(false,([(97,98,1)]:List (Int×Int×Int))),(true,([]:List (Int×Int×Int)))]:List (Bool×(List (Int×Int×Int))))) (hf3.mono (((((((((hl2.trans hl3).trans hl4).trans hl5).trans hl6).trans hl7).trans hl8).trans hl9).trans hl10).trans hl11)) hv12 hx7)) rf<|Aa.AQ rf rf (Ab.BR (b:= !x7) (c:=false) (Ab.not rf) hg3) rf<|Aa.op (Ab.AP rf rf) rf<|Aa.op (Ab.move rf) rf<|Aa.AQ rf rf (Ab.Aw (i:=5) u32 rf A5 rf rf rf) rf<|Aa.AQ rf rf (Ab.Aw (i:=2) u32 rf A5 rf rf rf) rf<|Aa.AQ rf rf (Ab.call Fo rf (BG (a1:=([(false,([(97,98,1)]:List (Int×Int×Int))),(true,([]:List (Int×Int×Int)))]:List (Bool×(List (Int×Int×Int))))) (hv4.mono (((((((hl4.trans hl5).trans hl6).trans hl7).trans hl8).trans hl9).trans hl10).trans hl11)) hv12 hx8)) rf<|Aa.AQ rf rf (Ab.BR (b:= !x8) (c:=false) (Ab.not rf) hg4) rf ?_
 refine Aa.op (Ab.AP rf rf) rf<|Aa.op (Ab.move rf) rf<|Aa.AQ rf rf (Ab.move rf) rf<|Aa.AQ rf rf (Ab.BR (b:=decide (x5.2≠0)) (c:=false) (Ab.neq rf rf) hg5) rf<|Aa.op (Ab.AP rf rf) rf<|Aa.op (Ab.move rf) rf<|Aa.AQ rf rf (Ab.A6 (o':=0) BO rf rf) rf<|Aa.AQ rf rf (Ab.Am (i:=4) (v:=v6) C9 rf rf rf rf) rf ?_
 have hb7:=hv6.le
 refine Aa.AQ rf rf (Ab.len C9 rf (hv6.mono (((((hl6.trans hl7).trans hl8).trans hl9).trans hl10).trans hl11)).sl) rf<|Aa.AQ rf rf (Ab.BR (b:=decide ((x5.1.length:Int)≠0)) (c:=false) (Ab.neq rf rf) hg6) rf<|Aa.op (Ab.AP rf rf) rf<|Aa.op (Ab.move rf) rf<|Aa.AQ rf rf (Ab.move rf) rf<|Aa.AQ rf rf (Ab.neq rf rf) rf<|Aa.op (Ab.AP rf rf) rf<|Aa.Ah ?_
 refine Wp.cond rf (fun hb8=>?_) (fun hb8=>?_)
 ·
  obtain⟨hb8,hd⟩:=bT hb8 hd
  refine Wp.sr<|Aa.op (Ab.assign rf) rf<|Aa.Ah<|Wp.ret<|At.Au ?_
  obtain rfl:=si hd
  exact At.q1 8 ((((((((((hl1.trans hl2).trans hl3).trans hl4).trans hl5).trans hl6).trans hl7).trans hl8).trans hl9).trans hl10).trans hl11) rf (RV.tmp rf) rf
 obtain⟨hb8,hd⟩:=bF hb8 hd
 refine Wp.skip<|At.Ae<|Wp.seq ?_
 refine Wp.Bk (i:=1) rf fun hb9=>?_
 refine Wp.freeze (i:=1) rf fun H12 hl12 hs7=>?_
 have hv13:=AL.of (c:=(cP cB (cL (cP A0 (cP A0 Ar))))) hs7 rfl ((hq7.mono hl11).mono hl12) hb9
 obtain⟨x9,hx9,hd⟩:=Ag hd
 obtain⟨x10,hx10,hd⟩:=Ag hd
 rcases Bool.eq_false_or_eq_true (x10)with hg7|hg7
 ·
  replace hd:=Gl hg7 hd
  obtain⟨x11,hx11,hd⟩:=Ag hd
  rcases Bool.eq_false_or_eq_true (decide ((x11.length:Int)=3))with hg8|hg8
  ·
   obtain⟨hg8_,hd⟩:=bT hg8 hd
   obtain⟨x12,hx12,hd⟩:=Ag hd
   rcases Bool.eq_false_or_eq_true (x12)with hg9|hg9
   ·
    replace hd:=Gl hg9 hd
    obtain⟨x13,hx13,hd⟩:=Ag hd
    rcases Bool.eq_false_or_eq_true (!x13)with hg10|hg10
    ·
     replace hd:=Gl hg10 hd
     obtain⟨x14,hx14,hd⟩:=Ag hd
     rcases Bool.eq_false_or_eq_true (!x14)with hg11|hg11
     ·
      replace hd:=Gl hg11 hd
      obtain⟨x15,hx15,hd⟩:=Ag hd
      rcases Bool.eq_false_or_eq_true (x15)with hg12|hg12
      ·
       replace hd:=Gl hg12 hd
       obtain⟨x16,hx16,hd⟩:=Ag hd
       rcases Bool.eq_false_or_eq_true (x16)with hg13|hg13
       ·
        replace hd:=Gl hg13 hd
        obtain⟨x17,hx17,hd⟩:=Ag hd
        refine Af.runK 7 [⟨[],[],[0]⟩,⟨[0],[],[]⟩,⟨[],[],[0]⟩,Ay,⟨[],[],[4]⟩,⟨[],[],[4]⟩,⟨[],[],[4]⟩,Ay,Ay,Ay,⟨[5],[],[]⟩,Ay,Ay,Ay,⟨[5],[],[]⟩,Ay,Ay,Ay,Ay,⟨[5],[],[]⟩,Ay,Ay,Ay,Ay,⟨[1],[],[]⟩,Ay,Ay,Ay,Ay,Ay,Ay,Ay,Ay,⟨[],[],[33]⟩,⟨[],[],[33]⟩,⟨[],[],[33]⟩,Ay,Ay,Ay] follows rfl (by kernel_rfl)<|Af.Mk (val:=fun p2=>(.agg #[(Bl (p2 0) 0)])) (fact:=fun p2 HH=>AL (cP cB (cL (cP A0 (cP A0 Ar)))) HH x9 (Bl (p2 0) 0)) rfl (fun _=>rfl) (fun _=>rfl) (fun _ _ _ hl h=>h.mono hl) (fun _ p2 _ hx hf hy=>(Bc.call Kw rfl (Ft hx9)).mono (by rintro v HH OO ⟨⟨v14,rfl,hv14⟩,rfl⟩;exact⟨rfl,hv14,rfl⟩)) rfl<|Af.op (val:=fun p2=>(.agg #[v13])) rfl rfl (fun _=>rfl) (fun _ p2 _ hx hf hy=>Ab.Aw (i:=0) u32 rfl A5 rfl rfl (hy 0 _ rfl rfl)) rfl<|Af.op (val:=fun p2=>(.bool true)) rfl rfl (fun _=>rfl) (fun _ p2 _ hx hf hy=>Ab.BR (b:=x10) (c:=true) (Ab.call Fo rfl (BG (a1:=([(true,([(0,255,0)]:List (Int×Int×Int)))]:List (Bool×(List (Int×Int×Int))))) (hf 0 rfl rfl) (hv13.mono hx) hx10)) hg7) rfl<|Af.op (val:=fun p2=>(.bool true)) rfl rfl (fun _=>rfl) (fun _ p2 _ hx hf hy=>Ab.move rfl) rfl<|Af.Oo (val:=fun p2=>(.agg #[(Bl (p2 4) 0)])) (fact:=fun p2 HH=>AL (cP cB (cL (cP A0 (cP A0 Ar)))) HH x11 (Bl (p2 4) 0)) rfl (fun _=>rfl) rfl (fun _=>rfl) (fun _=>rfl) (fun _ _ _ hl h=>h.mono hl) (fun _ p2 _ hx hf hy=>(Bc.call LU rfl (E9 hx11)).mono (by rintro v HH OO ⟨⟨v15,rfl,hv15⟩,rfl⟩;exact⟨rfl,hv15,rfl⟩)) rfl<|Af.AQ (val:=fun p2=>(Bl (p2 4) 0)) rfl (fun _=>rfl) rfl rfl (fun _=>rfl) (fun _ p2 _ hx hf hy=>Ab.I9 BO C9 rfl rfl rfl) rfl<|Af.AQ (val:=fun p2=>(.int .i64 (x11.length:Int))) rfl (fun _=>rfl) rfl rfl (fun _=>rfl) (fun _ p2 _ hx hf hy=>Ab.len C9 rfl (hf 4 rfl rfl).sl) rfl ?_
        refine Af.AQ (val:=fun p2=>(.bool true)) rf (fun _=>rfl) rf rf (fun _=>rfl) (fun _ p2 _ hx hf hy=>Ab.BR (b:=decide ((x11.length:Int)=3)) (c:=true) (Ab.eql rf rf) hg8) rf<|Af.op (val:=fun p2=>(.bool true)) rf rf (fun _=>rfl) (fun _ p2 _ hx hf hy=>Ab.AU rf rf) rf<|Af.op (val:=fun p2=>(.bool true)) rf rf (fun _=>rfl) (fun _ p2 _ hx hf hy=>Ab.move rf) rf<|Af.AQ (val:=fun p2=>(.agg #[(Bl (Bl (p1 4) 0) 0)])) rf (fun _=>rfl) rf rf (fun _=>rfl) (fun _ p2 _ hx hf hy=>Ab.Aw (i:=5) u32 rf A5 rf rf (hy 5 _ rf rf)) rf<|Af.AQ (val:=fun p2=>(.bool true)) rf (fun _=>rfl) rf rf (fun _=>rfl) (fun _ p2 _ hx hf hy=>Ab.BR (b:=x12) (c:=true) (Ab.call HL rf (Bf (hf3.mono (((((((((((hl2.trans hl3).trans hl4).trans hl5).trans hl6).trans hl7).trans hl8).trans hl9).trans hl10).trans hl11).trans hl12).trans hx)) hx12)) hg9) rf<|Af.op (val:=fun p2=>(.bool true)) rf rf (fun _=>rfl) (fun _ p2 _ hx hf hy=>Ab.AU rf rf) rf<|Af.op (val:=fun p2=>(.bool true)) rf rf (fun _=>rfl) (fun _ p2 _ hx hf hy=>Ab.move rf) rf<|Af.AQ (val:=fun p2=>(.agg #[(Bl (Bl (p1 4) 0) 0)])) rf (fun _=>rfl) rf rf (fun _=>rfl) (fun _ p2 _ hx hf hy=>Ab.Aw (i:=5) u32 rf A5 rf rf (hy 5 _ rf rf)) rf ?_
        refine Af.AQ (val:=fun p2=>(.bool x13)) rf (fun _=>rfl) rf rf (fun _=>rfl) (fun _ p2 _ hx hf hy=>Ab.call HL rf (Bf (hf3.mono (((((((((((hl2.trans hl3).trans hl4).trans hl5).trans hl6).trans hl7).trans hl8).trans hl9).trans hl10).trans hl11).trans hl12).trans hx)) hx13)) rf<|Af.AQ (val:=fun p2=>(.bool true)) rf (fun _=>rfl) rf rf (fun _=>rfl) (fun _ p2 _ hx hf hy=>Ab.BR (b:= !x13) (c:=true) (Ab.not rf) hg10) rf<|Af.op (val:=fun p2=>(.bool true)) rf rf (fun _=>rfl) (fun _ p2 _ hx hf hy=>Ab.AU rf rf) rf<|Af.op (val:=fun p2=>(.bool true)) rf rf (fun _=>rfl) (fun _ p2 _ hx hf hy=>Ab.move rf) rf<|Af.AQ (val:=fun p2=>(.agg #[(Bl (Bl (p1 4) 0) 0)])) rf (fun _=>rfl) rf rf (fun _=>rfl) (fun _ p2 _ hx hf hy=>Ab.Aw (i:=5) u32 rf A5 rf rf (hy 5 _ rf rf)) rf<|Af.AQ (val:=fun p2=>(.bool x14)) rf (fun _=>rfl) rf rf (fun _=>rfl) (fun _ p2 _ hx hf hy=>Ab.call HL rf (Bf (hf3.mono (((((((((((hl2.trans hl3).trans hl4).trans hl5).trans hl6).trans hl7).trans hl8).trans hl9).trans hl10).trans hl11).trans hl12).trans hx)) hx14)) rf<|Af.AQ (val:=fun p2=>(.bool true)) rf (fun _=>rfl) rf rf (fun _=>rfl) (fun _ p2 _ hx hf hy=>Ab.BR (b:= !x14) (c:=true) (Ab.not rf) hg11) rf<|Af.op (val:=fun p2=>(.bool true)) rf rf (fun _=>rfl) (fun _ p2 _ hx hf hy=>Ab.AU rf rf) rf ?_
        refine Af.op (val:=fun p2=>(.bool true)) rf rf (fun _=>rfl) (fun _ p2 _ hx hf hy=>Ab.move rf) rf<|Af.AQ (val:=fun p2=>(.agg #[v11])) rf (fun _=>rfl) rf rf (fun _=>rfl) (fun _ p2 _ hx hf hy=>Ab.Aw (i:=1) u32 rf A5 rf rf (hy 1 _ rf rf)) rf<|Af.AQ (val:=fun p2=>(.bool true)) rf (fun _=>rfl) rf rf (fun _=>rfl) (fun _ p2 _ hx hf hy=>Ab.BR (b:=x15) (c:=true) (Ab.call Kx rf (DY (a0:=([(false,([(97,98,1)]:List (Int×Int×Int))),(true,([]:List (Int×Int×Int)))]:List (Bool×(List (Int×Int×Int))))) (hv12.mono (hl12.trans hx)) (hG.mono ((((((((((((hl1.trans hl2).trans hl3).trans hl4).trans hl5).trans hl6).trans hl7).trans hl8).trans hl9).trans hl10).trans hl11).trans hl12).trans hx)) hx15)) hg12) rf<|Af.op (val:=fun p2=>(.bool true)) rf rf (fun _=>rfl) (fun _ p2 _ hx hf hy=>Ab.AU rf rf) rf<|Af.op (val:=fun p2=>(.bool true)) rf rf (fun _=>rfl) (fun _ p2 _ hx hf hy=>Ab.move rf) rf<|Af.AQ (val:=fun p2=>(.agg #[(.slice none 0 0)])) rf (fun _=>rfl) rf rf (fun _=>rfl) (fun _ p2 _ hx hf hy=>Ab.Bj (vs:=[]) (cs:= #[(.slice none 0 0)]) HB A5 rf rf (A8) rf) rf<|Af.AQ (val:=fun p2=>(.bool true)) rf (fun _=>rfl) rf rf (fun _=>rfl) (fun _ p2 _ hx hf hy=>Ab.BR (b:=x16) (c:=true) (Ab.call Kx rf (DY (a0:=([]:List (Bool×(List (Int×Int×Int))))) AL.nil (hG.mono ((((((((((((hl1.trans hl2).trans hl3).trans hl4).trans hl5).trans hl6).trans hl7).trans hl8).trans hl9).trans hl10).trans hl11).trans hl12).trans hx)) hx16)) hg13) rf<|Af.op (val:=fun p2=>(.bool true)) rf rf (fun _=>rfl) (fun _ p2 _ hx hf hy=>Ab.AU rf rf) rf ?_
        refine Af.op (val:=fun p2=>(.bool true)) rfl rfl (fun _=>rfl) (fun _ p2 _ hx hf hy=>Ab.move rfl) rfl<|Af.AQ (val:=fun p2=>(.agg #[(.bool false),(.slice none 0 0)])) rfl (fun _=>rfl) rfl rfl (fun _=>rfl) (fun _ p2 _ hx hf hy=>Ab.Bj (vs:=[]) (cs:= #[(.bool false),(.slice none 0 0)]) HV BX rfl rfl (A8) rfl) rfl<|Af.Oo (val:=fun p2=>(p2 33)) (fact:=fun p2 HH=>AL (cP cB (cL (cP A0 (cP A0 Ar)))) HH ([(false,([]:List (Int×Int×Int)))]:List (Bool×(List (Int×Int×Int)))) (p2 33)) rfl (fun _=>rfl) rfl (fun _=>rfl) (fun _=>rfl) (fun _ _ _ hl h=>h.mono hl) (fun _ p2 _ hx hf hy=>(Bc.VI (c:=(cP cB (cL (cP A0 (cP A0 Ar))))) (y:=(false,([]:List (Int×Int×Int)))) (v:=(.agg #[(.bool false),(.slice none 0 0)])) (cs:=[(.bool false),(.slice none 0 0)]) C9 BX rfl rfl rfl rfl rfl (Ap.Iy (c:=(cP cB (cL (cP A0 (cP A0 Ar))))) (a:=(false,([]:List (Int×Int×Int)))) (cs:=[(.bool false),(.slice none 0 0)]) (⟨[(.bool false)],[(.slice none 0 0)],rfl,rfl,⟨_,rfl,AL.nil⟩⟩))).mono (by rintro v HH OO ⟨rfl,h⟩;exact⟨rfl,h,rfl⟩)) rfl<|Af.AQ (val:=fun p2=>(.agg #[(p2 33)])) rfl (fun _=>rfl) rfl rfl (fun _=>rfl) (fun _ p2 _ hx hf hy=>Ab.Bj (vs:=[(0,(p2 33))]) (cs:= #[(p2 33)]) HB A5 rfl rfl (AK (E8 ((hf 33 rfl rfl).one)) (A8)) rfl) rfl<|Af.AQ (val:=fun p2=>(.bool x17)) rfl (fun _=>rfl) rfl rfl (fun _=>rfl) (fun _ p2 _ hx hf hy=>Ab.call Kx rfl (DY (a0:=([(false,([]:List (Int×Int×Int)))]:List (Bool×(List (Int×Int×Int))))) (hf 33 rfl rfl) (hG.mono ((((((((((((hl1.trans hl2).trans hl3).trans hl4).trans hl5).trans hl6).trans hl7).trans hl8).trans hl9).trans hl10).trans hl11).trans hl12).trans hx)) hx17)) rfl<|Af.AQ (val:=fun p2=>(.bool (!x17))) rfl (fun _=>rfl) rfl rfl (fun _=>rfl) (fun _ p2 _ hx hf hy=>Ab.not rfl) rfl<|Af.op (val:=fun p2=>(.bool (!x17))) rfl rfl (fun _=>rfl) (fun _ p2 _ hx hf hy=>Ab.AU rfl rfl) rfl<|Af.op (val:=fun p2=>(.bool (!x17))) rfl rfl (fun _=>rfl) (fun _ p2 _ hx hf hy=>Ab.assign rfl) rfl ?_
        refine Af.done fun H13 p2 hl13 hF2=>?_
        have hf4:AL (cP cB (cL (cP A0 (cP A0 Ar)))) H13 x9 (Bl (p2 0) 0):=hF2 0
        have hf5:AL (cP cB (cL (cP A0 (cP A0 Ar)))) H13 x11 (Bl (p2 4) 0):=hF2 4
        have hf6:AL (cP cB (cL (cP A0 (cP A0 Ar)))) H13 ([(false,([]:List (Int×Int×Int)))]:List (Bool×(List (Int×Int×Int)))) (p2 33):=hF2 33
        refine At.sub (L':=[(0,(.bool (!x17)))]) (Sub.of rf) ?_
        refine At.own (O:= .Az B7 (.cells #[v13] 32 (0,0)):: .Az B6 (.cells #[v11] 32 (0,0)):: .Az B5 (.cells #[v9] 32 (0,0)):: .Az B4 (.cells #[v6] 32 (0,0)):: .Az B3 (.cells #[v4] 32 (0,0)):: .Az (Bh (p1 8)) (.cells #[(Bl (Bl (p1 4) 0) 0)] 32 (0,0)):: .Az B2 (.cells #[(.int .i64 2),(Ad (word (fun _=>false) 0)),(Ad (17179869184#64)),(Ad (word (fun _=>false) 2)),(Ad (word (fun _=>false) 3)),(.slice none 0 0)] 27 (0,0))::O) ?_ (by first|rfl|(simp only[List.length_append,List.length_set];rfl)|simp)
        refine At.Ae<|Wp.ret ?_
        obtain rfl:=si hd
        exact At.q1 7 ((((((((((((hl1.trans hl2).trans hl3).trans hl4).trans hl5).trans hl6).trans hl7).trans hl8).trans hl9).trans hl10).trans hl11).trans hl12).trans hl13) rf (RV.tmp rf) rf
       replace hd:=Gm hg13 hd
       refine Af.runK 7 [⟨[],[],[0]⟩,⟨[0],[],[]⟩,⟨[],[],[0]⟩,Ay,⟨[],[],[4]⟩,⟨[],[],[4]⟩,⟨[],[],[4]⟩,Ay,Ay,Ay,⟨[5],[],[]⟩,Ay,Ay,Ay,⟨[5],[],[]⟩,Ay,Ay,Ay,Ay,⟨[5],[],[]⟩,Ay,Ay,Ay,Ay,⟨[1],[],[]⟩,Ay,Ay,Ay,Ay,Ay,Ay,Ay,Ay,Ay,Ay,Ay,Ay,Ay,Ay] follows rfl (by kernel_rfl)<|Af.Mk (val:=fun p2=>(.agg #[(Bl (p2 0) 0)])) (fact:=fun p2 HH=>AL (cP cB (cL (cP A0 (cP A0 Ar)))) HH x9 (Bl (p2 0) 0)) rfl (fun _=>rfl) (fun _=>rfl) (fun _ _ _ hl h=>h.mono hl) (fun _ p2 _ hx hf hy=>(Bc.call Kw rfl (Ft hx9)).mono (by rintro v HH OO ⟨⟨v14,rfl,hv14⟩,rfl⟩;exact⟨rfl,hv14,rfl⟩)) rfl<|Af.op (val:=fun p2=>(.agg #[v13])) rfl rfl (fun _=>rfl) (fun _ p2 _ hx hf hy=>Ab.Aw (i:=0) u32 rfl A5 rfl rfl (hy 0 _ rfl rfl)) rfl<|Af.op (val:=fun p2=>(.bool true)) rfl rfl (fun _=>rfl) (fun _ p2 _ hx hf hy=>Ab.BR (b:=x10) (c:=true) (Ab.call Fo rfl (BG (a1:=([(true,([(0,255,0)]:List (Int×Int×Int)))]:List (Bool×(List (Int×Int×Int))))) (hf 0 rfl rfl) (hv13.mono hx) hx10)) hg7) rfl<|Af.op (val:=fun p2=>(.bool true)) rfl rfl (fun _=>rfl) (fun _ p2 _ hx hf hy=>Ab.move rfl) rfl<|Af.Oo (val:=fun p2=>(.agg #[(Bl (p2 4) 0)])) (fact:=fun p2 HH=>AL (cP cB (cL (cP A0 (cP A0 Ar)))) HH x11 (Bl (p2 4) 0)) rfl (fun _=>rfl) rfl (fun _=>rfl) (fun _=>rfl) (fun _ _ _ hl h=>h.mono hl) (fun _ p2 _ hx hf hy=>(Bc.call LU rfl (E9 hx11)).mono (by rintro v HH OO ⟨⟨v15,rfl,hv15⟩,rfl⟩;exact⟨rfl,hv15,rfl⟩)) rfl<|Af.AQ (val:=fun p2=>(Bl (p2 4) 0)) rfl (fun _=>rfl) rfl rfl (fun _=>rfl) (fun _ p2 _ hx hf hy=>Ab.I9 BO C9 rfl rfl rfl) rfl<|Af.AQ (val:=fun p2=>(.int .i64 (x11.length:Int))) rfl (fun _=>rfl) rfl rfl (fun _=>rfl) (fun _ p2 _ hx hf hy=>Ab.len C9 rfl (hf 4 rfl rfl).sl) rfl ?_
       refine Af.AQ (val:=fun p2=>(.bool true)) rf (fun _=>rfl) rf rf (fun _=>rfl) (fun _ p2 _ hx hf hy=>Ab.BR (b:=decide ((x11.length:Int)=3)) (c:=true) (Ab.eql rf rf) hg8) rf<|Af.op (val:=fun p2=>(.bool true)) rf rf (fun _=>rfl) (fun _ p2 _ hx hf hy=>Ab.AU rf rf) rf<|Af.op (val:=fun p2=>(.bool true)) rf rf (fun _=>rfl) (fun _ p2 _ hx hf hy=>Ab.move rf) rf<|Af.AQ (val:=fun p2=>(.agg #[(Bl (Bl (p1 4) 0) 0)])) rf (fun _=>rfl) rf rf (fun _=>rfl) (fun _ p2 _ hx hf hy=>Ab.Aw (i:=5) u32 rf A5 rf rf (hy 5 _ rf rf)) rf<|Af.AQ (val:=fun p2=>(.bool true)) rf (fun _=>rfl) rf rf (fun _=>rfl) (fun _ p2 _ hx hf hy=>Ab.BR (b:=x12) (c:=true) (Ab.call HL rf (Bf (hf3.mono (((((((((((hl2.trans hl3).trans hl4).trans hl5).trans hl6).trans hl7).trans hl8).trans hl9).trans hl10).trans hl11).trans hl12).trans hx)) hx12)) hg9) rf<|Af.op (val:=fun p2=>(.bool true)) rf rf (fun _=>rfl) (fun _ p2 _ hx hf hy=>Ab.AU rf rf) rf<|Af.op (val:=fun p2=>(.bool true)) rf rf (fun _=>rfl) (fun _ p2 _ hx hf hy=>Ab.move rf) rf<|Af.AQ (val:=fun p2=>(.agg #[(Bl (Bl (p1 4) 0) 0)])) rf (fun _=>rfl) rf rf (fun _=>rfl) (fun _ p2 _ hx hf hy=>Ab.Aw (i:=5) u32 rf A5 rf rf (hy 5 _ rf rf)) rf ?_
       refine Af.AQ (val:=fun p2=>(.bool x13)) rf (fun _=>rfl) rf rf (fun _=>rfl) (fun _ p2 _ hx hf hy=>Ab.call HL rf (Bf (hf3.mono (((((((((((hl2.trans hl3).trans hl4).trans hl5).trans hl6).trans hl7).trans hl8).trans hl9).trans hl10).trans hl11).trans hl12).trans hx)) hx13)) rf<|Af.AQ (val:=fun p2=>(.bool true)) rf (fun _=>rfl) rf rf (fun _=>rfl) (fun _ p2 _ hx hf hy=>Ab.BR (b:= !x13) (c:=true) (Ab.not rf) hg10) rf<|Af.op (val:=fun p2=>(.bool true)) rf rf (fun _=>rfl) (fun _ p2 _ hx hf hy=>Ab.AU rf rf) rf<|Af.op (val:=fun p2=>(.bool true)) rf rf (fun _=>rfl) (fun _ p2 _ hx hf hy=>Ab.move rf) rf<|Af.AQ (val:=fun p2=>(.agg #[(Bl (Bl (p1 4) 0) 0)])) rf (fun _=>rfl) rf rf (fun _=>rfl) (fun _ p2 _ hx hf hy=>Ab.Aw (i:=5) u32 rf A5 rf rf (hy 5 _ rf rf)) rf<|Af.AQ (val:=fun p2=>(.bool x14)) rf (fun _=>rfl) rf rf (fun _=>rfl) (fun _ p2 _ hx hf hy=>Ab.call HL rf (Bf (hf3.mono (((((((((((hl2.trans hl3).trans hl4).trans hl5).trans hl6).trans hl7).trans hl8).trans hl9).trans hl10).trans hl11).trans hl12).trans hx)) hx14)) rf<|Af.AQ (val:=fun p2=>(.bool true)) rf (fun _=>rfl) rf rf (fun _=>rfl) (fun _ p2 _ hx hf hy=>Ab.BR (b:= !x14) (c:=true) (Ab.not rf) hg11) rf<|Af.op (val:=fun p2=>(.bool true)) rf rf (fun _=>rfl) (fun _ p2 _ hx hf hy=>Ab.AU rf rf) rf ?_
       refine Af.op (val:=fun p2=>(.bool true)) rf rf (fun _=>rfl) (fun _ p2 _ hx hf hy=>Ab.move rf) rf<|Af.AQ (val:=fun p2=>(.agg #[v11])) rf (fun _=>rfl) rf rf (fun _=>rfl) (fun _ p2 _ hx hf hy=>Ab.Aw (i:=1) u32 rf A5 rf rf (hy 1 _ rf rf)) rf<|Af.AQ (val:=fun p2=>(.bool true)) rf (fun _=>rfl) rf rf (fun _=>rfl) (fun _ p2 _ hx hf hy=>Ab.BR (b:=x15) (c:=true) (Ab.call Kx rf (DY (a0:=([(false,([(97,98,1)]:List (Int×Int×Int))),(true,([]:List (Int×Int×Int)))]:List (Bool×(List (Int×Int×Int))))) (hv12.mono (hl12.trans hx)) (hG.mono ((((((((((((hl1.trans hl2).trans hl3).trans hl4).trans hl5).trans hl6).trans hl7).trans hl8).trans hl9).trans hl10).trans hl11).trans hl12).trans hx)) hx15)) hg12) rf<|Af.op (val:=fun p2=>(.bool true)) rf rf (fun _=>rfl) (fun _ p2 _ hx hf hy=>Ab.AU rf rf) rf<|Af.op (val:=fun p2=>(.bool true)) rf rf (fun _=>rfl) (fun _ p2 _ hx hf hy=>Ab.move rf) rf<|Af.AQ (val:=fun p2=>(.agg #[(.slice none 0 0)])) rf (fun _=>rfl) rf rf (fun _=>rfl) (fun _ p2 _ hx hf hy=>Ab.Bj (vs:=[]) (cs:= #[(.slice none 0 0)]) HB A5 rf rf (A8) rf) rf<|Af.AQ (val:=fun p2=>(.bool false)) rf (fun _=>rfl) rf rf (fun _=>rfl) (fun _ p2 _ hx hf hy=>Ab.BR (b:=x16) (c:=false) (Ab.call Kx rf (DY (a0:=([]:List (Bool×(List (Int×Int×Int))))) AL.nil (hG.mono ((((((((((((hl1.trans hl2).trans hl3).trans hl4).trans hl5).trans hl6).trans hl7).trans hl8).trans hl9).trans hl10).trans hl11).trans hl12).trans hx)) hx16)) hg13) rf<|Af.op (val:=fun p2=>(.bool false)) rf rf (fun _=>rfl) (fun _ p2 _ hx hf hy=>Ab.AU rf rf) rf ?_
       refine Af.op (val:=fun p2=>(.bool false)) rfl rfl (fun _=>rfl) (fun _ p2 _ hx hf hy=>Ab.move rfl) rfl<|Af.Ak rfl (fun _=>rfl) rfl rfl (fun _ h=>by first|(cases h;done)|(cases h;decide))<|Af.Ak rfl (fun _=>rfl) rfl rfl (fun _ h=>by first|(cases h;done)|(cases h;decide))<|Af.Ak rfl (fun _=>rfl) rfl rfl (fun _ h=>by first|(cases h;done)|(cases h;decide))<|Af.Ak rfl (fun _=>rfl) rfl rfl (fun _ h=>by first|(cases h;done)|(cases h;decide))<|Af.Ak rfl (fun _=>rfl) rfl rfl (fun _ h=>by first|(cases h;done)|(cases h;decide))<|Af.op (val:=fun p2=>(.bool false)) rfl rfl (fun _=>rfl) (fun _ p2 _ hx hf hy=>Ab.AP rfl rfl) rfl<|Af.op (val:=fun p2=>(.bool false)) rfl rfl (fun _=>rfl) (fun _ p2 _ hx hf hy=>Ab.assign rfl) rfl ?_
       refine Af.done fun H14 p2 hl14 hF3=>?_
       have hf7:AL (cP cB (cL (cP A0 (cP A0 Ar)))) H14 x9 (Bl (p2 0) 0):=hF3 0
       have hf8:AL (cP cB (cL (cP A0 (cP A0 Ar)))) H14 x11 (Bl (p2 4) 0):=hF3 4
       refine At.sub (L':=[(0,(.bool false))]) (Sub.of rf) ?_
       refine At.own (O:= .Az B7 (.cells #[v13] 32 (0,0)):: .Az B6 (.cells #[v11] 32 (0,0)):: .Az B5 (.cells #[v9] 32 (0,0)):: .Az B4 (.cells #[v6] 32 (0,0)):: .Az B3 (.cells #[v4] 32 (0,0)):: .Az (Bh (p1 8)) (.cells #[(Bl (Bl (p1 4) 0) 0)] 32 (0,0)):: .Az B2 (.cells #[(.int .i64 2),(Ad (word (fun _=>false) 0)),(Ad (17179869184#64)),(Ad (word (fun _=>false) 2)),(Ad (word (fun _=>false) 3)),(.slice none 0 0)] 27 (0,0))::O) ?_ (by first|rfl|(simp only[List.length_append,List.length_set];rfl)|simp)
       refine At.Ae<|Wp.ret ?_
       obtain rfl:=si hd
       exact At.q1 7 ((((((((((((hl1.trans hl2).trans hl3).trans hl4).trans hl5).trans hl6).trans hl7).trans hl8).trans hl9).trans hl10).trans hl11).trans hl12).trans hl14) rf (RV.tmp rf) rf
      replace hd:=Gm hg12 hd
      refine Af.runK 7 [⟨[],[],[0]⟩,⟨[0],[],[]⟩,⟨[],[],[0]⟩,Ay,⟨[],[],[4]⟩,⟨[],[],[4]⟩,⟨[],[],[4]⟩,Ay,Ay,Ay,⟨[5],[],[]⟩,Ay,Ay,Ay,⟨[5],[],[]⟩,Ay,Ay,Ay,Ay,⟨[5],[],[]⟩,Ay,Ay,Ay,Ay,⟨[1],[],[]⟩,Ay,Ay,Ay,Ay,Ay,Ay,Ay,Ay,Ay,Ay,Ay,Ay,Ay,Ay] follows rfl (by kernel_rfl)<|Af.Mk (val:=fun p2=>(.agg #[(Bl (p2 0) 0)])) (fact:=fun p2 HH=>AL (cP cB (cL (cP A0 (cP A0 Ar)))) HH x9 (Bl (p2 0) 0)) rfl (fun _=>rfl) (fun _=>rfl) (fun _ _ _ hl h=>h.mono hl) (fun _ p2 _ hx hf hy=>(Bc.call Kw rfl (Ft hx9)).mono (by rintro v HH OO ⟨⟨v14,rfl,hv14⟩,rfl⟩;exact⟨rfl,hv14,rfl⟩)) rfl<|Af.op (val:=fun p2=>(.agg #[v13])) rfl rfl (fun _=>rfl) (fun _ p2 _ hx hf hy=>Ab.Aw (i:=0) u32 rfl A5 rfl rfl (hy 0 _ rfl rfl)) rfl<|Af.op (val:=fun p2=>(.bool true)) rfl rfl (fun _=>rfl) (fun _ p2 _ hx hf hy=>Ab.BR (b:=x10) (c:=true) (Ab.call Fo rfl (BG (a1:=([(true,([(0,255,0)]:List (Int×Int×Int)))]:List (Bool×(List (Int×Int×Int))))) (hf 0 rfl rfl) (hv13.mono hx) hx10)) hg7) rfl<|Af.op (val:=fun p2=>(.bool true)) rfl rfl (fun _=>rfl) (fun _ p2 _ hx hf hy=>Ab.move rfl) rfl<|Af.Oo (val:=fun p2=>(.agg #[(Bl (p2 4) 0)])) (fact:=fun p2 HH=>AL (cP cB (cL (cP A0 (cP A0 Ar)))) HH x11 (Bl (p2 4) 0)) rfl (fun _=>rfl) rfl (fun _=>rfl) (fun _=>rfl) (fun _ _ _ hl h=>h.mono hl) (fun _ p2 _ hx hf hy=>(Bc.call LU rfl (E9 hx11)).mono (by rintro v HH OO ⟨⟨v15,rfl,hv15⟩,rfl⟩;exact⟨rfl,hv15,rfl⟩)) rfl<|Af.AQ (val:=fun p2=>(Bl (p2 4) 0)) rfl (fun _=>rfl) rfl rfl (fun _=>rfl) (fun _ p2 _ hx hf hy=>Ab.I9 BO C9 rfl rfl rfl) rfl<|Af.AQ (val:=fun p2=>(.int .i64 (x11.length:Int))) rfl (fun _=>rfl) rfl rfl (fun _=>rfl) (fun _ p2 _ hx hf hy=>Ab.len C9 rfl (hf 4 rfl rfl).sl) rfl ?_
      refine Af.AQ (val:=fun p2=>(.bool true)) rf (fun _=>rfl) rf rf (fun _=>rfl) (fun _ p2 _ hx hf hy=>Ab.BR (b:=decide ((x11.length:Int)=3)) (c:=true) (Ab.eql rf rf) hg8) rf<|Af.op (val:=fun p2=>(.bool true)) rf rf (fun _=>rfl) (fun _ p2 _ hx hf hy=>Ab.AU rf rf) rf<|Af.op (val:=fun p2=>(.bool true)) rf rf (fun _=>rfl) (fun _ p2 _ hx hf hy=>Ab.move rf) rf<|Af.AQ (val:=fun p2=>(.agg #[(Bl (Bl (p1 4) 0) 0)])) rf (fun _=>rfl) rf rf (fun _=>rfl) (fun _ p2 _ hx hf hy=>Ab.Aw (i:=5) u32 rf A5 rf rf (hy 5 _ rf rf)) rf<|Af.AQ (val:=fun p2=>(.bool true)) rf (fun _=>rfl) rf rf (fun _=>rfl) (fun _ p2 _ hx hf hy=>Ab.BR (b:=x12) (c:=true) (Ab.call HL rf (Bf (hf3.mono (((((((((((hl2.trans hl3).trans hl4).trans hl5).trans hl6).trans hl7).trans hl8).trans hl9).trans hl10).trans hl11).trans hl12).trans hx)) hx12)) hg9) rf<|Af.op (val:=fun p2=>(.bool true)) rf rf (fun _=>rfl) (fun _ p2 _ hx hf hy=>Ab.AU rf rf) rf<|Af.op (val:=fun p2=>(.bool true)) rf rf (fun _=>rfl) (fun _ p2 _ hx hf hy=>Ab.move rf) rf<|Af.AQ (val:=fun p2=>(.agg #[(Bl (Bl (p1 4) 0) 0)])) rf (fun _=>rfl) rf rf (fun _=>rfl) (fun _ p2 _ hx hf hy=>Ab.Aw (i:=5) u32 rf A5 rf rf (hy 5 _ rf rf)) rf ?_
      refine Af.AQ (val:=fun p2=>(.bool x13)) rf (fun _=>rfl) rf rf (fun _=>rfl) (fun _ p2 _ hx hf hy=>Ab.call HL rf (Bf (hf3.mono (((((((((((hl2.trans hl3).trans hl4).trans hl5).trans hl6).trans hl7).trans hl8).trans hl9).trans hl10).trans hl11).trans hl12).trans hx)) hx13)) rf<|Af.AQ (val:=fun p2=>(.bool true)) rf (fun _=>rfl) rf rf (fun _=>rfl) (fun _ p2 _ hx hf hy=>Ab.BR (b:= !x13) (c:=true) (Ab.not rf) hg10) rf<|Af.op (val:=fun p2=>(.bool true)) rf rf (fun _=>rfl) (fun _ p2 _ hx hf hy=>Ab.AU rf rf) rf<|Af.op (val:=fun p2=>(.bool true)) rf rf (fun _=>rfl) (fun _ p2 _ hx hf hy=>Ab.move rf) rf<|Af.AQ (val:=fun p2=>(.agg #[(Bl (Bl (p1 4) 0) 0)])) rf (fun _=>rfl) rf rf (fun _=>rfl) (fun _ p2 _ hx hf hy=>Ab.Aw (i:=5) u32 rf A5 rf rf (hy 5 _ rf rf)) rf<|Af.AQ (val:=fun p2=>(.bool x14)) rf (fun _=>rfl) rf rf (fun _=>rfl) (fun _ p2 _ hx hf hy=>Ab.call HL rf (Bf (hf3.mono (((((((((((hl2.trans hl3).trans hl4).trans hl5).trans hl6).trans hl7).trans hl8).trans hl9).trans hl10).trans hl11).trans hl12).trans hx)) hx14)) rf<|Af.AQ (val:=fun p2=>(.bool true)) rf (fun _=>rfl) rf rf (fun _=>rfl) (fun _ p2 _ hx hf hy=>Ab.BR (b:= !x14) (c:=true) (Ab.not rf) hg11) rf<|Af.op (val:=fun p2=>(.bool true)) rf rf (fun _=>rfl) (fun _ p2 _ hx hf hy=>Ab.AU rf rf) rf ?_
      refine Af.op (val:=fun p2=>(.bool true)) rfl rfl (fun _=>rfl) (fun _ p2 _ hx hf hy=>Ab.move rfl) rfl<|Af.AQ (val:=fun p2=>(.agg #[v11])) rfl (fun _=>rfl) rfl rfl (fun _=>rfl) (fun _ p2 _ hx hf hy=>Ab.Aw (i:=1) u32 rfl A5 rfl rfl (hy 1 _ rfl rfl)) rfl<|Af.AQ (val:=fun p2=>(.bool false)) rfl (fun _=>rfl) rfl rfl (fun _=>rfl) (fun _ p2 _ hx hf hy=>Ab.BR (b:=x15) (c:=false) (Ab.call Kx rfl (DY (a0:=([(false,([(97,98,1)]:List (Int×Int×Int))),(true,([]:List (Int×Int×Int)))]:List (Bool×(List (Int×Int×Int))))) (hv12.mono (hl12.trans hx)) (hG.mono ((((((((((((hl1.trans hl2).trans hl3).trans hl4).trans hl5).trans hl6).trans hl7).trans hl8).trans hl9).trans hl10).trans hl11).trans hl12).trans hx)) hx15)) hg12) rfl<|Af.op (val:=fun p2=>(.bool false)) rfl rfl (fun _=>rfl) (fun _ p2 _ hx hf hy=>Ab.AU rfl rfl) rfl<|Af.op (val:=fun p2=>(.bool false)) rfl rfl (fun _=>rfl) (fun _ p2 _ hx hf hy=>Ab.move rfl) rfl<|Af.Ak rfl (fun _=>rfl) rfl rfl (fun _ h=>by first|(cases h;done)|(cases h;decide))<|Af.Ak rfl (fun _=>rfl) rfl rfl (fun _ h=>by first|(cases h;done)|(cases h;decide))<|Af.op (val:=fun p2=>(.bool false)) rfl rfl (fun _=>rfl) (fun _ p2 _ hx hf hy=>Ab.AP rfl rfl) rfl ?_
      refine Af.op (val:=fun p2=>(.bool false)) rfl rfl (fun _=>rfl) (fun _ p2 _ hx hf hy=>Ab.move rfl) rfl<|Af.Ak rfl (fun _=>rfl) rfl rfl (fun _ h=>by first|(cases h;done)|(cases h;decide))<|Af.Ak rfl (fun _=>rfl) rfl rfl (fun _ h=>by first|(cases h;done)|(cases h;decide))<|Af.Ak rfl (fun _=>rfl) rfl rfl (fun _ h=>by first|(cases h;done)|(cases h;decide))<|Af.Ak rfl (fun _=>rfl) rfl rfl (fun _ h=>by first|(cases h;done)|(cases h;decide))<|Af.Ak rfl (fun _=>rfl) rfl rfl (fun _ h=>by first|(cases h;done)|(cases h;decide))<|Af.op (val:=fun p2=>(.bool false)) rfl rfl (fun _=>rfl) (fun _ p2 _ hx hf hy=>Ab.AP rfl rfl) rfl<|Af.op (val:=fun p2=>(.bool false)) rfl rfl (fun _=>rfl) (fun _ p2 _ hx hf hy=>Ab.assign rfl) rfl ?_
      refine Af.done fun H15 p2 hl15 hF4=>?_
      have hf9:AL (cP cB (cL (cP A0 (cP A0 Ar)))) H15 x9 (Bl (p2 0) 0):=hF4 0
      have hf10:AL (cP cB (cL (cP A0 (cP A0 Ar)))) H15 x11 (Bl (p2 4) 0):=hF4 4
      refine At.sub (L':=[(0,(.bool false))]) (Sub.of rf) ?_
      refine At.own (O:= .Az B7 (.cells #[v13] 32 (0,0)):: .Az B6 (.cells #[v11] 32 (0,0)):: .Az B5 (.cells #[v9] 32 (0,0)):: .Az B4 (.cells #[v6] 32 (0,0)):: .Az B3 (.cells #[v4] 32 (0,0)):: .Az (Bh (p1 8)) (.cells #[(Bl (Bl (p1 4) 0) 0)] 32 (0,0)):: .Az B2 (.cells #[(.int .i64 2),(Ad (word (fun _=>false) 0)),(Ad (17179869184#64)),(Ad (word (fun _=>false) 2)),(Ad (word (fun _=>false) 3)),(.slice none 0 0)] 27 (0,0))::O) ?_ (by first|rfl|(simp only[List.length_append,List.length_set];rfl)|simp)
      refine At.Ae<|Wp.ret ?_
      obtain rfl:=si hd
      exact At.q1 7 ((((((((((((hl1.trans hl2).trans hl3).trans hl4).trans hl5).trans hl6).trans hl7).trans hl8).trans hl9).trans hl10).trans hl11).trans hl12).trans hl15) rf (RV.tmp rf) rf
     replace hd:=Gm hg11 hd
     refine Af.runK 7 [⟨[],[],[0]⟩,⟨[0],[],[]⟩,⟨[],[],[0]⟩,Ay,⟨[],[],[4]⟩,⟨[],[],[4]⟩,⟨[],[],[4]⟩,Ay,Ay,Ay,⟨[5],[],[]⟩,Ay,Ay,Ay,⟨[5],[],[]⟩,Ay,Ay,Ay,Ay,⟨[5],[],[]⟩,Ay,Ay,Ay,Ay,Ay,Ay,Ay,Ay,Ay,Ay,Ay,Ay,Ay,Ay,Ay,Ay,Ay,Ay,Ay] follows rfl (by kernel_rfl)<|Af.Mk (val:=fun p2=>(.agg #[(Bl (p2 0) 0)])) (fact:=fun p2 HH=>AL (cP cB (cL (cP A0 (cP A0 Ar)))) HH x9 (Bl (p2 0) 0)) rfl (fun _=>rfl) (fun _=>rfl) (fun _ _ _ hl h=>h.mono hl) (fun _ p2 _ hx hf hy=>(Bc.call Kw rfl (Ft hx9)).mono (by rintro v HH OO ⟨⟨v14,rfl,hv14⟩,rfl⟩;exact⟨rfl,hv14,rfl⟩)) rfl<|Af.op (val:=fun p2=>(.agg #[v13])) rfl rfl (fun _=>rfl) (fun _ p2 _ hx hf hy=>Ab.Aw (i:=0) u32 rfl A5 rfl rfl (hy 0 _ rfl rfl)) rfl<|Af.op (val:=fun p2=>(.bool true)) rfl rfl (fun _=>rfl) (fun _ p2 _ hx hf hy=>Ab.BR (b:=x10) (c:=true) (Ab.call Fo rfl (BG (a1:=([(true,([(0,255,0)]:List (Int×Int×Int)))]:List (Bool×(List (Int×Int×Int))))) (hf 0 rfl rfl) (hv13.mono hx) hx10)) hg7) rfl<|Af.op (val:=fun p2=>(.bool true)) rfl rfl (fun _=>rfl) (fun _ p2 _ hx hf hy=>Ab.move rfl) rfl<|Af.Oo (val:=fun p2=>(.agg #[(Bl (p2 4) 0)])) (fact:=fun p2 HH=>AL (cP cB (cL (cP A0 (cP A0 Ar)))) HH x11 (Bl (p2 4) 0)) rfl (fun _=>rfl) rfl (fun _=>rfl) (fun _=>rfl) (fun _ _ _ hl h=>h.mono hl) (fun _ p2 _ hx hf hy=>(Bc.call LU rfl (E9 hx11)).mono (by rintro v HH OO ⟨⟨v15,rfl,hv15⟩,rfl⟩;exact⟨rfl,hv15,rfl⟩)) rfl<|Af.AQ (val:=fun p2=>(Bl (p2 4) 0)) rfl (fun _=>rfl) rfl rfl (fun _=>rfl) (fun _ p2 _ hx hf hy=>Ab.I9 BO C9 rfl rfl rfl) rfl<|Af.AQ (val:=fun p2=>(.int .i64 (x11.length:Int))) rfl (fun _=>rfl) rfl rfl (fun _=>rfl) (fun _ p2 _ hx hf hy=>Ab.len C9 rfl (hf 4 rfl rfl).sl) rfl ?_
     refine Af.AQ (val:=fun p2=>(.bool true)) rf (fun _=>rfl) rf rf (fun _=>rfl) (fun _ p2 _ hx hf hy=>Ab.BR (b:=decide ((x11.length:Int)=3)) (c:=true) (Ab.eql rf rf) hg8) rf<|Af.op (val:=fun p2=>(.bool true)) rf rf (fun _=>rfl) (fun _ p2 _ hx hf hy=>Ab.AU rf rf) rf<|Af.op (val:=fun p2=>(.bool true)) rf rf (fun _=>rfl) (fun _ p2 _ hx hf hy=>Ab.move rf) rf<|Af.AQ (val:=fun p2=>(.agg #[(Bl (Bl (p1 4) 0) 0)])) rf (fun _=>rfl) rf rf (fun _=>rfl) (fun _ p2 _ hx hf hy=>Ab.Aw (i:=5) u32 rf A5 rf rf (hy 5 _ rf rf)) rf<|Af.AQ (val:=fun p2=>(.bool true)) rf (fun _=>rfl) rf rf (fun _=>rfl) (fun _ p2 _ hx hf hy=>Ab.BR (b:=x12) (c:=true) (Ab.call HL rf (Bf (hf3.mono (((((((((((hl2.trans hl3).trans hl4).trans hl5).trans hl6).trans hl7).trans hl8).trans hl9).trans hl10).trans hl11).trans hl12).trans hx)) hx12)) hg9) rf<|Af.op (val:=fun p2=>(.bool true)) rf rf (fun _=>rfl) (fun _ p2 _ hx hf hy=>Ab.AU rf rf) rf<|Af.op (val:=fun p2=>(.bool true)) rf rf (fun _=>rfl) (fun _ p2 _ hx hf hy=>Ab.move rf) rf<|Af.AQ (val:=fun p2=>(.agg #[(Bl (Bl (p1 4) 0) 0)])) rf (fun _=>rfl) rf rf (fun _=>rfl) (fun _ p2 _ hx hf hy=>Ab.Aw (i:=5) u32 rf A5 rf rf (hy 5 _ rf rf)) rf ?_
     refine Af.AQ (val:=fun p2=>(.bool x13)) rf (fun _=>rfl) rf rf (fun _=>rfl) (fun _ p2 _ hx hf hy=>Ab.call HL rf (Bf (hf3.mono (((((((((((hl2.trans hl3).trans hl4).trans hl5).trans hl6).trans hl7).trans hl8).trans hl9).trans hl10).trans hl11).trans hl12).trans hx)) hx13)) rf<|Af.AQ (val:=fun p2=>(.bool true)) rf (fun _=>rfl) rf rf (fun _=>rfl) (fun _ p2 _ hx hf hy=>Ab.BR (b:= !x13) (c:=true) (Ab.not rf) hg10) rf<|Af.op (val:=fun p2=>(.bool true)) rf rf (fun _=>rfl) (fun _ p2 _ hx hf hy=>Ab.AU rf rf) rf<|Af.op (val:=fun p2=>(.bool true)) rf rf (fun _=>rfl) (fun _ p2 _ hx hf hy=>Ab.move rf) rf<|Af.AQ (val:=fun p2=>(.agg #[(Bl (Bl (p1 4) 0) 0)])) rf (fun _=>rfl) rf rf (fun _=>rfl) (fun _ p2 _ hx hf hy=>Ab.Aw (i:=5) u32 rf A5 rf rf (hy 5 _ rf rf)) rf<|Af.AQ (val:=fun p2=>(.bool x14)) rf (fun _=>rfl) rf rf (fun _=>rfl) (fun _ p2 _ hx hf hy=>Ab.call HL rf (Bf (hf3.mono (((((((((((hl2.trans hl3).trans hl4).trans hl5).trans hl6).trans hl7).trans hl8).trans hl9).trans hl10).trans hl11).trans hl12).trans hx)) hx14)) rf<|Af.AQ (val:=fun p2=>(.bool false)) rf (fun _=>rfl) rf rf (fun _=>rfl) (fun _ p2 _ hx hf hy=>Ab.BR (b:= !x14) (c:=false) (Ab.not rf) hg11) rf<|Af.op (val:=fun p2=>(.bool false)) rf rf (fun _=>rfl) (fun _ p2 _ hx hf hy=>Ab.AU rf rf) rf ?_
     refine Af.op (val:=fun p2=>(.bool false)) rfl rfl (fun _=>rfl) (fun _ p2 _ hx hf hy=>Ab.move rfl) rfl<|Af.Ak rfl (fun _=>rfl) rfl rfl (fun _ h=>by first|(cases h;done)|(cases h;decide))<|Af.Ak rfl (fun _=>rfl) rfl rfl (fun _ h=>by first|(cases h;done)|(cases h;decide))<|Af.op (val:=fun p2=>(.bool false)) rfl rfl (fun _=>rfl) (fun _ p2 _ hx hf hy=>Ab.AP rfl rfl) rfl<|Af.op (val:=fun p2=>(.bool false)) rfl rfl (fun _=>rfl) (fun _ p2 _ hx hf hy=>Ab.move rfl) rfl<|Af.Ak rfl (fun _=>rfl) rfl rfl (fun _ h=>by first|(cases h;done)|(cases h;decide))<|Af.Ak rfl (fun _=>rfl) rfl rfl (fun _ h=>by first|(cases h;done)|(cases h;decide))<|Af.op (val:=fun p2=>(.bool false)) rfl rfl (fun _=>rfl) (fun _ p2 _ hx hf hy=>Ab.AP rfl rfl) rfl ?_
     refine Af.op (val:=fun p2=>(.bool false)) rfl rfl (fun _=>rfl) (fun _ p2 _ hx hf hy=>Ab.move rfl) rfl<|Af.Ak rfl (fun _=>rfl) rfl rfl (fun _ h=>by first|(cases h;done)|(cases h;decide))<|Af.Ak rfl (fun _=>rfl) rfl rfl (fun _ h=>by first|(cases h;done)|(cases h;decide))<|Af.Ak rfl (fun _=>rfl) rfl rfl (fun _ h=>by first|(cases h;done)|(cases h;decide))<|Af.Ak rfl (fun _=>rfl) rfl rfl (fun _ h=>by first|(cases h;done)|(cases h;decide))<|Af.Ak rfl (fun _=>rfl) rfl rfl (fun _ h=>by first|(cases h;done)|(cases h;decide))<|Af.op (val:=fun p2=>(.bool false)) rfl rfl (fun _=>rfl) (fun _ p2 _ hx hf hy=>Ab.AP rfl rfl) rfl<|Af.op (val:=fun p2=>(.bool false)) rfl rfl (fun _=>rfl) (fun _ p2 _ hx hf hy=>Ab.assign rfl) rfl ?_
     refine Af.done fun H16 p2 hl16 hF5=>?_
     have hf11:AL (cP cB (cL (cP A0 (cP A0 Ar)))) H16 x9 (Bl (p2 0) 0):=hF5 0
     have hf12:AL (cP cB (cL (cP A0 (cP A0 Ar)))) H16 x11 (Bl (p2 4) 0):=hF5 4
     refine At.sub (L':=[(0,(.bool false))]) (Sub.of rf) ?_
     refine At.own (O:= .Az B7 (.cells #[v13] 32 (0,0)):: .Az B6 (.cells #[v11] 32 (0,0)):: .Az B5 (.cells #[v9] 32 (0,0)):: .Az B4 (.cells #[v6] 32 (0,0)):: .Az B3 (.cells #[v4] 32 (0,0)):: .Az (Bh (p1 8)) (.cells #[(Bl (Bl (p1 4) 0) 0)] 32 (0,0)):: .Az B2 (.cells #[(.int .i64 2),(Ad (word (fun _=>false) 0)),(Ad (17179869184#64)),(Ad (word (fun _=>false) 2)),(Ad (word (fun _=>false) 3)),(.slice none 0 0)] 27 (0,0))::O) ?_ (by first|rfl|(simp only[List.length_append,List.length_set];rfl)|simp)
     refine At.Ae<|Wp.ret ?_
     obtain rfl:=si hd
     exact At.q1 7 ((((((((((((hl1.trans hl2).trans hl3).trans hl4).trans hl5).trans hl6).trans hl7).trans hl8).trans hl9).trans hl10).trans hl11).trans hl12).trans hl16) rf (RV.tmp rf) rf
    replace hd:=Gm hg10 hd
    refine Af.runK 7 [⟨[],[],[0]⟩,⟨[0],[],[]⟩,⟨[],[],[0]⟩,Ay,⟨[],[],[4]⟩,⟨[],[],[4]⟩,⟨[],[],[4]⟩,Ay,Ay,Ay,⟨[5],[],[]⟩,Ay,Ay,Ay,⟨[5],[],[]⟩,Ay,Ay,Ay,Ay,Ay,Ay,Ay,Ay,Ay,Ay,Ay,Ay,Ay,Ay,Ay,Ay,Ay,Ay,Ay,Ay,Ay,Ay,Ay,Ay] follows rfl (by kernel_rfl)<|Af.Mk (val:=fun p2=>(.agg #[(Bl (p2 0) 0)])) (fact:=fun p2 HH=>AL (cP cB (cL (cP A0 (cP A0 Ar)))) HH x9 (Bl (p2 0) 0)) rfl (fun _=>rfl) (fun _=>rfl) (fun _ _ _ hl h=>h.mono hl) (fun _ p2 _ hx hf hy=>(Bc.call Kw rfl (Ft hx9)).mono (by rintro v HH OO ⟨⟨v14,rfl,hv14⟩,rfl⟩;exact⟨rfl,hv14,rfl⟩)) rfl<|Af.op (val:=fun p2=>(.agg #[v13])) rfl rfl (fun _=>rfl) (fun _ p2 _ hx hf hy=>Ab.Aw (i:=0) u32 rfl A5 rfl rfl (hy 0 _ rfl rfl)) rfl<|Af.op (val:=fun p2=>(.bool true)) rfl rfl (fun _=>rfl) (fun _ p2 _ hx hf hy=>Ab.BR (b:=x10) (c:=true) (Ab.call Fo rfl (BG (a1:=([(true,([(0,255,0)]:List (Int×Int×Int)))]:List (Bool×(List (Int×Int×Int))))) (hf 0 rfl rfl) (hv13.mono hx) hx10)) hg7) rfl<|Af.op (val:=fun p2=>(.bool true)) rfl rfl (fun _=>rfl) (fun _ p2 _ hx hf hy=>Ab.move rfl) rfl<|Af.Oo (val:=fun p2=>(.agg #[(Bl (p2 4) 0)])) (fact:=fun p2 HH=>AL (cP cB (cL (cP A0 (cP A0 Ar)))) HH x11 (Bl (p2 4) 0)) rfl (fun _=>rfl) rfl (fun _=>rfl) (fun _=>rfl) (fun _ _ _ hl h=>h.mono hl) (fun _ p2 _ hx hf hy=>(Bc.call LU rfl (E9 hx11)).mono (by rintro v HH OO ⟨⟨v15,rfl,hv15⟩,rfl⟩;exact⟨rfl,hv15,rfl⟩)) rfl<|Af.AQ (val:=fun p2=>(Bl (p2 4) 0)) rfl (fun _=>rfl) rfl rfl (fun _=>rfl) (fun _ p2 _ hx hf hy=>Ab.I9 BO C9 rfl rfl rfl) rfl<|Af.AQ (val:=fun p2=>(.int .i64 (x11.length:Int))) rfl (fun _=>rfl) rfl rfl (fun _=>rfl) (fun _ p2 _ hx hf hy=>Ab.len C9 rfl (hf 4 rfl rfl).sl) rfl ?_
    refine Af.AQ (val:=fun p2=>(.bool true)) rf (fun _=>rfl) rf rf (fun _=>rfl) (fun _ p2 _ hx hf hy=>Ab.BR (b:=decide ((x11.length:Int)=3)) (c:=true) (Ab.eql rf rf) hg8) rf<|Af.op (val:=fun p2=>(.bool true)) rf rf (fun _=>rfl) (fun _ p2 _ hx hf hy=>Ab.AU rf rf) rf<|Af.op (val:=fun p2=>(.bool true)) rf rf (fun _=>rfl) (fun _ p2 _ hx hf hy=>Ab.move rf) rf<|Af.AQ (val:=fun p2=>(.agg #[(Bl (Bl (p1 4) 0) 0)])) rf (fun _=>rfl) rf rf (fun _=>rfl) (fun _ p2 _ hx hf hy=>Ab.Aw (i:=5) u32 rf A5 rf rf (hy 5 _ rf rf)) rf<|Af.AQ (val:=fun p2=>(.bool true)) rf (fun _=>rfl) rf rf (fun _=>rfl) (fun _ p2 _ hx hf hy=>Ab.BR (b:=x12) (c:=true) (Ab.call HL rf (Bf (hf3.mono (((((((((((hl2.trans hl3).trans hl4).trans hl5).trans hl6).trans hl7).trans hl8).trans hl9).trans hl10).trans hl11).trans hl12).trans hx)) hx12)) hg9) rf<|Af.op (val:=fun p2=>(.bool true)) rf rf (fun _=>rfl) (fun _ p2 _ hx hf hy=>Ab.AU rf rf) rf<|Af.op (val:=fun p2=>(.bool true)) rf rf (fun _=>rfl) (fun _ p2 _ hx hf hy=>Ab.move rf) rf<|Af.AQ (val:=fun p2=>(.agg #[(Bl (Bl (p1 4) 0) 0)])) rf (fun _=>rfl) rf rf (fun _=>rfl) (fun _ p2 _ hx hf hy=>Ab.Aw (i:=5) u32 rf A5 rf rf (hy 5 _ rf rf)) rf ?_
    refine Af.AQ (val:=fun p2=>(.bool x13)) rfl (fun _=>rfl) rfl rfl (fun _=>rfl) (fun _ p2 _ hx hf hy=>Ab.call HL rfl (Bf (hf3.mono (((((((((((hl2.trans hl3).trans hl4).trans hl5).trans hl6).trans hl7).trans hl8).trans hl9).trans hl10).trans hl11).trans hl12).trans hx)) hx13)) rfl<|Af.AQ (val:=fun p2=>(.bool false)) rfl (fun _=>rfl) rfl rfl (fun _=>rfl) (fun _ p2 _ hx hf hy=>Ab.BR (b:= !x13) (c:=false) (Ab.not rfl) hg10) rfl<|Af.op (val:=fun p2=>(.bool false)) rfl rfl (fun _=>rfl) (fun _ p2 _ hx hf hy=>Ab.AU rfl rfl) rfl<|Af.op (val:=fun p2=>(.bool false)) rfl rfl (fun _=>rfl) (fun _ p2 _ hx hf hy=>Ab.move rfl) rfl<|Af.Ak rfl (fun _=>rfl) rfl rfl (fun _ h=>by first|(cases h;done)|(cases h;decide))<|Af.Ak rfl (fun _=>rfl) rfl rfl (fun _ h=>by first|(cases h;done)|(cases h;decide))<|Af.Ak rfl (fun _=>rfl) rfl rfl (fun _ h=>by first|(cases h;done)|(cases h;decide))<|Af.op (val:=fun p2=>(.bool false)) rfl rfl (fun _=>rfl) (fun _ p2 _ hx hf hy=>Ab.AP rfl rfl) rfl ?_
    refine Af.op (val:=fun p2=>(.bool false)) rfl rfl (fun _=>rfl) (fun _ p2 _ hx hf hy=>Ab.move rfl) rfl<|Af.Ak rfl (fun _=>rfl) rfl rfl (fun _ h=>by first|(cases h;done)|(cases h;decide))<|Af.Ak rfl (fun _=>rfl) rfl rfl (fun _ h=>by first|(cases h;done)|(cases h;decide))<|Af.op (val:=fun p2=>(.bool false)) rfl rfl (fun _=>rfl) (fun _ p2 _ hx hf hy=>Ab.AP rfl rfl) rfl<|Af.op (val:=fun p2=>(.bool false)) rfl rfl (fun _=>rfl) (fun _ p2 _ hx hf hy=>Ab.move rfl) rfl<|Af.Ak rfl (fun _=>rfl) rfl rfl (fun _ h=>by first|(cases h;done)|(cases h;decide))<|Af.Ak rfl (fun _=>rfl) rfl rfl (fun _ h=>by first|(cases h;done)|(cases h;decide))<|Af.op (val:=fun p2=>(.bool false)) rfl rfl (fun _=>rfl) (fun _ p2 _ hx hf hy=>Ab.AP rfl rfl) rfl ?_
    refine Af.op (val:=fun p2=>(.bool false)) rfl rfl (fun _=>rfl) (fun _ p2 _ hx hf hy=>Ab.move rfl) rfl<|Af.Ak rfl (fun _=>rfl) rfl rfl (fun _ h=>by first|(cases h;done)|(cases h;decide))<|Af.Ak rfl (fun _=>rfl) rfl rfl (fun _ h=>by first|(cases h;done)|(cases h;decide))<|Af.Ak rfl (fun _=>rfl) rfl rfl (fun _ h=>by first|(cases h;done)|(cases h;decide))<|Af.Ak rfl (fun _=>rfl) rfl rfl (fun _ h=>by first|(cases h;done)|(cases h;decide))<|Af.Ak rfl (fun _=>rfl) rfl rfl (fun _ h=>by first|(cases h;done)|(cases h;decide))<|Af.op (val:=fun p2=>(.bool false)) rfl rfl (fun _=>rfl) (fun _ p2 _ hx hf hy=>Ab.AP rfl rfl) rfl<|Af.op (val:=fun p2=>(.bool false)) rfl rfl (fun _=>rfl) (fun _ p2 _ hx hf hy=>Ab.assign rfl) rfl ?_
    refine Af.done fun H17 p2 hl17 hF6=>?_
    have hf13:AL (cP cB (cL (cP A0 (cP A0 Ar)))) H17 x9 (Bl (p2 0) 0):=hF6 0
    have hf14:AL (cP cB (cL (cP A0 (cP A0 Ar)))) H17 x11 (Bl (p2 4) 0):=hF6 4
    refine At.sub (L':=[(0,(.bool false))]) (Sub.of rf) ?_
    refine At.own (O:= .Az B7 (.cells #[v13] 32 (0,0)):: .Az B6 (.cells #[v11] 32 (0,0)):: .Az B5 (.cells #[v9] 32 (0,0)):: .Az B4 (.cells #[v6] 32 (0,0)):: .Az B3 (.cells #[v4] 32 (0,0)):: .Az (Bh (p1 8)) (.cells #[(Bl (Bl (p1 4) 0) 0)] 32 (0,0)):: .Az B2 (.cells #[(.int .i64 2),(Ad (word (fun _=>false) 0)),(Ad (17179869184#64)),(Ad (word (fun _=>false) 2)),(Ad (word (fun _=>false) 3)),(.slice none 0 0)] 27 (0,0))::O) ?_ (by first|rfl|(simp only[List.length_append,List.length_set];rfl)|simp)
    refine At.Ae<|Wp.ret ?_
    obtain rfl:=si hd
    exact At.q1 7 ((((((((((((hl1.trans hl2).trans hl3).trans hl4).trans hl5).trans hl6).trans hl7).trans hl8).trans hl9).trans hl10).trans hl11).trans hl12).trans hl17) rf (RV.tmp rf) rf
   replace hd:=Gm hg9 hd
   refine Af.runK 7 [⟨[],[],[0]⟩,⟨[0],[],[]⟩,⟨[],[],[0]⟩,Ay,⟨[],[],[4]⟩,⟨[],[],[4]⟩,⟨[],[],[4]⟩,Ay,Ay,Ay,⟨[5],[],[]⟩,Ay,Ay,Ay,Ay,Ay,Ay,Ay,Ay,Ay,Ay,Ay,Ay,Ay,Ay,Ay,Ay,Ay,Ay,Ay,Ay,Ay,Ay,Ay,Ay,Ay,Ay,Ay,Ay] follows rfl (by kernel_rfl)<|Af.Mk (val:=fun p2=>(.agg #[(Bl (p2 0) 0)])) (fact:=fun p2 HH=>AL (cP cB (cL (cP A0 (cP A0 Ar)))) HH x9 (Bl (p2 0) 0)) rfl (fun _=>rfl) (fun _=>rfl) (fun _ _ _ hl h=>h.mono hl) (fun _ p2 _ hx hf hy=>(Bc.call Kw rfl (Ft hx9)).mono (by rintro v HH OO ⟨⟨v14,rfl,hv14⟩,rfl⟩;exact⟨rfl,hv14,rfl⟩)) rfl<|Af.op (val:=fun p2=>(.agg #[v13])) rfl rfl (fun _=>rfl) (fun _ p2 _ hx hf hy=>Ab.Aw (i:=0) u32 rfl A5 rfl rfl (hy 0 _ rfl rfl)) rfl<|Af.op (val:=fun p2=>(.bool true)) rfl rfl (fun _=>rfl) (fun _ p2 _ hx hf hy=>Ab.BR (b:=x10) (c:=true) (Ab.call Fo rfl (BG (a1:=([(true,([(0,255,0)]:List (Int×Int×Int)))]:List (Bool×(List (Int×Int×Int))))) (hf 0 rfl rfl) (hv13.mono hx) hx10)) hg7) rfl<|Af.op (val:=fun p2=>(.bool true)) rfl rfl (fun _=>rfl) (fun _ p2 _ hx hf hy=>Ab.move rfl) rfl<|Af.Oo (val:=fun p2=>(.agg #[(Bl (p2 4) 0)])) (fact:=fun p2 HH=>AL (cP cB (cL (cP A0 (cP A0 Ar)))) HH x11 (Bl (p2 4) 0)) rfl (fun _=>rfl) rfl (fun _=>rfl) (fun _=>rfl) (fun _ _ _ hl h=>h.mono hl) (fun _ p2 _ hx hf hy=>(Bc.call LU rfl (E9 hx11)).mono (by rintro v HH OO ⟨⟨v15,rfl,hv15⟩,rfl⟩;exact⟨rfl,hv15,rfl⟩)) rfl<|Af.AQ (val:=fun p2=>(Bl (p2 4) 0)) rfl (fun _=>rfl) rfl rfl (fun _=>rfl) (fun _ p2 _ hx hf hy=>Ab.I9 BO C9 rfl rfl rfl) rfl<|Af.AQ (val:=fun p2=>(.int .i64 (x11.length:Int))) rfl (fun _=>rfl) rfl rfl (fun _=>rfl) (fun _ p2 _ hx hf hy=>Ab.len C9 rfl (hf 4 rfl rfl).sl) rfl ?_
   refine Af.AQ (val:=fun p2=>(.bool true)) rfl (fun _=>rfl) rfl rfl (fun _=>rfl) (fun _ p2 _ hx hf hy=>Ab.BR (b:=decide ((x11.length:Int)=3)) (c:=true) (Ab.eql rfl rfl) hg8) rfl<|Af.op (val:=fun p2=>(.bool true)) rfl rfl (fun _=>rfl) (fun _ p2 _ hx hf hy=>Ab.AU rfl rfl) rfl<|Af.op (val:=fun p2=>(.bool true)) rfl rfl (fun _=>rfl) (fun _ p2 _ hx hf hy=>Ab.move rfl) rfl<|Af.AQ (val:=fun p2=>(.agg #[(Bl (Bl (p1 4) 0) 0)])) rfl (fun _=>rfl) rfl rfl (fun _=>rfl) (fun _ p2 _ hx hf hy=>Ab.Aw (i:=5) u32 rfl A5 rfl rfl (hy 5 _ rfl rfl)) rfl<|Af.AQ (val:=fun p2=>(.bool false)) rfl (fun _=>rfl) rfl rfl (fun _=>rfl) (fun _ p2 _ hx hf hy=>Ab.BR (b:=x12) (c:=false) (Ab.call HL rfl (Bf (hf3.mono (((((((((((hl2.trans hl3).trans hl4).trans hl5).trans hl6).trans hl7).trans hl8).trans hl9).trans hl10).trans hl11).trans hl12).trans hx)) hx12)) hg9) rfl<|Af.op (val:=fun p2=>(.bool false)) rfl rfl (fun _=>rfl) (fun _ p2 _ hx hf hy=>Ab.AU rfl rfl) rfl<|Af.op (val:=fun p2=>(.bool false)) rfl rfl (fun _=>rfl) (fun _ p2 _ hx hf hy=>Ab.move rfl) rfl<|Af.Ak rfl (fun _=>rfl) rfl rfl (fun _ h=>by first|(cases h;done)|(cases h;decide)) ?_
   refine Af.Ak rfl (fun _=>rfl) rfl rfl (fun _ h=>by first|(cases h;done)|(cases h;decide))<|Af.Ak rfl (fun _=>rfl) rfl rfl (fun _ h=>by first|(cases h;done)|(cases h;decide))<|Af.op (val:=fun p2=>(.bool false)) rfl rfl (fun _=>rfl) (fun _ p2 _ hx hf hy=>Ab.AP rfl rfl) rfl<|Af.op (val:=fun p2=>(.bool false)) rfl rfl (fun _=>rfl) (fun _ p2 _ hx hf hy=>Ab.move rfl) rfl<|Af.Ak rfl (fun _=>rfl) rfl rfl (fun _ h=>by first|(cases h;done)|(cases h;decide))<|Af.Ak rfl (fun _=>rfl) rfl rfl (fun _ h=>by first|(cases h;done)|(cases h;decide))<|Af.Ak rfl (fun _=>rfl) rfl rfl (fun _ h=>by first|(cases h;done)|(cases h;decide))<|Af.op (val:=fun p2=>(.bool false)) rfl rfl (fun _=>rfl) (fun _ p2 _ hx hf hy=>Ab.AP rfl rfl) rfl ?_
   refine Af.op (val:=fun p2=>(.bool false)) rfl rfl (fun _=>rfl) (fun _ p2 _ hx hf hy=>Ab.move rfl) rfl<|Af.Ak rfl (fun _=>rfl) rfl rfl (fun _ h=>by first|(cases h;done)|(cases h;decide))<|Af.Ak rfl (fun _=>rfl) rfl rfl (fun _ h=>by first|(cases h;done)|(cases h;decide))<|Af.op (val:=fun p2=>(.bool false)) rfl rfl (fun _=>rfl) (fun _ p2 _ hx hf hy=>Ab.AP rfl rfl) rfl<|Af.op (val:=fun p2=>(.bool false)) rfl rfl (fun _=>rfl) (fun _ p2 _ hx hf hy=>Ab.move rfl) rfl<|Af.Ak rfl (fun _=>rfl) rfl rfl (fun _ h=>by first|(cases h;done)|(cases h;decide))<|Af.Ak rfl (fun _=>rfl) rfl rfl (fun _ h=>by first|(cases h;done)|(cases h;decide))<|Af.op (val:=fun p2=>(.bool false)) rfl rfl (fun _=>rfl) (fun _ p2 _ hx hf hy=>Ab.AP rfl rfl) rfl ?_
   refine Af.op (val:=fun p2=>(.bool false)) rfl rfl (fun _=>rfl) (fun _ p2 _ hx hf hy=>Ab.move rfl) rfl<|Af.Ak rfl (fun _=>rfl) rfl rfl (fun _ h=>by first|(cases h;done)|(cases h;decide))<|Af.Ak rfl (fun _=>rfl) rfl rfl (fun _ h=>by first|(cases h;done)|(cases h;decide))<|Af.Ak rfl (fun _=>rfl) rfl rfl (fun _ h=>by first|(cases h;done)|(cases h;decide))<|Af.Ak rfl (fun _=>rfl) rfl rfl (fun _ h=>by first|(cases h;done)|(cases h;decide))<|Af.Ak rfl (fun _=>rfl) rfl rfl (fun _ h=>by first|(cases h;done)|(cases h;decide))<|Af.op (val:=fun p2=>(.bool false)) rfl rfl (fun _=>rfl) (fun _ p2 _ hx hf hy=>Ab.AP rfl rfl) rfl<|Af.op (val:=fun p2=>(.bool false)) rfl rfl (fun _=>rfl) (fun _ p2 _ hx hf hy=>Ab.assign rfl) rfl ?_
   refine Af.done fun H18 p2 hl18 hF7=>?_
   have hf15:AL (cP cB (cL (cP A0 (cP A0 Ar)))) H18 x9 (Bl (p2 0) 0):=hF7 0
   have hf16:AL (cP cB (cL (cP A0 (cP A0 Ar)))) H18 x11 (Bl (p2 4) 0):=hF7 4
   refine At.sub (L':=[(0,(.bool false))]) (Sub.of rf) ?_
   refine At.own (O:= .Az B7 (.cells #[v13] 32 (0,0)):: .Az B6 (.cells #[v11] 32 (0,0)):: .Az B5 (.cells #[v9] 32 (0,0)):: .Az B4 (.cells #[v6] 32 (0,0)):: .Az B3 (.cells #[v4] 32 (0,0)):: .Az (Bh (p1 8)) (.cells #[(Bl (Bl (p1 4) 0) 0)] 32 (0,0)):: .Az B2 (.cells #[(.int .i64 2),(Ad (word (fun _=>false) 0)),(Ad (17179869184#64)),(Ad (word (fun _=>false) 2)),(Ad (word (fun _=>false) 3)),(.slice none 0 0)] 27 (0,0))::O) ?_ (by first|rfl|(simp only[List.length_append,List.length_set];rfl)|simp)
   refine At.Ae<|Wp.ret ?_
   obtain rfl:=si hd
   exact At.q1 7 ((((((((((((hl1.trans hl2).trans hl3).trans hl4).trans hl5).trans hl6).trans hl7).trans hl8).trans hl9).trans hl10).trans hl11).trans hl12).trans hl18) rf (RV.tmp rf) rf
  obtain⟨hg8_,hd⟩:=bF hg8 hd
  refine Af.runK 7 [⟨[],[],[0]⟩,⟨[0],[],[]⟩,⟨[],[],[0]⟩,Ay,⟨[],[],[4]⟩,⟨[],[],[4]⟩,⟨[],[],[4]⟩,Ay,Ay,Ay,Ay,Ay,Ay,Ay,Ay,Ay,Ay,Ay,Ay,Ay,Ay,Ay,Ay,Ay,Ay,Ay,Ay,Ay,Ay,Ay,Ay,Ay,Ay,Ay,Ay,Ay,Ay,Ay,Ay] follows rfl (by kernel_rfl)<|Af.Mk (val:=fun p2=>(.agg #[(Bl (p2 0) 0)])) (fact:=fun p2 HH=>AL (cP cB (cL (cP A0 (cP A0 Ar)))) HH x9 (Bl (p2 0) 0)) rfl (fun _=>rfl) (fun _=>rfl) (fun _ _ _ hl h=>h.mono hl) (fun _ p2 _ hx hf hy=>(Bc.call Kw rfl (Ft hx9)).mono (by rintro v HH OO ⟨⟨v14,rfl,hv14⟩,rfl⟩;exact⟨rfl,hv14,rfl⟩)) rfl<|Af.op (val:=fun p2=>(.agg #[v13])) rfl rfl (fun _=>rfl) (fun _ p2 _ hx hf hy=>Ab.Aw (i:=0) u32 rfl A5 rfl rfl (hy 0 _ rfl rfl)) rfl<|Af.op (val:=fun p2=>(.bool true)) rfl rfl (fun _=>rfl) (fun _ p2 _ hx hf hy=>Ab.BR (b:=x10) (c:=true) (Ab.call Fo rfl (BG (a1:=([(true,([(0,255,0)]:List (Int×Int×Int)))]:List (Bool×(List (Int×Int×Int))))) (hf 0 rfl rfl) (hv13.mono hx) hx10)) hg7) rfl<|Af.op (val:=fun p2=>(.bool true)) rfl rfl (fun _=>rfl) (fun _ p2 _ hx hf hy=>Ab.move rfl) rfl<|Af.Oo (val:=fun p2=>(.agg #[(Bl (p2 4) 0)])) (fact:=fun p2 HH=>AL (cP cB (cL (cP A0 (cP A0 Ar)))) HH x11 (Bl (p2 4) 0)) rfl (fun _=>rfl) rfl (fun _=>rfl) (fun _=>rfl) (fun _ _ _ hl h=>h.mono hl) (fun _ p2 _ hx hf hy=>(Bc.call LU rfl (E9 hx11)).mono (by rintro v HH OO ⟨⟨v15,rfl,hv15⟩,rfl⟩;exact⟨rfl,hv15,rfl⟩)) rfl<|Af.AQ (val:=fun p2=>(Bl (p2 4) 0)) rfl (fun _=>rfl) rfl rfl (fun _=>rfl) (fun _ p2 _ hx hf hy=>Ab.I9 BO C9 rfl rfl rfl) rfl<|Af.AQ (val:=fun p2=>(.int .i64 (x11.length:Int))) rfl (fun _=>rfl) rfl rfl (fun _=>rfl) (fun _ p2 _ hx hf hy=>Ab.len C9 rfl (hf 4 rfl rfl).sl) rfl ?_
  refine Af.AQ (val:=fun p2=>(.bool false)) rfl (fun _=>rfl) rfl rfl (fun _=>rfl) (fun _ p2 _ hx hf hy=>Ab.BR (b:=decide ((x11.length:Int)=3)) (c:=false) (Ab.eql rfl rfl) hg8) rfl<|Af.op (val:=fun p2=>(.bool false)) rfl rfl (fun _=>rfl) (fun _ p2 _ hx hf hy=>Ab.AU rfl rfl) rfl<|Af.op (val:=fun p2=>(.bool false)) rfl rfl (fun _=>rfl) (fun _ p2 _ hx hf hy=>Ab.move rfl) rfl<|Af.Ak rfl (fun _=>rfl) rfl rfl (fun _ h=>by first|(cases h;done)|(cases h;decide))<|Af.Ak rfl (fun _=>rfl) rfl rfl (fun _ h=>by first|(cases h;done)|(cases h;decide))<|Af.op (val:=fun p2=>(.bool false)) rfl rfl (fun _=>rfl) (fun _ p2 _ hx hf hy=>Ab.AP rfl rfl) rfl<|Af.op (val:=fun p2=>(.bool false)) rfl rfl (fun _=>rfl) (fun _ p2 _ hx hf hy=>Ab.move rfl) rfl<|Af.Ak rfl (fun _=>rfl) rfl rfl (fun _ h=>by first|(cases h;done)|(cases h;decide)) ?_
  refine Af.Ak rfl (fun _=>rfl) rfl rfl (fun _ h=>by first|(cases h;done)|(cases h;decide))<|Af.Ak rfl (fun _=>rfl) rfl rfl (fun _ h=>by first|(cases h;done)|(cases h;decide))<|Af.op (val:=fun p2=>(.bool false)) rfl rfl (fun _=>rfl) (fun _ p2 _ hx hf hy=>Ab.AP rfl rfl) rfl<|Af.op (val:=fun p2=>(.bool false)) rfl rfl (fun _=>rfl) (fun _ p2 _ hx hf hy=>Ab.move rfl) rfl<|Af.Ak rfl (fun _=>rfl) rfl rfl (fun _ h=>by first|(cases h;done)|(cases h;decide))<|Af.Ak rfl (fun _=>rfl) rfl rfl (fun _ h=>by first|(cases h;done)|(cases h;decide))<|Af.Ak rfl (fun _=>rfl) rfl rfl (fun _ h=>by first|(cases h;done)|(cases h;decide))<|Af.op (val:=fun p2=>(.bool false)) rfl rfl (fun _=>rfl) (fun _ p2 _ hx hf hy=>Ab.AP rfl rfl) rfl ?_
  refine Af.op (val:=fun p2=>(.bool false)) rfl rfl (fun _=>rfl) (fun _ p2 _ hx hf hy=>Ab.move rfl) rfl<|Af.Ak rfl (fun _=>rfl) rfl rfl (fun _ h=>by first|(cases h;done)|(cases h;decide))<|Af.Ak rfl (fun _=>rfl) rfl rfl (fun _ h=>by first|(cases h;done)|(cases h;decide))<|Af.op (val:=fun p2=>(.bool false)) rfl rfl (fun _=>rfl) (fun _ p2 _ hx hf hy=>Ab.AP rfl rfl) rfl<|Af.op (val:=fun p2=>(.bool false)) rfl rfl (fun _=>rfl) (fun _ p2 _ hx hf hy=>Ab.move rfl) rfl<|Af.Ak rfl (fun _=>rfl) rfl rfl (fun _ h=>by first|(cases h;done)|(cases h;decide))<|Af.Ak rfl (fun _=>rfl) rfl rfl (fun _ h=>by first|(cases h;done)|(cases h;decide))<|Af.op (val:=fun p2=>(.bool false)) rfl rfl (fun _=>rfl) (fun _ p2 _ hx hf hy=>Ab.AP rfl rfl) rfl ?_
  refine Af.op (val:=fun p2=>(.bool false)) rfl rfl (fun _=>rfl) (fun _ p2 _ hx hf hy=>Ab.move rfl) rfl<|Af.Ak rfl (fun _=>rfl) rfl rfl (fun _ h=>by first|(cases h;done)|(cases h;decide))<|Af.Ak rfl (fun _=>rfl) rfl rfl (fun _ h=>by first|(cases h;done)|(cases h;decide))<|Af.Ak rfl (fun _=>rfl) rfl rfl (fun _ h=>by first|(cases h;done)|(cases h;decide))<|Af.Ak rfl (fun _=>rfl) rfl rfl (fun _ h=>by first|(cases h;done)|(cases h;decide))<|Af.Ak rfl (fun _=>rfl) rfl rfl (fun _ h=>by first|(cases h;done)|(cases h;decide))<|Af.op (val:=fun p2=>(.bool false)) rfl rfl (fun _=>rfl) (fun _ p2 _ hx hf hy=>Ab.AP rfl rfl) rfl<|Af.op (val:=fun p2=>(.bool false)) rfl rfl (fun _=>rfl) (fun _ p2 _ hx hf hy=>Ab.assign rfl) rfl ?_
  refine Af.done fun H19 p2 hl19 hF8=>?_
  have hf17:AL (cP cB (cL (cP A0 (cP A0 Ar)))) H19 x9 (Bl (p2 0) 0):=hF8 0
  have hf18:AL (cP cB (cL (cP A0 (cP A0 Ar)))) H19 x11 (Bl (p2 4) 0):=hF8 4
  refine At.sub (L':=[(0,(.bool false))]) (Sub.of rf) ?_
  refine At.own (O:= .Az B7 (.cells #[v13] 32 (0,0)):: .Az B6 (.cells #[v11] 32 (0,0)):: .Az B5 (.cells #[v9] 32 (0,0)):: .Az B4 (.cells #[v6] 32 (0,0)):: .Az B3 (.cells #[v4] 32 (0,0)):: .Az (Bh (p1 8)) (.cells #[(Bl (Bl (p1 4) 0) 0)] 32 (0,0)):: .Az B2 (.cells #[(.int .i64 2),(Ad (word (fun _=>false) 0)),(Ad (17179869184#64)),(Ad (word (fun _=>false) 2)),(Ad (word (fun _=>false) 3)),(.slice none 0 0)] 27 (0,0))::O) ?_ (by first|rfl|(simp only[List.length_append,List.length_set];rfl)|simp)
  refine At.Ae<|Wp.ret ?_
  obtain rfl:=si hd
  exact At.q1 7 ((((((((((((hl1.trans hl2).trans hl3).trans hl4).trans hl5).trans hl6).trans hl7).trans hl8).trans hl9).trans hl10).trans hl11).trans hl12).trans hl19) rf (RV.tmp rf) rf
 replace hd:=Gm hg7 hd
 refine Af.runK 7 [⟨[],[],[0]⟩,⟨[0],[],[]⟩,⟨[],[],[0]⟩,Ay,Ay,Ay,Ay,Ay,Ay,Ay,Ay,Ay,Ay,Ay,Ay,Ay,Ay,Ay,Ay,Ay,Ay,Ay,Ay,Ay,Ay,Ay,Ay,Ay,Ay,Ay,Ay,Ay,Ay,Ay,Ay,Ay,Ay,Ay,Ay] follows rfl (by kernel_rfl)<|Af.Mk (val:=fun p2=>(.agg #[(Bl (p2 0) 0)])) (fact:=fun p2 HH=>AL (cP cB (cL (cP A0 (cP A0 Ar)))) HH x9 (Bl (p2 0) 0)) rfl (fun _=>rfl) (fun _=>rfl) (fun _ _ _ hl h=>h.mono hl) (fun _ p2 _ hx hf hy=>(Bc.call Kw rfl (Ft hx9)).mono (by rintro v HH OO ⟨⟨v14,rfl,hv14⟩,rfl⟩;exact⟨rfl,hv14,rfl⟩)) rfl<|Af.op (val:=fun p2=>(.agg #[v13])) rfl rfl (fun _=>rfl) (fun _ p2 _ hx hf hy=>Ab.Aw (i:=0) u32 rfl A5 rfl rfl (hy 0 _ rfl rfl)) rfl<|Af.op (val:=fun p2=>(.bool false)) rfl rfl (fun _=>rfl) (fun _ p2 _ hx hf hy=>Ab.BR (b:=x10) (c:=false) (Ab.call Fo rfl (BG (a1:=([(true,([(0,255,0)]:List (Int×Int×Int)))]:List (Bool×(List (Int×Int×Int))))) (hf 0 rfl rfl) (hv13.mono hx) hx10)) hg7) rfl<|Af.op (val:=fun p2=>(.bool false)) rfl rfl (fun _=>rfl) (fun _ p2 _ hx hf hy=>Ab.move rfl) rfl<|Af.Ak rfl (fun _=>rfl) rfl rfl (fun _ h=>by first|(cases h;done)|(cases h;decide))<|Af.Ak rfl (fun _=>rfl) rfl rfl (fun _ h=>by first|(cases h;done)|(cases h;decide))<|Af.Ak rfl (fun _=>rfl) rfl rfl (fun _ h=>by first|(cases h;done)|(cases h;decide)) ?_
 refine Af.Ak rfl (fun _=>rfl) rfl rfl (fun _ h=>by first|(cases h;done)|(cases h;decide))<|Af.op (val:=fun p2=>(.bool false)) rfl rfl (fun _=>rfl) (fun _ p2 _ hx hf hy=>Ab.AP rfl rfl) rfl<|Af.op (val:=fun p2=>(.bool false)) rfl rfl (fun _=>rfl) (fun _ p2 _ hx hf hy=>Ab.move rfl) rfl<|Af.Ak rfl (fun _=>rfl) rfl rfl (fun _ h=>by first|(cases h;done)|(cases h;decide))<|Af.Ak rfl (fun _=>rfl) rfl rfl (fun _ h=>by first|(cases h;done)|(cases h;decide))<|Af.op (val:=fun p2=>(.bool false)) rfl rfl (fun _=>rfl) (fun _ p2 _ hx hf hy=>Ab.AP rfl rfl) rfl<|Af.op (val:=fun p2=>(.bool false)) rfl rfl (fun _=>rfl) (fun _ p2 _ hx hf hy=>Ab.move rfl) rfl<|Af.Ak rfl (fun _=>rfl) rfl rfl (fun _ h=>by first|(cases h;done)|(cases h;decide)) ?_
 refine Af.Ak rfl (fun _=>rfl) rfl rfl (fun _ h=>by first|(cases h;done)|(cases h;decide))<|Af.Ak rfl (fun _=>rfl) rfl rfl (fun _ h=>by first|(cases h;done)|(cases h;decide))<|Af.op (val:=fun p2=>(.bool false)) rfl rfl (fun _=>rfl) (fun _ p2 _ hx hf hy=>Ab.AP rfl rfl) rfl<|Af.op (val:=fun p2=>(.bool false)) rfl rfl (fun _=>rfl) (fun _ p2 _ hx hf hy=>Ab.move rfl) rfl<|Af.Ak rfl (fun _=>rfl) rfl rfl (fun _ h=>by first|(cases h;done)|(cases h;decide))<|Af.Ak rfl (fun _=>rfl) rfl rfl (fun _ h=>by first|(cases h;done)|(cases h;decide))<|Af.Ak rfl (fun _=>rfl) rfl rfl (fun _ h=>by first|(cases h;done)|(cases h;decide))<|Af.op (val:=fun p2=>(.bool false)) rfl rfl (fun _=>rfl) (fun _ p2 _ hx hf hy=>Ab.AP rfl rfl) rfl ?_
 refine Af.op (val:=fun p2=>(.bool false)) rfl rfl (fun _=>rfl) (fun _ p2 _ hx hf hy=>Ab.move rfl) rfl<|Af.Ak rfl (fun _=>rfl) rfl rfl (fun _ h=>by first|(cases h;done)|(cases h;decide))<|Af.Ak rfl (fun _=>rfl) rfl rfl (fun _ h=>by first|(cases h;done)|(cases h;decide))<|Af.op (val:=fun p2=>(.bool false)) rfl rfl (fun _=>rfl) (fun _ p2 _ hx hf hy=>Ab.AP rfl rfl) rfl<|Af.op (val:=fun p2=>(.bool false)) rfl rfl (fun _=>rfl) (fun _ p2 _ hx hf hy=>Ab.move rfl) rfl<|Af.Ak rfl (fun _=>rfl) rfl rfl (fun _ h=>by first|(cases h;done)|(cases h;decide))<|Af.Ak rfl (fun _=>rfl) rfl rfl (fun _ h=>by first|(cases h;done)|(cases h;decide))<|Af.op (val:=fun p2=>(.bool false)) rfl rfl (fun _=>rfl) (fun _ p2 _ hx hf hy=>Ab.AP rfl rfl) rfl ?_
 refine Af.op (val:=fun p2=>(.bool false)) rfl rfl (fun _=>rfl) (fun _ p2 _ hx hf hy=>Ab.move rfl) rfl<|Af.Ak rfl (fun _=>rfl) rfl rfl (fun _ h=>by first|(cases h;done)|(cases h;decide))<|Af.Ak rfl (fun _=>rfl) rfl rfl (fun _ h=>by first|(cases h;done)|(cases h;decide))<|Af.Ak rfl (fun _=>rfl) rfl rfl (fun _ h=>by first|(cases h;done)|(cases h;decide))<|Af.Ak rfl (fun _=>rfl) rfl rfl (fun _ h=>by first|(cases h;done)|(cases h;decide))<|Af.Ak rfl (fun _=>rfl) rfl rfl (fun _ h=>by first|(cases h;done)|(cases h;decide))<|Af.op (val:=fun p2=>(.bool false)) rfl rfl (fun _=>rfl) (fun _ p2 _ hx hf hy=>Ab.AP rfl rfl) rfl<|Af.op (val:=fun p2=>(.bool false)) rfl rfl (fun _=>rfl) (fun _ p2 _ hx hf hy=>Ab.assign rfl) rfl ?_
 refine Af.done fun H20 p2 hl20 hF9=>?_
 have hf19:AL (cP cB (cL (cP A0 (cP A0 Ar)))) H20 x9 (Bl (p2 0) 0):=hF9 0
 refine At.sub (L':=[(0,(.bool false))]) (Sub.of rf) ?_
 refine At.own (O:= .Az B7 (.cells #[v13] 32 (0,0)):: .Az B6 (.cells #[v11] 32 (0,0)):: .Az B5 (.cells #[v9] 32 (0,0)):: .Az B4 (.cells #[v6] 32 (0,0)):: .Az B3 (.cells #[v4] 32 (0,0)):: .Az (Bh (p1 8)) (.cells #[(Bl (Bl (p1 4) 0) 0)] 32 (0,0)):: .Az B2 (.cells #[(.int .i64 2),(Ad (word (fun _=>false) 0)),(Ad (17179869184#64)),(Ad (word (fun _=>false) 2)),(Ad (word (fun _=>false) 3)),(.slice none 0 0)] 27 (0,0))::O) ?_ (by first|rfl|(simp only[List.length_append,List.length_set];rfl)|simp)
 refine At.Ae<|Wp.ret ?_
 obtain rfl:=si hd
 exact At.q1 7 ((((((((((((hl1.trans hl2).trans hl3).trans hl4).trans hl5).trans hl6).trans hl7).trans hl8).trans hl9).trans hl10).trans hl11).trans hl12).trans hl20) rf (RV.tmp rf) rf
end Go.Proofs.YtjmbmodmepdmjabGreatDoor
namespace Go.Proofs.YtjmbmodmepdmjabGreatDoor
open Go.GK
theorem ZJ{X:Type}{enc:TypeId×Value→X}{w:World}{base:Nat}{spare:Nat→Bool}{held:Bool}(N:Nat):JV enc Tryz.prog w base spare held N Ar 3:=JV.i64 Tryz.underlying3
theorem Zh{X:Type}{enc:TypeId×Value→X}{w:World}{base:Nat}{spare:Nat→Bool}{held:Bool}(N:Nat):JV enc Tryz.prog w base spare held N KA 24:=JV.bs Tryz.underlying24 Tryz.underlying22 (by kernel_rfl) (by kernel_rfl)
theorem Zg{X:Type}{enc:TypeId×Value→X}{w:World}{base:Nat}{spare:Nat→Bool}{held:Bool}(N:Nat):JV enc Tryz.prog w base spare held N C' 27:=by
 refine JV.rx Tryz.underlying27 Tryz.underlying25 ZJ Zh rf rf rf rf rf rf (by kernel_rfl) (by kernel_rfl) (by kernel_rfl) (by kernel_rfl) N
theorem Zq:∃g t e,Tryz.prog.globalNamed "internal/strconv.uint64pow10" =some g∧(Tryz.prog.globals[g]?).map (·.type)=some t∧Tryz.prog.underlying t=some (.array 20 e)∧Tryz.prog.underlying e=some (.int .u64)∧Tryz.prog.cellsOf e=1∧Tryz.prog.cellsOf t=20:=⟨0,162,22,by kernel_rfl,by kernel_rfl,by kernel_rfl,by kernel_rfl,by kernel_rfl,by kernel_rfl⟩
theorem X'{W:World}(h:laidMetH Tryz.prog [("math/bits.deBruijn32tab",Rows.laid_math_bits_deBruijn32tab),("math/bits.deBruijn64tab",Rows.laid_math_bits_deBruijn64tab),("internal/strconv.uint64pow10",Rows.laid_internal_strconv_uint64pow10)] W):El Tryz.prog (Hp.of W):=by
 obtain⟨g,t,e,h1,h2,h3,h4,h5,h6⟩:=Zq
 exact El.of h1 (Lib.tabIs_of_head h1 h2 h3 h4 h5 h6 (laidMet.tail (laidMet.tail h)))
end Go.Proofs.YtjmbmodmepdmjabGreatDoor
namespace Go.GK
def Dg(fu:Nat)(a0:Rx)(slf:Rx→Option Bool)(k41:Nat)(nx40:Nat→Option Bool):Option Bool:=
 bif decide (((k41:Nat):Int)<((a0.Aq.length:Nat):Int))then(AV (idx a0.Aq ((k41:Nat):Int)) (fun x51=>AV (slf x51) (fun x59=>bif !x59 then(some false)else(nx40 (k41+1)))))else(some true)
def Df(fu:Nat)(a0:Rx)(slf:Rx→Option Bool)(k91:Nat)(nx90:Nat→Option Bool):Option Bool:=
 bif decide (((k91:Nat):Int)<((a0.Aq.length:Nat):Int))then(AV (idx a0.Aq ((k91:Nat):Int)) (fun x101=>AV (slf x101) (fun x109=>bif x109 then(some true)else(nx90 (k91+1)))))else(some false)
def De(fu:Nat)(a0:Rx)(slf:Rx→Option Bool)(b5:Bool):Option Bool:=
 bif b5 then(some true)else(bif decide (a0.kind=3)then(Ax fu (Dg fu a0 slf) 0)else(bif decide (a0.kind=4)then(Ax fu (Df fu a0 slf) 0)else(some false)))
def DQ(fu:Nat)(slf:Rx→Option Bool)(a0:Rx):Option Bool:=
 bif decide (a0.kind=1)then(De fu a0 slf (decide (a0.kind=1)))else(De fu a0 slf (decide (a0.kind=5)))
def Cs:Nat→Rx→Option Bool
 |0,_=>none
 |fu+1,a0=>DQ fu (Cs fu) a0
def E3(fu:Nat)(a0:Rx)(a1:Rx)(slf:Rx→Rx→Option Bool)(k76:Nat)(nx75:Nat→Option Bool):Option Bool:=
 bif decide (((k76:Nat):Int)<((a0.Aq.length:Nat):Int))then(AV (idx a0.Aq ((k76:Nat):Int)) (fun x100=>AV (idx a1.Aq ((k76:Nat):Int)) (fun x106=>AV (slf x100 x106) (fun x112=>bif !x112 then(some false)else(nx75 (k76+1))))))else(some true)
def FZ(fu:Nat)(slf:Rx→Rx→Option Bool)(a0:Rx)(a1:Rx):Option Bool:=
 bif decide (a0.kind≠a1.kind)then(some false)else(bif !Mh a0.set a1.set then(some false)else(bif decide (((a0.Aq.length:Nat):Int)≠((a1.Aq.length:Nat):Int))then(some false)else(Ax fu (E3 fu a0 a1 slf) 0)))
def Gt:Nat→Rx→Rx→Option Bool
 |0,_,_=>none
 |fu+1,a0,a1=>FZ fu (Gt fu) a0 a1
def Gu(fu:Nat)(a0:Int)(a1:List Rx):Option Rx:=
 bif decide (((a1.length:Nat):Int)=1)then(AV (idx a1 0) (fun x7=>some x7))else(some (Rx.mk a0 (fun _=>false) a1))
def FN(fu:Nat)(a0:List Rx)(l64:List Rx)(k68:Nat)(nx63:((List Rx)×Nat)→Option Rx):Option Rx:=
 bif decide (((k68:Nat):Int)<((a0.length:Nat):Int))then(AV (idx a0 ((k68:Nat):Int)) (fun x78=>bif decide (x78.kind=0)then(some (Rx.mk 0 (fun _=>false) ([]:List Rx)))else(bif decide (x78.kind=3)then(A4 (l64.length+x78.Aq.length≤AJ) (nx63 (l64++x78.Aq,k68+1)))else(bif decide (x78.kind=1)then(nx63 (l64,k68+1))else(A4 (l64.length+([x78]:List Rx).length≤AJ) (nx63 (l64++([x78]:List Rx),k68+1)))))))else(bif decide (((l64.length:Nat):Int)=0)then(some (Rx.mk 1 (fun _=>false) ([]:List Rx)))else(AV (Gu fu 3 l64) (fun x109=>some x109)))
def IY(fu:Nat)(a0:List Rx):Option Rx:=
 Ax fu (fun p nx=>FN fu a0 p.1 p.2 nx) (([]:List Rx),0)
def Ev(fu:Nat)(a0:Rx)(a1:List Rx)(k32:Nat)(nx31:Nat→Option (List Rx)):Option (List Rx):=
 bif decide (((k32:Nat):Int)<((a1.length:Nat):Int))then(AV (idx a1 ((k32:Nat):Int)) (fun x42=>AV (Gt fu a0 x42) (fun x50=>bif x50 then(some a1)else(nx31 (k32+1)))))else(A4 (a1.length+([(Rx.mk 0 (bitsOf (0#64) (0#64) (0#64) (0#64)) ([]:List Rx))]:List Rx).length≤AJ) (AV (idx (a1++([(Rx.mk 0 (bitsOf (0#64) (0#64) (0#64) (0#64)) ([]:List Rx))]:List Rx)) ((a1.length:Nat):Int)) (fun x72=>some ((a1++([(Rx.mk 0 (bitsOf (0#64) (0#64) (0#64) (0#64)) ([]:List Rx))]:List Rx)).set a1.length a0))))
def GU(fu:Nat)(a0:Rx)(a1:List Rx):Option (List Rx):=
 Ax fu (Ev fu a0 a1) 0
def FO(fu:Nat)(k177:Nat)(nx172:((List Rx)×Nat)→Option Rx)(x187:Rx)(l236:List Rx)(k240:Nat)(nx235:((List Rx)×Nat)→Option Rx):Option Rx:=
 bif decide (((k240:Nat):Int)<((x187.Aq.length:Nat):Int))then(AV (idx x187.Aq ((k240:Nat):Int)) (fun x250=>AV (GU fu x250 l236) (fun x258=>nx235 (x258,k240+1))))else(nx172 (l236,k177+1))
def FP(fu:Nat)(a0:List Rx)(l173:List Rx)(k177:Nat)(nx172:((List Rx)×Nat)→Option Rx):Option Rx:=
 bif decide (((k177:Nat):Int)<((a0.length:Nat):Int))then(AV (idx a0 ((k177:Nat):Int)) (fun x187=>bif decide (x187.kind=4)then(Ax fu (fun p nx=>FO fu k177 nx172 x187 p.1 p.2 nx) (l173,0))else(bif decide (x187.kind≠0)then(AV (GU fu x187 l173) (fun x266=>nx172 (x266,k177+1)))else(nx172 (l173,k177+1)))))else(bif decide (((l173.length:Nat):Int)=0)then(some (Rx.mk 0 (fun _=>false) ([]:List Rx)))else(AV (Gu fu 4 l173) (fun x281=>some x281)))
def J3(fu:Nat)(a0:List Rx):Option Rx:=
 Ax fu (fun p nx=>FP fu a0 p.1 p.2 nx) (([]:List Rx),0)
def D4(fu:Nat)(a0:Rx)(a1:Int)(slf:Rx→Int→Option Rx)(l122:List Rx)(k126:Nat)(nx121:((List Rx)×Nat)→Option Rx):Option Rx:=
 bif decide (((k126:Nat):Int)<((a0.Aq.length:Nat):Int))then(AV (idx a0.Aq ((k126:Nat):Int)) (fun x136=>AV (slf x136 a1) (fun x144=>A4 (l122.length+([x144]:List Rx).length≤AJ) (nx121 (l122++([x144]:List Rx),k126+1)))))else(AV (J3 fu l122) (fun x162=>some x162))
def Ca(fu:Nat)(slf:Rx→Int→Option Rx)(a0:Rx)(a1:Int):Option Rx:=
 bif decide (a0.kind=2)then(bif a0.set (a1).toNat then(some (Rx.mk 1 (fun _=>false) ([]:List Rx)))else(some (Rx.mk 0 (fun _=>false) ([]:List Rx))))else(bif decide (a0.kind=5)then(AV (idx a0.Aq 0) (fun x47=>AV (slf x47 a1) (fun x53=>AV (IY fu ([x53,a0]:List Rx)) (fun x57=>some x57))))else(bif decide (a0.kind=4)then(Ax fu (fun p nx=>D4 fu a0 a1 slf p.1 p.2 nx) (([]:List Rx),0))else(bif decide (a0.kind=3)then(A4 ((0:Int)≤1∧1≤((a0.Aq.length:Nat):Int)∧((a0.Aq.length:Nat):Int)≤((a0.Aq.length:Nat):Int)) (AV (IY fu (WH a0.Aq 1 ((a0.Aq.length:Nat):Int))) (fun x170=>AV (idx a0.Aq 0) (fun x213=>AV (slf x213 a1) (fun x219=>AV (IY fu ([x219,x170]:List Rx)) (fun x223=>AV (idx a0.Aq 0) (fun x235=>AV (Cs fu x235) (fun x241=>bif x241 then(AV (slf x170 a1) (fun x266=>AV (J3 fu ([x223,x266]:List Rx)) (fun x270=>some x270)))else(some x223)))))))))else(some (Rx.mk 0 (fun _=>false) ([]:List Rx))))))
def Cw:Nat→Rx→Int→Option Rx
 |0,_,_=>none
 |fu+1,a0,a1=>Ca fu (Cw fu) a0 a1
def Fh(fu:Nat)(a1:BF)(x94:Rx)(i97:Int)(nx93:(Rx×Int)→Option Bool):Option Bool:=
 bif decide (i97<((a1.length:Nat):Int))then(AV (Iz a1 i97) (fun x120=>AV (Cw fu x94 x120) (fun x122=>A4 (Dw (i97+1)) (nx93 (x122,i97+1)))))else(AV (Cs fu x94) (fun x132=>some x132))
def F0(fu:Nat)(a0:Rx)(a1:BF):Option Bool:=
 AV (C2 fu a0) (fun x4=>bif decide (x4≠0)then(some false)else(Ax fu (fun p nx=>Fh fu a1 p.1 p.2 nx) (a0,0)))
end Go.GK
