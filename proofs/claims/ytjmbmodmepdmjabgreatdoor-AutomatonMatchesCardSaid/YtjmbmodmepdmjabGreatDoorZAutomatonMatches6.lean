/- Part 6 of the texts of this claim: what its theorem leans on. -/
import Derived.Test.YtjmbmodmepdmjabGreatDoorZAutomatonMatches5
set_option maxRecDepth 100000
set_option maxHeartbeats 4000000
namespace Go.Proofs.YtjmbmodmepdmjabGreatDoor
open Go.GK
variable {H : Hp} {O : List A2}
theorem IG{fu:Nat} :∀ {H:Hp} {O:List A2} {a0:Rx} {v1:Value} {r:Bool} (hv1:AL C' H a0.Aq v1) (hd:Cs fu a0=some r),
    CB Tryz.prog 24 [(.agg #[(.int .i64 a0.kind),(Ad (word a0.set 0)),(Ad (word a0.set 1)),(Ad (word a0.set 2)),(Ad (word a0.set 3)),v1])] H O (.bool r):=by
 induction fu with
 |zero=>intros;rename_i hd;exact absurd hd (by simp[Cs])
 |succ fu ih=>
 intro H O a0 v1 r hv1 hd
 replace hd:DQ fu (Cs fu) a0=some r:=hd
 generalize Cs fu=slf at hd ih
 intro w hs
 refine Bo Tryz.func24 rf rf rf ?_ hs
 clear hs w
 unfold DQ at hd
 refine Wp.sr<|Aa.box (cs:= #[(.int .i64 a0.kind),(Ad (word a0.set 0)),(Ad (word a0.set 1)),(Ad (word a0.set 2)),(Ad (word a0.set 3)),v1]) rf rf rf fun B2=>Aa.op (Ab.assign rf) rf<|Aa.Ah<|Wp.seq<|Wp.sr<|Aa.op (Ab.A6 (o':=0) CP rf rf) rf<|Aa.op (Ab.Am (i:=0) (v:=(.int .i64 a0.kind)) u3 rf rf rf rf) rf ?_
 refine Aa.Ah<|Wp.block<|Wp.seq<|Wp.sr<|Aa.op (Ab.eql rf rf) rf<|Aa.op (Ab.assign rf) rf<|Aa.Ah ?_
 refine Wp.Jx (fun LL HH OO=> ∃(b1:Bool),[(1,(ptr B2 0)),(8,(.int .i64 a0.kind)),(9,(.bool b1))]=LL∧ .Az B2 (.cells #[(.int .i64 a0.kind),(Ad (word a0.set 0)),(Ad (word a0.set 1)),(Ad (word a0.set 2)),(Ad (word a0.set 3)),v1] 27 (0,0))::O=OO∧De fu a0 slf b1=some r) ?_ ?_
 ·
  refine Wp.cond rf (fun hb1=>?_) (fun hb1=>?_)
  ·
   obtain⟨hb1,hd⟩:=bT hb1 hd
   refine Wp.skip ?_
   refine At.EC (Hp.le.refl _) ⟨(decide (a0.kind=1)),rf,rf,hd⟩ (Sub.of rf)
  obtain⟨hb1,hd⟩:=bF hb1 hd
  refine Wp.region<|Aa.op (Ab.eql rf rf) rf<|Aa.op (Ab.assign rf) rf<|Aa.nil ?_
  refine At.EC (Hp.le.refl _) ⟨(decide (a0.kind=5)),rf,rf,hd⟩ (Sub.of rf)
 intro L1 H1 O1 hl1 hI1
 obtain⟨b1,rfl,rfl,hd⟩:=hI1
 unfold De at hd
 refine Wp.cond rf (fun hb2=>?_) (fun hb2=>?_)
 ·
  replace hd:=Gl hb2 hd
  refine Wp.sr<|Aa.op (Ab.assign rf) rf<|Aa.Ah<|Wp.ret<|At.A9<|At.Au ?_
  obtain rfl:=si hd
  exact At.q1 1 hl1 rf (RV.tmp rf) rf
 replace hd:=Gm hb2 hd
 refine Wp.sr<|Aa.op (Ab.eql rf rf) rf<|Aa.op (Ab.assign rf) rf<|Aa.Ah ?_
 refine Wp.cond rf (fun hb3=>?_) (fun hb3=>?_)
 ·
  obtain⟨hb3,hd⟩:=bT hb3 hd
  refine Wp.seq<|Wp.sr<|Aa.op (Ab.A6 (o':=5) CA rf rf) rf<|Aa.op (Ab.Am (i:=0) (v:=v1) Da rf rf rf rf) rf ?_
  have hb4:=hv1.le
  refine Aa.op (Ab.len Da rf (hv1.mono hl1).sl) rf<|Aa.op (Ab.move rf) rf<|Aa.Ah<|Wp.block<|Wp.Bt (fun m LL HH OO=> ∃(k1:Nat),[(15,v1),(16,(.int .i64 (a0.Aq.length:Int))),(17,(.int .i64 (k1:Int)))]=LL∧ .Az B2 (.cells #[(.int .i64 a0.kind),(Ad (word a0.set 0)),(Ad (word a0.set 1)),(Ad (word a0.set 2)),(Ad (word a0.set 3)),v1] 27 (0,0))::O=OO∧Ax m (Dg fu a0 slf) k1=some r) fu ⟨0,rf,rf,hd⟩ (Sub.of rf) ?_
  intro m1 L2 H2 O2 hl2 hI2
  obtain⟨k1,rfl,rfl,hd⟩:=hI2
  obtain⟨m2,nx1,rfl,hn1,hd⟩:=Bm hd
  replace hd:Dg fu a0 slf k1 nx1=some r:=hd
  unfold Dg at hd
  refine Wp.sr<|Aa.op (Ab.lss rf rf) rf<|Aa.Ah<|Wp.seq ?_
  refine Wp.cond rf (fun hb5=>?_) (fun hb5=>?_)
  ·
   obtain⟨hb5,hd⟩:=bT hb5 hd
   refine Wp.skip<|At.Ae<|Wp.seq<|Wp.block<|Wp.seq ?_
   obtain⟨x1,hx1,hd⟩:=Ag hd
   have hx1_:=Aj hx1
   refine Wp.region ?_
   obtain⟨_,hz1,hc1⟩:=AL.get (hv1.mono (hl1.trans hl2)) hx1
   obtain⟨v2,rfl,hv2⟩:=CC.1 hz1
   refine Aa.op (Ab.Bz Da AH rf (hv1.mono (hl1.trans hl2)).sl rf (Aj hx1)) rf<|Aa.op (Ab.DA (vs:=[(.int .i64 x1.kind),(Ad (word x1.set 0)),(Ad (word x1.set 1)),(Ad (word x1.set 2)),(Ad (word x1.set 3)),v2]) DJ rf AH rf rf (fun j u hj=>(hc1 j u hj))) rf<|Aa.alloc (cs:= #[(.int .i64 0),(Ad (word (fun _=>false) 0)),(Ad (word (fun _=>false) 1)),(Ad (word (fun _=>false) 2)),(Ad (word (fun _=>false) 3)),(.slice none 0 0)]) AH (by simp only[zw];rfl) rf fun B3=>Aa.AM (i:=0) (cs':= #[(.int .i64 x1.kind),(Ad (word x1.set 0)),(Ad (word x1.set 1)),(Ad (word x1.set 2)),(Ad (word x1.set 3)),v2]) rf rf AH rf rf (Bd (Ac rf (Ac rf (Ac rf (Ac rf (Ac rf (Ac hv2.one (An)))))))) rf ?_
   refine Aa.own (O:=_::_::_) ?_ rf
   refine Aa.Ah<|Wp.seq ?_
   obtain⟨x2,hx2,hd⟩:=Ag hd
   refine Wp.region<|Aa.op (Ab.Aw (i:=0) DJ rf AH rf rf rf) rf<|Aa.op (Ab.call QS rf (ih hv2 hx2)) rf<|Aa.op (Ab.not rf) rf<|Aa.Ah ?_
   refine Wp.cond rf (fun hb6=>?_) (fun hb6=>?_)
   ·
    replace hd:=Gl hb6 hd
    refine Wp.sr<|Aa.op (Ab.assign rf) rf<|Aa.Ah<|Wp.ret<|At.A9<|At.Au<|At.Au<|At.A9 ?_
    refine At.Au<|At.A9<|At.Au ?_
    obtain rfl:=si hd
    exact At.q1 2 (hl1.trans hl2) rf (RV.tmp rf) rf
   replace hd:=Gm hb6 hd
   refine Wp.skip<|At.AF<|At.Ae<|Wp.region<|Aa.op (Ab.add rf rf (Av (by omega))) rf<|Aa.op (Ab.move rf) rf<|Aa.nil<|At.AW [1] 2 rf rf rf ?_
   refine At.AZ (Hp.le.refl _) ⟨(k1+1),rf,rf,(by rw[←hn1];exact hd)⟩ (Sub.of rf)
  obtain⟨hb5,hd⟩:=bF hb5 hd
  refine Wp.exit<|At.Ao<|At.Ao<|At.AB<|At.Ae<|Wp.sr<|Aa.op (Ab.assign rf) rf<|Aa.Ah ?_
  refine Wp.ret<|At.A9<|At.Au ?_
  obtain rfl:=si hd
  exact At.q1 1 (hl1.trans hl2) rf (RV.tmp rf) rf
 obtain⟨hb3,hd⟩:=bF hb3 hd
 refine Wp.sr<|Aa.op (Ab.eql rf rf) rf<|Aa.op (Ab.assign rf) rf<|Aa.Ah ?_
 refine Wp.cond rf (fun hb7=>?_) (fun hb7=>?_)
 ·
  obtain⟨hb7,hd⟩:=bT hb7 hd
  refine Wp.sr<|Aa.op (Ab.A6 (o':=5) CA rf rf) rf<|Aa.op (Ab.Am (i:=0) (v:=v1) Da rf rf rf rf) rf ?_
  have hb8:=hv1.le
  refine Aa.op (Ab.len Da rf (hv1.mono hl1).sl) rf<|Aa.op (Ab.move rf) rf<|Aa.Ah<|Wp.block<|Wp.Bt (fun m LL HH OO=> ∃(k2:Nat),[(28,v1),(29,(.int .i64 (a0.Aq.length:Int))),(30,(.int .i64 (k2:Int)))]=LL∧ .Az B2 (.cells #[(.int .i64 a0.kind),(Ad (word a0.set 0)),(Ad (word a0.set 1)),(Ad (word a0.set 2)),(Ad (word a0.set 3)),v1] 27 (0,0))::O=OO∧Ax m (Df fu a0 slf) k2=some r) fu ⟨0,rf,rf,hd⟩ (Sub.of rf) ?_
  intro m3 L3 H3 O3 hl3 hI3
  obtain⟨k2,rfl,rfl,hd⟩:=hI3
  obtain⟨m4,nx2,rfl,hn2,hd⟩:=Bm hd
  replace hd:Df fu a0 slf k2 nx2=some r:=hd
  unfold Df at hd
  refine Wp.sr<|Aa.op (Ab.lss rf rf) rf<|Aa.Ah<|Wp.seq ?_
  refine Wp.cond rf (fun hb9=>?_) (fun hb9=>?_)
  ·
   obtain⟨hb9,hd⟩:=bT hb9 hd
   refine Wp.skip<|At.Ae<|Wp.seq<|Wp.block<|Wp.seq ?_
   obtain⟨x3,hx3,hd⟩:=Ag hd
   have hx3_:=Aj hx3
   refine Wp.region ?_
   obtain⟨_,hz2,hc2⟩:=AL.get (hv1.mono (hl1.trans hl3)) hx3
   obtain⟨v3,rfl,hv3⟩:=CC.1 hz2
   refine Aa.op (Ab.Bz Da AH rf (hv1.mono (hl1.trans hl3)).sl rf (Aj hx3)) rf<|Aa.op (Ab.DA (vs:=[(.int .i64 x3.kind),(Ad (word x3.set 0)),(Ad (word x3.set 1)),(Ad (word x3.set 2)),(Ad (word x3.set 3)),v3]) DJ rf AH rf rf (fun j u hj=>(hc2 j u hj))) rf<|Aa.alloc (cs:= #[(.int .i64 0),(Ad (word (fun _=>false) 0)),(Ad (word (fun _=>false) 1)),(Ad (word (fun _=>false) 2)),(Ad (word (fun _=>false) 3)),(.slice none 0 0)]) AH (by simp only[zw];rfl) rf fun B4=>Aa.AM (i:=0) (cs':= #[(.int .i64 x3.kind),(Ad (word x3.set 0)),(Ad (word x3.set 1)),(Ad (word x3.set 2)),(Ad (word x3.set 3)),v3]) rf rf AH rf rf (Bd (Ac rf (Ac rf (Ac rf (Ac rf (Ac rf (Ac hv3.one (An)))))))) rf ?_
   refine Aa.own (O:=_::_::_) ?_ rf
   refine Aa.Ah<|Wp.seq ?_
   obtain⟨x4,hx4,hd⟩:=Ag hd
   refine Wp.region<|Aa.op (Ab.Aw (i:=0) DJ rf AH rf rf rf) rf<|Aa.op (Ab.call QS rf (ih hv3 hx4)) rf<|Aa.Ah ?_
   refine Wp.cond rf (fun hb10=>?_) (fun hb10=>?_)
   ·
    replace hd:=Gl hb10 hd
    refine Wp.sr<|Aa.op (Ab.assign rf) rf<|Aa.Ah<|Wp.ret<|At.A9<|At.Au<|At.Au<|At.A9 ?_
    refine At.A9<|At.Au ?_
    obtain rfl:=si hd
    exact At.q1 2 (hl1.trans hl3) rf (RV.tmp rf) rf
   replace hd:=Gm hb10 hd
   refine Wp.skip<|At.AF<|At.Ae<|Wp.region<|Aa.op (Ab.add rf rf (Av (by omega))) rf<|Aa.op (Ab.move rf) rf<|Aa.nil<|At.AW [1] 2 rf rf rf ?_
   refine At.AZ (Hp.le.refl _) ⟨(k2+1),rf,rf,(by rw[←hn2];exact hd)⟩ (Sub.of rf)
  obtain⟨hb9,hd⟩:=bF hb9 hd
  refine Wp.exit<|At.Ao<|At.Ao<|At.AB<|At.AF<|At.Ae<|Wp.sr<|Aa.op (Ab.assign rf) rf ?_
  refine Aa.Ah<|Wp.ret ?_
  obtain rfl:=si hd
  exact At.q1 1 (hl1.trans hl3) rf (RV.tmp rf) rf
 obtain⟨hb7,hd⟩:=bF hb7 hd
 refine Wp.skip<|At.AF<|At.Ae<|Wp.sr<|Aa.op (Ab.assign rf) rf<|Aa.Ah<|Wp.ret ?_
 obtain rfl:=si hd
 exact At.q1 1 hl1 rf (RV.tmp rf) rf
theorem Rq{fu:Nat} :∀ {H:Hp} {O:List A2} {a0:Rx} {a1:Rx} {v1 v2:Value} {r:Bool} (hv1:AL C' H a0.Aq v1) (hv2:AL C' H a1.Aq v2) (hd:Gt fu a0 a1=some r),
    CB Tryz.prog 62 [(.agg #[(.int .i64 a0.kind),(Ad (word a0.set 0)),(Ad (word a0.set 1)),(Ad (word a0.set 2)),(Ad (word a0.set 3)),v1]),(.agg #[(.int .i64 a1.kind),(Ad (word a1.set 0)),(Ad (word a1.set 1)),(Ad (word a1.set 2)),(Ad (word a1.set 3)),v2])] H O (.bool r):=by
 induction fu with
 |zero=>intros;rename_i hd;exact absurd hd (by simp[Gt])
 |succ fu ih=>
 intro H O a0 a1 v1 v2 r hv1 hv2 hd
 replace hd:FZ fu (Gt fu) a0 a1=some r:=hd
 generalize Gt fu=slf at hd ih
 intro w hs
 refine Bo Tryz.func62 rf rf rf ?_ hs
 clear hs w
 unfold FZ at hd
 refine Wp.sr<|Aa.box (cs:= #[(.int .i64 a0.kind),(Ad (word a0.set 0)),(Ad (word a0.set 1)),(Ad (word a0.set 2)),(Ad (word a0.set 3)),v1]) rf rf rf fun B2=>Aa.box (cs:= #[(.int .i64 a1.kind),(Ad (word a1.set 0)),(Ad (word a1.set 1)),(Ad (word a1.set 2)),(Ad (word a1.set 3)),v2]) rf rf rf fun B3=>Aa.op (Ab.assign rf) rf<|Aa.Ah<|Wp.seq<|Wp.seq ?_
 rcases Bool.eq_false_or_eq_true (decide (a0.kind≠a1.kind))with hg1|hg1
 ·
  obtain⟨hg1_,hd⟩:=bT hg1 hd
  refine Wp.region<|Aa.op (Ab.A6 (o':=0) CP rf rf) rf<|Aa.op (Ab.Am (i:=1) (v:=(.int .i64 a0.kind)) u3 rf rf rf rf) rf<|Aa.op (Ab.A6 (o':=0) CP rf rf) rf<|Aa.op (Ab.Am (i:=0) (v:=(.int .i64 a1.kind)) u3 rf rf rf rf) rf<|Aa.op (Ab.BR (b:=decide (a0.kind≠a1.kind)) (c:=true) (Ab.neq rf rf) hg1) rf<|Aa.op (Ab.move rf) rf<|Aa.Ak rf rf rf rf ?_
  refine Aa.Ak rf rf rf rf<|Aa.Ak rf rf rf rf<|Aa.Ak rf rf rf rf<|Aa.Ak rf rf rf rf<|Aa.op (Ab.AU rf rf) rf<|Aa.op (Ab.move rf) rf<|Aa.Ak rf rf rf rf<|Aa.Ak rf rf rf rf ?_
  refine Aa.Ak rf rf rf rf<|Aa.Ak rf rf rf rf<|Aa.Ak rf rf rf rf<|Aa.Ak rf rf rf rf<|Aa.Ak rf rf rf rf<|Aa.op (Ab.AU rf rf) rf<|Aa.Ah<|Wp.EY rf ?_
  refine Wp.sr<|Aa.op (Ab.assign rf) rf<|Aa.Ah<|Wp.ret<|At.Au ?_
  obtain rfl:=si hd
  exact At.q1 2 (Hp.le.refl _) rf (RV.tmp rf) rf
 obtain⟨hg1_,hd⟩:=bF hg1 hd
 rcases Bool.eq_false_or_eq_true (!Mh a0.set a1.set)with hg2|hg2
 ·
  replace hd:=Gl hg2 hd
  refine Wp.region<|Aa.op (Ab.A6 (o':=0) CP rf rf) rf<|Aa.op (Ab.Am (i:=1) (v:=(.int .i64 a0.kind)) u3 rf rf rf rf) rf<|Aa.op (Ab.A6 (o':=0) CP rf rf) rf<|Aa.op (Ab.Am (i:=0) (v:=(.int .i64 a1.kind)) u3 rf rf rf rf) rf<|Aa.op (Ab.BR (b:=decide (a0.kind≠a1.kind)) (c:=false) (Ab.neq rf rf) hg1) rf<|Aa.op (Ab.move rf) rf<|Aa.AQ rf rf (Ab.A6 (o':=1) GG rf rf) rf ?_
  refine Aa.AQ rf rf (Ab.Ga (i:=1) (vs:=[(Ad (word a0.set 0)),(Ad (word a0.set 1)),(Ad (word a0.set 2)),(Ad (word a0.set 3))]) K1 rf Bu rf rf rf) rf<|Aa.AQ rf rf (Ab.A6 (o':=1) GG rf rf) rf<|Aa.AQ rf rf (Ab.Ga (i:=0) (vs:=[(Ad (word a1.set 0)),(Ad (word a1.set 1)),(Ad (word a1.set 2)),(Ad (word a1.set 3))]) K1 rf Bu rf rf rf) rf<|Aa.AQ rf rf (Ab.BR (b:= !Mh a0.set a1.set) (c:=true) (Ab.Vg (p:=a0.set) (q:=a1.set) QP K1 Y0 E2 rf rf) hg2) rf<|Aa.op (Ab.AP rf rf) rf<|Aa.op (Ab.move rf) rf<|Aa.Ak rf rf rf rf<|Aa.Ak rf rf rf rf ?_
  refine Aa.Ak rf rf rf rf<|Aa.Ak rf rf rf rf<|Aa.Ak rf rf rf rf<|Aa.Ak rf rf rf rf<|Aa.Ak rf rf rf rf<|Aa.op (Ab.AU rf rf) rf<|Aa.Ah<|Wp.EY rf ?_
  refine Wp.sr<|Aa.op (Ab.assign rf) rf<|Aa.Ah<|Wp.ret<|At.Au ?_
  obtain rfl:=si hd
  exact At.q1 2 (Hp.le.refl _) rf (RV.tmp rf) rf
 replace hd:=Gm hg2 hd
 refine Wp.region<|Aa.op (Ab.A6 (o':=0) CP rf rf) rf<|Aa.op (Ab.Am (i:=1) (v:=(.int .i64 a0.kind)) u3 rf rf rf rf) rf<|Aa.op (Ab.A6 (o':=0) CP rf rf) rf<|Aa.op (Ab.Am (i:=0) (v:=(.int .i64 a1.kind)) u3 rf rf rf rf) rf<|Aa.op (Ab.BR (b:=decide (a0.kind≠a1.kind)) (c:=false) (Ab.neq rf rf) hg1) rf<|Aa.op (Ab.move rf) rf<|Aa.AQ rf rf (Ab.A6 (o':=1) GG rf rf) rf ?_
 refine Aa.AQ rf rf (Ab.Ga (i:=1) (vs:=[(Ad (word a0.set 0)),(Ad (word a0.set 1)),(Ad (word a0.set 2)),(Ad (word a0.set 3))]) K1 rf Bu rf rf rf) rf<|Aa.AQ rf rf (Ab.A6 (o':=1) GG rf rf) rf<|Aa.AQ rf rf (Ab.Ga (i:=0) (vs:=[(Ad (word a1.set 0)),(Ad (word a1.set 1)),(Ad (word a1.set 2)),(Ad (word a1.set 3))]) K1 rf Bu rf rf rf) rf<|Aa.AQ rf rf (Ab.BR (b:= !Mh a0.set a1.set) (c:=false) (Ab.Vg (p:=a0.set) (q:=a1.set) QP K1 Y0 E2 rf rf) hg2) rf<|Aa.op (Ab.AP rf rf) rf<|Aa.op (Ab.move rf) rf<|Aa.AQ rf rf (Ab.A6 (o':=5) CA rf rf) rf<|Aa.AQ rf rf (Ab.Am (i:=1) (v:=v1) Da rf rf rf rf) rf ?_
 have hb1:=hv1.le
 refine Aa.AQ rf rf (Ab.len Da rf hv1.sl) rf<|Aa.AQ rf rf (Ab.A6 (o':=5) CA rf rf) rf<|Aa.AQ rf rf (Ab.Am (i:=0) (v:=v2) Da rf rf rf rf) rf ?_
 have hb2:=hv2.le
 refine Aa.AQ rf rf (Ab.len Da rf hv2.sl) rf<|Aa.AQ rf rf (Ab.neq rf rf) rf<|Aa.op (Ab.AP rf rf) rf<|Aa.Ah ?_
 refine Wp.cond rf (fun hb3=>?_) (fun hb3=>?_)
 ·
  obtain⟨hb3,hd⟩:=bT hb3 hd
  refine Wp.sr<|Aa.op (Ab.assign rf) rf<|Aa.Ah<|Wp.ret<|At.Au ?_
  obtain rfl:=si hd
  exact At.q1 2 (Hp.le.refl _) rf (RV.tmp rf) rf
 obtain⟨hb3,hd⟩:=bF hb3 hd
 refine Wp.skip<|At.Ae<|Wp.seq<|Wp.sr<|Aa.op (Ab.A6 (o':=5) CA rf rf) rf<|Aa.op (Ab.Am (i:=1) (v:=v1) Da rf rf rf rf) rf ?_
 have hb4:=hv1.le
 refine Aa.op (Ab.len Da rf hv1.sl) rf<|Aa.op (Ab.move rf) rf<|Aa.Ah<|Wp.block<|Wp.Bt (fun m LL HH OO=> ∃(k1:Nat),[(2,(ptr B2 0)),(3,(ptr B3 0)),(29,(.int .i64 (a0.Aq.length:Int))),(30,(.int .i64 (k1:Int)))]=LL∧ .Az B3 (.cells #[(.int .i64 a1.kind),(Ad (word a1.set 0)),(Ad (word a1.set 1)),(Ad (word a1.set 2)),(Ad (word a1.set 3)),v2] 27 (0,0)):: .Az B2 (.cells #[(.int .i64 a0.kind),(Ad (word a0.set 0)),(Ad (word a0.set 1)),(Ad (word a0.set 2)),(Ad (word a0.set 3)),v1] 27 (0,0))::O=OO∧Ax m (E3 fu a0 a1 slf) k1=some r) fu ⟨0,rf,rf,hd⟩ (Sub.of rf) ?_
 intro m1 L1 H1 O1 hl1 hI1
 obtain⟨k1,rfl,rfl,hd⟩:=hI1
 obtain⟨m2,nx1,rfl,hn1,hd⟩:=Bm hd
 replace hd:E3 fu a0 a1 slf k1 nx1=some r:=hd
 unfold E3 at hd
 refine Wp.sr<|Aa.op (Ab.lss rf rf) rf<|Aa.Ah<|Wp.seq ?_
 refine Wp.cond rf (fun hb5=>?_) (fun hb5=>?_)
 ·
  obtain⟨hb5,hd⟩:=bT hb5 hd
  refine Wp.skip<|At.Ae<|Wp.seq<|Wp.block<|Wp.sr<|Aa.op (Ab.move rf) rf<|Aa.op (Ab.assign rf) rf<|Aa.Ah ?_
  refine Wp.seq ?_
  obtain⟨x1,hx1,hd⟩:=Ag hd
  have hx1_:=Aj hx1
  obtain⟨x2,hx2,hd⟩:=Ag hd
  have hx2_:=Aj hx2
  obtain⟨x3,hx3,hd⟩:=Ag hd
  obtain⟨_,hz1,hc1⟩:=AL.get (hv1.mono hl1) hx1
  obtain⟨v3,rfl,hv3⟩:=CC.1 hz1
  obtain⟨_,hz2,hc2⟩:=AL.get (hv2.mono hl1) hx2
  obtain⟨v4,rfl,hv4⟩:=CC.1 hz2
  refine Wp.Ea 12 follows rf (by kernel_rfl)<|Ai.A7 (Ab.A6 (o':=5) CA rf rf) rf<|Ai.A7 (Ab.Am (i:=1) (v:=v1) Da rf rf rf rf) rf<|Ai.A7 (Ab.move rf) rf<|Ai.A7 (Ab.Bz Da AH rf (hv1.mono hl1).sl rf (Aj hx1)) rf<|Ai.A7 (Ab.DA (vs:=[(.int .i64 x1.kind),(Ad (word x1.set 0)),(Ad (word x1.set 1)),(Ad (word x1.set 2)),(Ad (word x1.set 3)),v3]) DJ rf AH rf rf (fun j u hj=>(hc1 j u hj))) rf<|Ai.A7 (Ab.A6 (o':=5) CA rf rf) rf<|Ai.A7 (Ab.Am (i:=0) (v:=v2) Da rf rf rf rf) rf ?_
  refine Ai.A7 (Ab.move rf) rf<|Ai.A7 (Ab.Bz Da AH rf (hv2.mono hl1).sl rf (Aj hx2)) rf<|Ai.A7 (Ab.DA (vs:=[(.int .i64 x2.kind),(Ad (word x2.set 0)),(Ad (word x2.set 1)),(Ad (word x2.set 2)),(Ad (word x2.set 3)),v4]) DJ rf AH rf rf (fun j u hj=>(hc2 j u hj))) rf<|Ai.A7 (Ab.call Wb rf (ih hv3 hv4 hx3)) rf<|Ai.A7 (Ab.not rf) rf<|Ai.Eb<|As.is (t:=2) rf<|As.is (t:=3) rf ?_
  refine As.is (t:=29) rf<|As.is (t:=30) rf<|As.is (t:=44) rf<|As.Me<|Aa.Ah ?_
  refine Wp.cond rf (fun hb6=>?_) (fun hb6=>?_)
  ·
   replace hd:=Gl hb6 hd
   refine Wp.sr<|Aa.op (Ab.assign rf) rf<|Aa.Ah<|Wp.ret<|At.A9<|At.Au<|At.Au<|At.A9 ?_
   refine At.Au ?_
   obtain rfl:=si hd
   exact At.q1 2 hl1 rf (RV.tmp rf) rf
  replace hd:=Gm hb6 hd
  refine Wp.skip<|At.AF<|At.Ae<|Wp.region<|Aa.op (Ab.add rf rf (Av (by omega))) rf<|Aa.op (Ab.move rf) rf<|Aa.nil ?_
  refine At.AZ (Hp.le.refl _) ⟨(k1+1),rf,rf,(by rw[←hn1];exact hd)⟩ (Sub.of rf)
 obtain⟨hb5,hd⟩:=bF hb5 hd
 refine Wp.exit<|At.Ao<|At.Ao<|At.AB<|At.Ae<|Wp.sr<|Aa.op (Ab.assign rf) rf<|Aa.Ah ?_
 refine Wp.ret ?_
 obtain rfl:=si hd
 exact At.q1 2 hl1 rf (RV.tmp rf) rf
theorem Mx{fu:Nat}{a0:Int}{a1:List Rx}{v1:Value}{r:Rx}(hv1:AL C' H a1 v1)(hd:Gu fu a0 a1=some r):
   Eg Tryz.prog 60 [(.int .i64 a0),v1] H O (fun v H' O'=>(∃v2:Value,(.agg #[(.int .i64 r.kind),(Ad (word r.set 0)),(Ad (word r.set 1)),(Ad (word r.set 2)),(Ad (word r.set 3)),v2])=v∧AL C' H' r.Aq v2)∧O=O'):=by
 intro w hs
 refine Bo Tryz.func60 rf rf rf ?_ hs
 clear hs w
 unfold Gu at hd
 refine Wp.sr<|Aa.alloc (cs:= #[(.int .i64 0),(Ad (word (fun _=>false) 0)),(Ad (word (fun _=>false) 1)),(Ad (word (fun _=>false) 2)),(Ad (word (fun _=>false) 3)),(.slice none 0 0)]) AH (by simp only[zw];rfl) rf fun B2=>Aa.Ah<|Wp.seq<|Wp.sr<|Aa.op (Ab.move rf) rf ?_
 have hb1:=hv1.le
 refine Aa.op (Ab.len Da rf hv1.sl) rf<|Aa.op (Ab.eql rf rf) rf<|Aa.Ah ?_
 refine Wp.cond rf (fun hb2=>?_) (fun hb2=>?_)
 ·
  obtain⟨hb2,hd⟩:=bT hb2 hd
  refine Wp.seq ?_
  obtain⟨x1,hx1,hd⟩:=Ag hd
  have hx1_:=Aj hx1
  refine Wp.region<|Aa.op (Ab.move rf) rf ?_
  obtain⟨_,hz1,hc1⟩:=AL.get hv1 hx1
  obtain⟨v3,rfl,hv2⟩:=CC.1 hz1
  refine Aa.op (Ab.Bz Da AH rf hv1.sl rf (Aj hx1)) rf<|Aa.op (Ab.DA (vs:=[(.int .i64 x1.kind),(Ad (word x1.set 0)),(Ad (word x1.set 1)),(Ad (word x1.set 2)),(Ad (word x1.set 3)),v3]) DJ rf AH rf rf (fun j u hj=>(hc1 j u hj))) rf<|Aa.AM (i:=0) (cs':= #[(.int .i64 x1.kind),(Ad (word x1.set 0)),(Ad (word x1.set 1)),(Ad (word x1.set 2)),(Ad (word x1.set 3)),v3]) rf rf AH rf rf (Bd (Ac rf (Ac rf (Ac rf (Ac rf (Ac rf (Ac hv2.one (An)))))))) rf ?_
  refine Aa.own (O:=_::_) ?_ rf
  refine Aa.Ah<|Wp.ret<|At.Au ?_
  obtain rfl:=si hd
  exact At.C_ rf (RV.CQ (i:=0) rf DJ rf AH rf rf) (fun w hs=>⟨_,_,_,rf,(Hp.le.refl _),(hs.BW 1),⟨⟨v3,rf,hv2⟩,rf⟩⟩)
 obtain⟨hb2,hd⟩:=bF hb2 hd
 refine Wp.skip<|At.Ae<|Wp.sr<|Aa.op (Ab.move rf) rf<|Aa.op (Ab.move rf) rf<|Aa.op (Ab.Bj (vs:=[(0,(.int .i64 a0)),(2,v1)]) (cs:= #[(.int .i64 a0),(Ad (word (fun _=>false) 0)),(Ad (word (fun _=>false) 1)),(Ad (word (fun _=>false) 2)),(Ad (word (fun _=>false) 3)),v1]) II AH rf rf (AK rf (AK (E8 hv1.one) (A8))) (by simp only[zw];rfl)) rf<|Aa.AM (i:=0) (cs':= #[(.int .i64 a0),(Ad (word (fun _=>false) 0)),(Ad (word (fun _=>false) 1)),(Ad (word (fun _=>false) 2)),(Ad (word (fun _=>false) 3)),v1]) rf rf AH rf rf (Bd (Ac rf (Ac rf (Ac rf (Ac rf (Ac rf (Ac hv1.one (An)))))))) rf ?_
 refine Aa.own (O:=_::_) ?_ rf
 refine Aa.Ah<|Wp.ret ?_
 obtain rfl:=si hd
 exact At.C_ rf (RV.CQ (i:=0) rf DJ rf AH rf rf) (fun w hs=>⟨_,_,_,rf,(Hp.le.refl _),(hs.BW 1),⟨⟨v1,rf,hv1⟩,rf⟩⟩)
theorem Le{fu:Nat}{a0:List Rx}{v1:Value}{r:Rx}(hv1:AL C' H a0 v1)(hd:IY fu a0=some r):
    Eg Tryz.prog 40 [v1] H O (fun v H' O'=>(∃v2:Value,(.agg #[(.int .i64 r.kind),(Ad (word r.set 0)),(Ad (word r.set 1)),(Ad (word r.set 2)),(Ad (word r.set 3)),v2])=v∧AL C' H' r.Aq v2)∧O=O'):=by
 intro w hs
 refine Bo Tryz.func40 rf rf rf ?_ hs
 clear hs w
 unfold IY at hd
 refine Wp.sr<|Aa.alloc (cs:= #[(.int .i64 0),(Ad (word (fun _=>false) 0)),(Ad (word (fun _=>false) 1)),(Ad (word (fun _=>false) 2)),(Ad (word (fun _=>false) 3)),(.slice none 0 0)]) AH (by simp only[zw];rfl) rf fun B2=>Aa.Ah<|Wp.sr<|Aa.op (Ab.assign rf) rf<|Aa.Ah<|Wp.seq<|Wp.sr ?_
 refine Aa.op (Ab.move rf) rf ?_
 have hb1:=hv1.le
 refine Aa.op (Ab.len Da rf hv1.sl) rf<|Aa.op (Ab.move rf) rf<|Aa.Ah<|Wp.block<|Wp.Cb 27 6<|Wp.Bt (fun m LL HH OO=> ∃(l1:List Rx),∃(k1:Nat),∃(v3:Value),∃(xs1:List Value),[(2,(ptr B2 0)),(3,v3),(6,v1),(7,(.int .i64 (a0.length:Int))),(8,(.int .i64 (k1:Int)))]=LL∧ .row v3 27 6 l1.length xs1:: .Az B2 (.cells #[(.int .i64 0),(Ad (word (fun _=>false) 0)),(Ad (word (fun _=>false) 1)),(Ad (word (fun _=>false) 2)),(Ad (word (fun _=>false) 3)),(.slice none 0 0)] 27 (0,0))::O=OO∧Ax m (fun p nx=>FN fu a0 p.1 p.2 nx) (l1,k1)=some r∧Ap C' HH l1 xs1) fu ⟨([]:List Rx),0,(.slice none 0 0),[],rf,rf,hd,(Ap.nil (c:=C') (H:=H))⟩ (Sub.of rf) ?_
 intro m1 L1 H1 O1 hl1 hI1
 obtain⟨l1,k1,v3,xs1,rfl,rfl,hd,hq1⟩:=hI1
 obtain⟨m2,nx1,rfl,hn1,hd⟩:=Bm hd
 replace hd:FN fu a0 l1 k1 nx1=some r:=hd
 unfold FN at hd
 refine Wp.sr<|Aa.op (Ab.lss rf rf) rf<|Aa.Ah<|Wp.seq ?_
 refine Wp.cond rf (fun hb2=>?_) (fun hb2=>?_)
 ·
  obtain⟨hb2,hd⟩:=bT hb2 hd
  refine Wp.skip<|At.Ae<|Wp.seq<|Wp.block<|Wp.seq ?_
  obtain⟨x1,hx1,hd⟩:=Ag hd
  have hx1_:=Aj hx1
  refine Wp.region ?_
  obtain⟨_,hz1,hc1⟩:=AL.get (hv1.mono hl1) hx1
  obtain⟨v4,rfl,hv2⟩:=CC.1 hz1
  refine Aa.op (Ab.Bz Da AH rf (hv1.mono hl1).sl rf (Aj hx1)) rf<|Aa.op (Ab.DA (vs:=[(.int .i64 x1.kind),(Ad (word x1.set 0)),(Ad (word x1.set 1)),(Ad (word x1.set 2)),(Ad (word x1.set 3)),v4]) DJ rf AH rf rf (fun j u hj=>(hc1 j u hj))) rf<|Aa.alloc (cs:= #[(.int .i64 0),(Ad (word (fun _=>false) 0)),(Ad (word (fun _=>false) 1)),(Ad (word (fun _=>false) 2)),(Ad (word (fun _=>false) 3)),(.slice none 0 0)]) AH (by simp only[zw];rfl) rf fun B3=>Aa.AM (i:=0) (cs':= #[(.int .i64 x1.kind),(Ad (word x1.set 0)),(Ad (word x1.set 1)),(Ad (word x1.set 2)),(Ad (word x1.set 3)),v4]) rf rf AH rf rf (Bd (Ac rf (Ac rf (Ac rf (Ac rf (Ac rf (Ac hv2.one (An)))))))) rf ?_
  refine Aa.own (O:=_::_::_::_) ?_ rf
  refine Aa.Ah<|Wp.sr<|Aa.op (Ab.A6 (o':=0) CP rf rf) rf<|Aa.op (Ab.Am (i:=0) (v:=(.int .i64 x1.kind)) u3 rf rf rf rf) rf<|Aa.Ah<|Wp.block<|Wp.sr<|Aa.op (Ab.eql rf rf) rf ?_
  refine Aa.op (Ab.assign rf) rf<|Aa.Ah ?_
  refine Wp.cond rf (fun hb3=>?_) (fun hb3=>?_)
  ·
   obtain⟨hb3,hd⟩:=bT hb3 hd
   refine Wp.sr<|Aa.op (Ab.Bj (vs:=[]) (cs:= #[(.int .i64 0),(Ad (word (fun _=>false) 0)),(Ad (word (fun _=>false) 1)),(Ad (word (fun _=>false) 2)),(Ad (word (fun _=>false) 3)),(.slice none 0 0)]) II AH rf rf (A8) (by simp only[zw];rfl)) rf<|Aa.AM (i:=2) (cs':= #[(.int .i64 0),(Ad (word (fun _=>false) 0)),(Ad (word (fun _=>false) 1)),(Ad (word (fun _=>false) 2)),(Ad (word (fun _=>false) 3)),(.slice none 0 0)]) rf rf AH rf rf (Bd (Ac rf (Ac rf (Ac rf (Ac rf (Ac rf (Ac rf (An)))))))) rf ?_
   refine Aa.own (O:=_::_::_::_) ?_ rf
   refine Aa.Ah<|Wp.ret<|At.A9<|At.A9<|At.Au<|At.Au<|At.A9<|At.Au ?_
   obtain rfl:=si hd
   exact At.C_ rf (RV.CQ (i:=2) rf DJ rf AH rf rf) (fun w hs=>⟨_,_,_,rf,hl1,(hs.BW 3),⟨⟨(.slice none 0 0),rf,AL.nil⟩,rf⟩⟩)
  obtain⟨hb3,hd⟩:=bF hb3 hd
  refine Wp.sr<|Aa.op (Ab.eql rf rf) rf<|Aa.op (Ab.assign rf) rf<|Aa.Ah ?_
  refine Wp.cond rf (fun hb4=>?_) (fun hb4=>?_)
  ·
   obtain⟨hb4,hd⟩:=bT hb4 hd
   obtain⟨ha1,hd⟩:=Al hd
   refine Wp.region<|Aa.op (Ab.move rf) rf<|Aa.op (Ab.A6 (o':=5) CA rf rf) rf<|Aa.op (Ab.Am (i:=0) (v:=v4) Da rf rf rf rf) rf<|Aa.YP (i:=1) hq1 hv2 Da AH rf (by decide) rf rf rf (by decide) ha1 rf fun v5 xs2 hq2=>Aa.op (Ab.assign rf) rf<|Aa.nil<|At.AF ?_
   refine At.AF<|At.Ae<|Wp.region<|Aa.op (Ab.add rf rf (Av (by omega))) rf<|Aa.op (Ab.move rf) rf<|Aa.nil<|At.AW [1,2] 3 rf rf rf ?_
   refine At.AZ (Hp.le.refl _) ⟨(l1++x1.Aq),(k1+1),v5,xs2,rf,rf,(by rw[←hn1];exact hd),hq2⟩ (Sub.of rf)
  obtain⟨hb4,hd⟩:=bF hb4 hd
  refine Wp.sr<|Aa.op (Ab.eql rf rf) rf<|Aa.op (Ab.assign rf) rf<|Aa.Ah ?_
  refine Wp.cond rf (fun hb5=>?_) (fun hb5=>?_)
  ·
   obtain⟨hb5,hd⟩:=bT hb5 hd
   refine Wp.skip<|At.AF<|At.AF<|At.Ae<|Wp.region<|Aa.op (Ab.add rf rf (Av (by omega))) rf<|Aa.op (Ab.move rf) rf<|Aa.nil ?_
   refine At.AW [1,2] 3 rf rf rf ?_
   refine At.AZ (Hp.le.refl _) ⟨l1,(k1+1),v3,xs1,rf,rf,(by rw[←hn1];exact hd),hq1⟩ (Sub.of rf)
  obtain⟨hb5,hd⟩:=bF hb5 hd
  obtain⟨ha2,hd⟩:=Al hd
  refine Wp.region<|Aa.op (Ab.move rf) rf<|Aa.op (Ab.Aw (i:=0) DJ rf AH rf rf rf) rf<|Aa.Bv (c:=C') (y:=x1) (cs:=[(.int .i64 x1.kind),(Ad (word x1.set 0)),(Ad (word x1.set 1)),(Ad (word x1.set 2)),(Ad (word x1.set 3)),v4]) Da AH rf rf rf rf ((CC.2 ⟨_,rf,hv2⟩)) rf fun v6 xs3 hq3=>Aa.Hz (i:=2) (j:=0) hq1 hq3 Da AH rf (by decide) rf rf rf rf (by decide) ha2 rf fun v7 xs4 hq4=>Aa.drop (i:=0)<|Aa.op (Ab.assign rf) rf<|Aa.nil ?_
  refine At.AF<|At.AF<|At.Ae<|Wp.region<|Aa.op (Ab.add rf rf (Av (by omega))) rf<|Aa.op (Ab.move rf) rf<|Aa.nil<|At.AW [1,2] 3 rf rf rf ?_
  refine At.AZ (Hp.le.refl _) ⟨(l1++([x1]:List Rx)),(k1+1),v7,xs4,rf,rf,(by rw[←hn1];exact hd),hq4⟩ (Sub.of rf)
 obtain⟨hb2,hd⟩:=bF hb2 hd
 refine Wp.exit<|At.Ao<|At.Ao<|At.AB<|At.Ae<|Wp.seq<|Wp.sr<|Aa.op (Ab.move rf) rf ?_
 refine Aa.Bk (i:=0) rf fun hb6=>?_
 refine Aa.op (Ab.CW (i:=0) Da rf rf) rf<|Aa.op (Ab.eql rf rf) rf<|Aa.Ah ?_
 refine Wp.cond rf (fun hb7=>?_) (fun hb7=>?_)
 ·
  obtain⟨hb7,hd⟩:=bT hb7 hd
  refine Wp.sr<|Aa.op (Ab.Bj (vs:=[(0,(.int .i64 1))]) (cs:= #[(.int .i64 1),(Ad (word (fun _=>false) 0)),(Ad (word (fun _=>false) 1)),(Ad (word (fun _=>false) 2)),(Ad (word (fun _=>false) 3)),(.slice none 0 0)]) II AH rf rf (AK rf (A8)) (by simp only[zw];rfl)) rf<|Aa.AM (i:=1) (cs':= #[(.int .i64 1),(Ad (word (fun _=>false) 0)),(Ad (word (fun _=>false) 1)),(Ad (word (fun _=>false) 2)),(Ad (word (fun _=>false) 3)),(.slice none 0 0)]) rf rf AH rf rf (Bd (Ac rf (Ac rf (Ac rf (Ac rf (Ac rf (Ac rf (An)))))))) rf ?_
  refine Aa.own (O:=_::_::_) ?_ rf
  refine Aa.Ah<|Wp.ret<|At.Au ?_
  obtain rfl:=si hd
  exact At.C_ rf (RV.CQ (i:=1) rf DJ rf AH rf rf) (fun w hs=>⟨_,_,_,rf,hl1,(hs.BW 2),⟨⟨(.slice none 0 0),rf,AL.nil⟩,rf⟩⟩)
 obtain⟨hb7,hd⟩:=bF hb7 hd
 refine Wp.skip<|At.Ae<|Wp.seq ?_
 obtain⟨x2,hx2,hd⟩:=Ag hd
 refine Wp.region<|Aa.op (Ab.move rf) rf ?_
 refine Aa.Bk (i:=0) rf fun hb8=>?_
 refine Aa.freeze (i:=0) rf fun H2 hl2 hs1=>?_
 have hv3:=AL.of (c:=C') hs1 rfl (hq1.mono hl2) hb8
 refine Aa.Fi (Bc.call Wd rf (Mx hv3 hx2)) rf ?_
 rintro _ H3 _ hl3 ⟨⟨v8,rfl,hv4⟩,rfl⟩
 refine Aa.AM (i:=0) (cs':= #[(.int .i64 x2.kind),(Ad (word x2.set 0)),(Ad (word x2.set 1)),(Ad (word x2.set 2)),(Ad (word x2.set 3)),v8]) rf rf AH rf rf (Bd (Ac rf (Ac rf (Ac rf (Ac rf (Ac rf (Ac hv4.one (An)))))))) rf ?_
 refine Aa.own (O:=_::_) ?_ rf
 refine Aa.Ah<|Wp.ret ?_
 obtain rfl:=si hd
 exact At.C_ rf (RV.CQ (i:=0) rf DJ rf AH rf rf) (fun w hs=>⟨_,_,_,rf,((hl1.trans hl2).trans hl3),(hs.BW 1),⟨⟨v8,rf,hv4⟩,rf⟩⟩)
theorem Lf{fu:Nat}{a0:Rx}{a1:List Rx}{v1 v2:Value}{xs1:List Value}{B0:Nat}{r:List Rx}(hv1:AL C' H a0.Aq v1)(hq1:Ap C' H a1 xs1)(hd:GU fu a0 a1=some r):
    Eg Tryz.prog 61 [(.agg #[(.int .i64 a0.kind),(Ad (word a0.set 0)),(Ad (word a0.set 1)),(Ad (word a0.set 2)),(Ad (word a0.set 3)),v1]),(ptr B0 0)] H (.Az B0 (.cells #[v2] 25 (0,0)):: .row v2 27 6 a1.length xs1::O) (fun v H' O'=> ∃(v1:Value) (xs2:List Value), .tuple #[]=v∧Ap C' H' r xs2∧ .Az B0 (.cells #[v1] 25 (0,0)):: .row v1 27 6 r.length xs2::O=O'):=by
 intro w hs
 refine Bo Tryz.func61 rf rf rf ?_ hs
 clear hs w
 unfold GU at hd
 refine Wp.sr<|Aa.box (cs:= #[(.int .i64 a0.kind),(Ad (word a0.set 0)),(Ad (word a0.set 1)),(Ad (word a0.set 2)),(Ad (word a0.set 3)),v1]) rf rf rf fun B2=>Aa.Ah<|Wp.seq<|Wp.sr<|Aa.op (Ab.Am (i:=1) (v:=v2) Da rf rf rf rf) rf ?_
 refine Aa.Bk (i:=2) rf fun hb1=>?_
 refine Aa.op (Ab.CW (i:=2) Da rf rf) rf<|Aa.op (Ab.move rf) rf<|Aa.Ah<|Wp.block<|Wp.Bt (fun m LL HH OO=> ∃(k1:Nat),[(1,(ptr B0 0)),(2,(ptr B2 0)),(5,v2),(6,(.int .i64 (a1.length:Int))),(7,(.int .i64 (k1:Int)))]=LL∧ .Az B2 (.cells #[(.int .i64 a0.kind),(Ad (word a0.set 0)),(Ad (word a0.set 1)),(Ad (word a0.set 2)),(Ad (word a0.set 3)),v1] 27 (0,0)):: .Az B0 (.cells #[v2] 25 (0,0)):: .row v2 27 6 a1.length xs1::O=OO∧Ax m (Ev fu a0 a1) k1=some r) fu ⟨0,rf,rf,hd⟩ (Sub.of rf) ?_
 intro m1 L1 H1 O1 hl1 hI1
 obtain⟨k1,rfl,rfl,hd⟩:=hI1
 obtain⟨m2,nx1,rfl,hn1,hd⟩:=Bm hd
 replace hd:Ev fu a0 a1 k1 nx1=some r:=hd
 unfold Ev at hd
 refine Wp.sr<|Aa.op (Ab.lss rf rf) rf<|Aa.Ah<|Wp.seq ?_
 refine Wp.cond rf (fun hb2=>?_) (fun hb2=>?_)
 ·
  obtain⟨hb2,hd⟩:=bT hb2 hd
  refine Wp.skip<|At.Ae<|Wp.seq<|Wp.block<|Wp.seq ?_
  obtain⟨x1,hx1,hd⟩:=Ag hd
  have hx1_:=Aj hx1
  refine Wp.region ?_
  obtain⟨_,hz1,hc1,hc1_⟩:=Ap.get (hq1.mono hl1) (AX hx1).2
  obtain⟨v3,rfl,hv2⟩:=CC.1 hz1
  refine Aa.op (Ab.Co (j:=2) Da AH rf rf rf (Aj hx1)) rf<|Aa.op (Ab.Nx (i:=2) (vs:=[(.int .i64 x1.kind),(Ad (word x1.set 0)),(Ad (word x1.set 1)),(Ad (word x1.set 2)),(Ad (word x1.set 3)),v3]) DJ rf AH (by simp) rf rf hc1) rf<|Aa.alloc (cs:= #[(.int .i64 0),(Ad (word (fun _=>false) 0)),(Ad (word (fun _=>false) 1)),(Ad (word (fun _=>false) 2)),(Ad (word (fun _=>false) 3)),(.slice none 0 0)]) AH (by simp only[zw];rfl) rf fun B3=>Aa.AM (i:=0) (cs':= #[(.int .i64 x1.kind),(Ad (word x1.set 0)),(Ad (word x1.set 1)),(Ad (word x1.set 2)),(Ad (word x1.set 3)),v3]) rf rf AH rf rf (Bd (Ac rf (Ac rf (Ac rf (Ac rf (Ac rf (Ac hv2.one (An)))))))) rf ?_
  refine Aa.own (O:=_::_::_::_::_) ?_ rf
  refine Aa.Ah<|Wp.seq ?_
  obtain⟨x2,hx2,hd⟩:=Ag hd
  refine Wp.region<|Aa.op (Ab.Aw (i:=1) DJ rf AH rf rf rf) rf<|Aa.op (Ab.Aw (i:=0) DJ rf AH rf rf rf) rf<|Aa.op (Ab.call Wb rf (Rq (hv1.mono hl1) hv2 hx2)) rf<|Aa.Ah ?_
  refine Wp.cond rf (fun hb3=>?_) (fun hb3=>?_)
  ·
   replace hd:=Gl hb3 hd
   refine Wp.ret<|At.A9<|At.Au<|At.Au<|At.A9<|At.Au ?_
   obtain rfl:=si hd
   exact At.Zf rf (fun w hs=>⟨_,_,_,rf,hl1,(hs.AW [2,3] 4 rf rf rf),_,_,rf,(hq1.mono hl1),rf⟩)
  replace hd:=Gm hb3 hd
  refine Wp.skip<|At.AF<|At.Ae<|Wp.region<|Aa.op (Ab.add rf rf (Av (by omega))) rf<|Aa.op (Ab.move rf) rf<|Aa.nil<|At.AW [1,2,3] 4 rf rf rf ?_
  refine At.AZ (Hp.le.refl _) ⟨(k1+1),rf,rf,(by rw[←hn1];exact hd)⟩ (Sub.of rf)
 obtain⟨hb2,hd⟩:=bF hb2 hd
 refine Wp.exit<|At.Ao<|At.Ao<|At.AB<|At.Ae ?_
 obtain⟨ha1,hd⟩:=Al hd
 obtain⟨x3,hx3,hd⟩:=Ag hd
 have hx3_:=Aj hx3
 refine Wp.Bk (i:=2) rf fun hb4=>?_
 obtain⟨_,hz2,hc2,hc2_⟩:=Ap.get (Ap.app (hq1.mono hl1) (Ap.Iy (c:=C') (a:=(Rx.mk 0 (bitsOf (0#64) (0#64) (0#64) (0#64)) ([]:List Rx))) (cs:=[(.int .i64 0),(Ad (0#64)),(Ad (0#64)),(Ad (0#64)),(Ad (0#64)),(.slice none 0 0)]) (Kb AL.nil))) (AX hx3).2
 obtain⟨v4,rfl,hv3⟩:=CC.1 hz2
 refine Wp.emp<|Af.runK 4 [⟨[2],[],[]⟩,⟨[1],[],[]⟩,⟨[3],[],[]⟩,⟨[0],[0],[3]⟩,⟨[0,3],[3],[4]⟩,⟨[3],[],[4]⟩,⟨[3],[3],[4]⟩,⟨[2],[2],[4]⟩] follows rf (by kernel_rfl)<|Af.op (val:=fun p1=>v2) rf rf (fun _=>rfl) (fun _ p1 _ hx hf hy=>Ab.Am (i:=2) (v:=v2) Da rf rf (hy 2 _ rf rf) rf) rf<|Af.op (val:=fun p1=>(.agg #[(.int .i64 a0.kind),(Ad (word a0.set 0)),(Ad (word a0.set 1)),(Ad (word a0.set 2)),(Ad (word a0.set 3)),v1])) rf rf (fun _=>rfl) (fun _ p1 _ hx hf hy=>Ab.Aw (i:=1) DJ rf AH rf rf (hy 1 _ rf rf)) rf<|Af.op (val:=fun p1=>(.int .i64 (a1.length:Int))) rf rf (fun _=>rfl) (fun _ p1 _ hx hf hy=>Ab.CW (i:=3) Da rf (hy 3 _ rf rf)) rf<|Af.Fz (res:=fun p1=> .row (p1 3) 27 6 1 [(.int .i64 0),(Ad (0#64)),(Ad (0#64)),(Ad (0#64)),(Ad (0#64)),(.slice none 0 0)]) 0 rf rf rf (fun _=>rfl) (fun _ p1 _ hx hf hy=>Bc.DM (v:=(.agg #[(.int .i64 0),(Ad (0#64)),(Ad (0#64)),(Ad (0#64)),(Ad (0#64)),(.slice none 0 0)])) (cs:=[(.int .i64 0),(Ad (0#64)),(Ad (0#64)),(Ad (0#64)),(Ad (0#64)),(.slice none 0 0)]) 0 Da AH rf rf rf rf rf (hy 0 _ rf rf)) rf (fun _=>⟨_,_,_,_,rf⟩)<|Af.Fz (res:=fun p1=> .row (p1 4) 27 6 (a1.length+1) (xs1++[(.int .i64 0),(Ad (0#64)),(Ad (0#64)),(Ad (0#64)),(Ad (0#64)),(.slice none 0 0)])) 3 rf rf rf (fun _=>rfl) (fun _ p1 _ hx hf hy=>Bc.KE 3 0 Da AH rf rf rf rf (hy 3 _ rf rf) (hy 0 _ rf rf) (Ac rf (Ac rf (Ac rf (Ac rf (Ac rf (Ac rf (An))))))) rf ha1) rf (fun _=>⟨_,_,_,_,rf⟩)<|Af.op (val:=fun p1=>(AG (p1 4) (a1.length*6))) rf rf (fun _=>rfl) (fun _ p1 _ hx hf hy=>Ab.Co (j:=3) Da AH rf (hy 3 _ rf rf) rf (by have h0:=Aj hx3;simp only[List.length_append,List.length_cons,List.length_nil]at h0;omega)) rf ?_
 refine Af.GY (res:=fun p1=> .row (p1 4) 27 6 (a1.length+1) (E' (xs1++[(.int .i64 0),(Ad (0#64)),(Ad (0#64)),(Ad (0#64)),(Ad (0#64)),(.slice none 0 0)]) (a1.length*6+0) [(.int .i64 a0.kind),(Ad (word a0.set 0)),(Ad (word a0.set 1)),(Ad (word a0.set 2)),(Ad (word a0.set 3)),v1])) 3 rf rf rf (fun _=>rfl) (fun _ p1 _ hx hf hy=>Bc.J0 (k:=a1.length*6+0) (vs:=[(.int .i64 a0.kind),(Ad (word a0.set 0)),(Ad (word a0.set 1)),(Ad (word a0.set 2)),(Ad (word a0.set 3)),v1]) rf rf rf AH rf rf (Ac rf (Ac rf (Ac rf (Ac rf (Ac rf (Ac hv1.one (An))))))) (hy 3 _ rf rf) (by have h1:_=_*6:=(hq1.mono hl1).len;have h2:=Aj hx3;simp only[List.length_append,List.length_cons,List.length_nil]at h2⊢;omega))<|Af.GY (res:=fun p1=> .Az B0 (.cells #[(p1 4)] 25 (0,0))) 2 rf rf rf (fun _=>rfl) (fun _ p1 _ hx hf hy=>Bc.P' (vs:=[(p1 4)]) rf rf (Ef (hf 4 rf rf)) XI rf (Ac (hf 4 rf rf) (An)) (hy 2 _ rf rf) rf rf)<|Af.done fun H2 p1 hl2 hF1=>At.sub (L':=[]) (Sub.of rf) ?_
 refine At.own (O:= .row (p1 3) 27 6 ([(Rx.mk 0 (bitsOf (0#64) (0#64) (0#64) (0#64)) ([]:List Rx))]:List Rx).length [(.int .i64 0),(Ad (0#64)),(Ad (0#64)),(Ad (0#64)),(Ad (0#64)),(.slice none 0 0)]:: .Az B2 (.cells #[(.int .i64 a0.kind),(Ad (word a0.set 0)),(Ad (word a0.set 1)),(Ad (word a0.set 2)),(Ad (word a0.set 3)),v1] 27 (0,0)):: .Az B0 (.cells #[(p1 4)] 25 (0,0)):: .row (p1 4) 27 6 ((a1++([(Rx.mk 0 (bitsOf (0#64) (0#64) (0#64) (0#64)) ([]:List Rx))]:List Rx)).set a1.length a0).length (E' (xs1++[(.int .i64 0),(Ad (0#64)),(Ad (0#64)),(Ad (0#64)),(Ad (0#64)),(.slice none 0 0)]) (a1.length*6+0) [(.int .i64 a0.kind),(Ad (word a0.set 0)),(Ad (word a0.set 1)),(Ad (word a0.set 2)),(Ad (word a0.set 3)),v1])::O) ?_ (by first|rfl|(simp only[List.length_append,List.length_set];rfl)|simp)
 have hq2:Ap C' H2 ((a1++([(Rx.mk 0 (bitsOf (0#64) (0#64) (0#64) (0#64)) ([]:List Rx))]:List Rx)).set a1.length a0) (E' (xs1++[(.int .i64 0),(Ad (0#64)),(Ad (0#64)),(Ad (0#64)),(Ad (0#64)),(.slice none 0 0)]) (a1.length*6+0) [(.int .i64 a0.kind),(Ad (word a0.set 0)),(Ad (word a0.set 1)),(Ad (word a0.set 2)),(Ad (word a0.set 3)),v1]):=(Ap.part (off:=0) (y:=a0) (cs:=[(.int .i64 x3.kind),(Ad (word x3.set 0)),(Ad (word x3.set 1)),(Ad (word x3.set 2)),(Ad (word x3.set 3)),v4]) (Ap.app (hq1.mono (hl1.trans hl2)) (Ap.Iy (c:=C') (a:=(Rx.mk 0 (bitsOf (0#64) (0#64) (0#64) (0#64)) ([]:List Rx))) (cs:=[(.int .i64 0),(Ad (0#64)),(Ad (0#64)),(Ad (0#64)),(Ad (0#64)),(.slice none 0 0)]) (Kb AL.nil))) (AX hx3).2 hc2_ rfl (Nat.le_of_ble_eq_true rfl) ((CC.2 ⟨_,rfl,(hv1.mono (hl1.trans hl2))⟩)))
 refine At.AW [1,2,3] 4 rf rf rf ?_
 obtain rfl:=si hd
 exact At.IH rf (fun w hs=>⟨_,_,_,rf,(hl1.trans hl2),(hs.AW [1,2] 3 rf rf rf),_,_,rf,hq2,rf⟩)
theorem Oh{fu:Nat}{a0:List Rx}{v1:Value}{r:Rx}(hv1:AL C' H a0 v1)(hd:J3 fu a0=some r):
    Eg Tryz.prog 41 [v1] H O (fun v H' O'=>(∃v2:Value,(.agg #[(.int .i64 r.kind),(Ad (word r.set 0)),(Ad (word r.set 1)),(Ad (word r.set 2)),(Ad (word r.set 3)),v2])=v∧AL C' H' r.Aq v2)∧O=O'):=by
 intro w hs
 refine Bo Tryz.func41 rf rf rf ?_ hs
 clear hs w
 unfold J3 at hd
 refine Wp.sr<|Aa.alloc (cs:= #[(.int .i64 0),(Ad (word (fun _=>false) 0)),(Ad (word (fun _=>false) 1)),(Ad (word (fun _=>false) 2)),(Ad (word (fun _=>false) 3)),(.slice none 0 0)]) AH (by simp only[zw];rfl) rf fun B2=>Aa.Ah<|Wp.sr<|Aa.alloc (cs:= #[(.slice none 0 0)]) XI rf rf fun B3=>Aa.Ah<|Wp.sr<|Aa.op (Ab.makeFunc (vf:=[]) (vc:=[(ptr B3 0)]) rf rf) rf ?_
 refine Aa.op (Ab.assign rf) rf<|Aa.Ah<|Wp.seq<|Wp.sr<|Aa.op (Ab.move rf) rf ?_
 have hb1:=hv1.le
 refine Aa.op (Ab.len Da rf hv1.sl) rf<|Aa.op (Ab.move rf) rf<|Aa.Ah<|Wp.block<|Wp.Cb 27 6<|Wp.Bt (fun m LL HH OO=> ∃(l1:List Rx),∃(k1:Nat),∃(v3:Value),∃(xs1:List Value),[(2,(ptr B2 0)),(3,(ptr B3 0)),(4,(.func (.func 61) #[] #[(ptr B3 0)])),(10,v1),(11,(.int .i64 (a0.length:Int))),(12,(.int .i64 (k1:Int)))]=LL∧ .row v3 27 6 l1.length xs1:: .Az B3 (.cells #[v3] 25 (0,0)):: .Az B2 (.cells #[(.int .i64 0),(Ad (word (fun _=>false) 0)),(Ad (word (fun _=>false) 1)),(Ad (word (fun _=>false) 2)),(Ad (word (fun _=>false) 3)),(.slice none 0 0)] 27 (0,0))::O=OO∧Ax m (fun p nx=>FP fu a0 p.1 p.2 nx) (l1,k1)=some r∧Ap C' HH l1 xs1) fu ⟨([]:List Rx),0,(.slice none 0 0),[],rf,rf,hd,(Ap.nil (c:=C') (H:=H))⟩ (Sub.of rf) ?_
 intro m1 L1 H1 O1 hl1 hI1
 obtain⟨l1,k1,v3,xs1,rfl,rfl,hd,hq1⟩:=hI1
 obtain⟨m2,nx1,rfl,hn1,hd⟩:=Bm hd
 replace hd:FP fu a0 l1 k1 nx1=some r:=hd
 unfold FP at hd
 refine Wp.sr<|Aa.op (Ab.lss rf rf) rf<|Aa.Ah<|Wp.seq ?_
 refine Wp.cond rf (fun hb2=>?_) (fun hb2=>?_)
 ·
  obtain⟨hb2,hd⟩:=bT hb2 hd
  refine Wp.skip<|At.Ae<|Wp.seq<|Wp.block<|Wp.seq ?_
  obtain⟨x1,hx1,hd⟩:=Ag hd
  have hx1_:=Aj hx1
  refine Wp.region ?_
  obtain⟨_,hz1,hc1⟩:=AL.get (hv1.mono hl1) hx1
  obtain⟨v4,rfl,hv2⟩:=CC.1 hz1
  refine Aa.op (Ab.Bz Da AH rf (hv1.mono hl1).sl rf (Aj hx1)) rf<|Aa.op (Ab.DA (vs:=[(.int .i64 x1.kind),(Ad (word x1.set 0)),(Ad (word x1.set 1)),(Ad (word x1.set 2)),(Ad (word x1.set 3)),v4]) DJ rf AH rf rf (fun j u hj=>(hc1 j u hj))) rf<|Aa.alloc (cs:= #[(.int .i64 0),(Ad (word (fun _=>false) 0)),(Ad (word (fun _=>false) 1)),(Ad (word (fun _=>false) 2)),(Ad (word (fun _=>false) 3)),(.slice none 0 0)]) AH (by simp only[zw];rfl) rf fun B4=>Aa.AM (i:=0) (cs':= #[(.int .i64 x1.kind),(Ad (word x1.set 0)),(Ad (word x1.set 1)),(Ad (word x1.set 2)),(Ad (word x1.set 3)),v4]) rf rf AH rf rf (Bd (Ac rf (Ac rf (Ac rf (Ac rf (Ac rf (Ac hv2.one (An)))))))) rf ?_
  refine Aa.own (O:=_::_::_::_::_) ?_ rf
  refine Aa.Ah<|Wp.block<|Wp.sr<|Aa.op (Ab.A6 (o':=0) CP rf rf) rf<|Aa.op (Ab.Am (i:=0) (v:=(.int .i64 x1.kind)) u3 rf rf rf rf) rf<|Aa.op (Ab.eql rf rf) rf<|Aa.op (Ab.assign rf) rf<|Aa.Ah ?_
  refine Wp.cond rf (fun hb3=>?_) (fun hb3=>?_)
  ·
   obtain⟨hb3,hd⟩:=bT hb3 hd
   refine Wp.sr<|Aa.op (Ab.A6 (o':=5) CA rf rf) rf<|Aa.op (Ab.Am (i:=0) (v:=v4) Da rf rf rf rf) rf ?_
   have hb4:=hv2.le
   refine Aa.op (Ab.len Da rf hv2.sl) rf<|Aa.op (Ab.move rf) rf<|Aa.Ah<|Wp.block<|Wp.Bt (fun m LL HH OO=> ∃(l2:List Rx),∃(k2:Nat),∃(v5:Value),∃(xs2:List Value),[(2,(ptr B2 0)),(3,(ptr B3 0)),(4,(.func (.func 61) #[] #[(ptr B3 0)])),(10,v1),(11,(.int .i64 (a0.length:Int))),(12,(.int .i64 (k1:Int))),(21,v4),(22,(.int .i64 (x1.Aq.length:Int))),(23,(.int .i64 (k2:Int)))]=LL∧ .Az B4 (.cells #[(.int .i64 x1.kind),(Ad (word x1.set 0)),(Ad (word x1.set 1)),(Ad (word x1.set 2)),(Ad (word x1.set 3)),v4] 27 (0,0)):: .row v5 27 6 l2.length xs2:: .Az B3 (.cells #[v5] 25 (0,0)):: .Az B2 (.cells #[(.int .i64 0),(Ad (word (fun _=>false) 0)),(Ad (word (fun _=>false) 1)),(Ad (word (fun _=>false) 2)),(Ad (word (fun _=>false) 3)),(.slice none 0 0)] 27 (0,0))::O=OO∧Ax m (fun p nx=>FO fu k1 nx1 x1 p.1 p.2 nx) (l2,k2)=some r∧Ap C' HH l2 xs2) fu ⟨l1,0,v3,xs1,rf,rf,hd,hq1⟩ (Sub.of rf) ?_
   intro m3 L2 H2 O2 hl2 hI2
   obtain⟨l2,k2,v5,xs2,rfl,rfl,hd,hq2⟩:=hI2
   obtain⟨m4,nx2,rfl,hn2,hd⟩:=Bm hd
   replace hd:FO fu k1 nx1 x1 l2 k2 nx2=some r:=hd
   unfold FO at hd
   refine Wp.sr<|Aa.op (Ab.lss rf rf) rf<|Aa.Ah<|Wp.seq ?_
   refine Wp.cond rf (fun hb5=>?_) (fun hb5=>?_)
   ·
    obtain⟨hb5,hd⟩:=bT hb5 hd
    refine Wp.skip<|At.Ae<|Wp.seq<|Wp.block<|Wp.seq ?_
    obtain⟨x2,hx2,hd⟩:=Ag hd
    have hx2_:=Aj hx2
    refine Wp.region ?_
    obtain⟨_,hz2,hc2⟩:=AL.get (hv2.mono hl2) hx2
    obtain⟨v6,rfl,hv3⟩:=CC.1 hz2
    refine Aa.op (Ab.Bz Da AH rf (hv2.mono hl2).sl rf (Aj hx2)) rf<|Aa.op (Ab.DA (vs:=[(.int .i64 x2.kind),(Ad (word x2.set 0)),(Ad (word x2.set 1)),(Ad (word x2.set 2)),(Ad (word x2.set 3)),v6]) DJ rf AH rf rf (fun j u hj=>(hc2 j u hj))) rf<|Aa.alloc (cs:= #[(.int .i64 0),(Ad (word (fun _=>false) 0)),(Ad (word (fun _=>false) 1)),(Ad (word (fun _=>false) 2)),(Ad (word (fun _=>false) 3)),(.slice none 0 0)]) AH (by simp only[zw];rfl) rf fun B5=>Aa.AM (i:=0) (cs':= #[(.int .i64 x2.kind),(Ad (word x2.set 0)),(Ad (word x2.set 1)),(Ad (word x2.set 2)),(Ad (word x2.set 3)),v6]) rf rf AH rf rf (Bd (Ac rf (Ac rf (Ac rf (Ac rf (Ac rf (Ac hv3.one (An)))))))) rf ?_
    refine Aa.own (O:=_::_::_::_::_::_) ?_ rf
    refine Aa.Ah ?_
    obtain⟨x3,hx3,hd⟩:=Ag hd
    refine Wp.region<|Aa.op (Ab.move rf) rf<|Aa.op (Ab.Aw (i:=0) DJ rf AH rf rf rf) rf<|Aa.AW [3,2,0,1,4] 5 rf rf rf<|Aa.Fi (Bc.Q4 (first:=[]) (caps:=[(ptr B3 0)]) Wc rf rf (Lf hv3 hq2 hx3)) rf ?_
    rintro _ H3 _ hl3 ⟨v7,xs3,rfl,hq3,rfl⟩
    refine Aa.nil<|At.AF<|At.Ae<|Wp.region<|Aa.op (Ab.add rf rf (Av (by omega))) rf<|Aa.op (Ab.move rf) rf<|Aa.nil<|At.AW [3,1,0,4] 5 rf rf rf ?_
    refine At.AZ hl3 ⟨x3,(k2+1),v7,xs3,rf,rf,(by rw[←hn2];exact hd),hq3⟩ (Sub.of rf)
   obtain⟨hb5,hd⟩:=bF hb5 hd
   refine Wp.exit<|At.Ao<|At.Ao<|At.AB<|At.AF<|At.AF<|At.Ae<|Wp.region ?_
   refine Aa.op (Ab.add rf rf (Av (by omega))) rf<|Aa.op (Ab.move rf) rf<|Aa.nil<|At.AW [1,2,3] 4 rf rf rf ?_
   refine At.AZ hl2 ⟨l2,(k1+1),v5,xs2,rf,rf,(by rw[←hn1];exact hd),hq2⟩ (Sub.of rf)
  obtain⟨hb3,hd⟩:=bF hb3 hd
  refine Wp.sr<|Aa.op (Ab.A6 (o':=0) CP rf rf) rf<|Aa.op (Ab.Am (i:=0) (v:=(.int .i64 x1.kind)) u3 rf rf rf rf) rf<|Aa.op (Ab.neq rf rf) rf<|Aa.op (Ab.assign rf) rf<|Aa.Ah ?_
  refine Wp.cond rf (fun hb6=>?_) (fun hb6=>?_)
  ·
   obtain⟨hb6,hd⟩:=bT hb6 hd
   obtain⟨x4,hx4,hd⟩:=Ag hd
   refine Wp.region<|Aa.op (Ab.move rf) rf<|Aa.op (Ab.Aw (i:=0) DJ rf AH rf rf rf) rf<|Aa.AW [2,1,0,3] 4 rf rf rf<|Aa.Fi (Bc.Q4 (first:=[]) (caps:=[(ptr B3 0)]) Wc rf rf (Lf hv2 hq1 hx4)) rf ?_
   rintro _ H4 _ hl4 ⟨v8,xs4,rfl,hq4,rfl⟩
   refine Aa.nil<|At.AF<|At.AF<|At.Ae<|Wp.region<|Aa.op (Ab.add rf rf (Av (by omega))) rf<|Aa.op (Ab.move rf) rf<|Aa.nil ?_
   refine At.AW [1,0,3] 4 rf rf rf ?_
   refine At.AZ hl4 ⟨x4,(k1+1),v8,xs4,rf,rf,(by rw[←hn1];exact hd),hq4⟩ (Sub.of rf)
  obtain⟨hb6,hd⟩:=bF hb6 hd
  refine Wp.skip<|At.AF<|At.AF<|At.Ae<|Wp.region<|Aa.op (Ab.add rf rf (Av (by omega))) rf<|Aa.op (Ab.move rf) rf<|Aa.nil ?_
  refine At.AW [1,2,3] 4 rf rf rf ?_
  refine At.AZ (Hp.le.refl _) ⟨l1,(k1+1),v3,xs1,rf,rf,(by rw[←hn1];exact hd),hq1⟩ (Sub.of rf)
 obtain⟨hb2,hd⟩:=bF hb2 hd
 refine Wp.exit<|At.Ao<|At.Ao<|At.AB<|At.Ae<|Wp.seq<|Wp.sr<|Aa.op (Ab.Am (i:=1) (v:=v3) Da rf rf rf rf) rf ?_
 refine Aa.Bk (i:=0) rf fun hb7=>?_
 refine Aa.op (Ab.CW (i:=0) Da rf rf) rf<|Aa.op (Ab.eql rf rf) rf<|Aa.Ah ?_
 refine Wp.cond rf (fun hb8=>?_) (fun hb8=>?_)
 ·
  obtain⟨hb8,hd⟩:=bT hb8 hd
  refine Wp.sr<|Aa.op (Ab.Bj (vs:=[]) (cs:= #[(.int .i64 0),(Ad (word (fun _=>false) 0)),(Ad (word (fun _=>false) 1)),(Ad (word (fun _=>false) 2)),(Ad (word (fun _=>false) 3)),(.slice none 0 0)]) II AH rf rf (A8) (by simp only[zw];rfl)) rf<|Aa.AM (i:=2) (cs':= #[(.int .i64 0),(Ad (word (fun _=>false) 0)),(Ad (word (fun _=>false) 1)),(Ad (word (fun _=>false) 2)),(Ad (word (fun _=>false) 3)),(.slice none 0 0)]) rf rf AH rf rf (Bd (Ac rf (Ac rf (Ac rf (Ac rf (Ac rf (Ac rf (An)))))))) rf ?_
  refine Aa.own (O:=_::_::_::_) ?_ rf
  refine Aa.Ah<|Wp.ret<|At.Au ?_
  obtain rfl:=si hd
  exact At.C_ rf (RV.CQ (i:=2) rf DJ rf AH rf rf) (fun w hs=>⟨_,_,_,rf,hl1,(hs.BW 3),⟨⟨(.slice none 0 0),rf,AL.nil⟩,rf⟩⟩)
 obtain⟨hb8,hd⟩:=bF hb8 hd
 refine Wp.skip<|At.Ae<|Wp.seq ?_
 obtain⟨x5,hx5,hd⟩:=Ag hd
 refine Wp.region<|Aa.op (Ab.Am (i:=1) (v:=v3) Da rf rf rf rf) rf ?_
 refine Aa.Bk (i:=0) rf fun hb9=>?_
 refine Aa.freeze (i:=0) rf fun H5 hl5 hs1=>?_
 have hv4:=AL.of (c:=C') hs1 rfl (hq1.mono hl5) hb9
 refine Aa.Fi (Bc.call Wd rf (Mx hv4 hx5)) rf ?_
 rintro _ H6 _ hl6 ⟨⟨v9,rfl,hv5⟩,rfl⟩
 refine Aa.AM (i:=1) (cs':= #[(.int .i64 x5.kind),(Ad (word x5.set 0)),(Ad (word x5.set 1)),(Ad (word x5.set 2)),(Ad (word x5.set 3)),v9]) rf rf AH rf rf (Bd (Ac rf (Ac rf (Ac rf (Ac rf (Ac rf (Ac hv5.one (An)))))))) rf ?_
 refine Aa.own (O:=_::_::_) ?_ rf
 refine Aa.Ah<|Wp.ret ?_
 obtain rfl:=si hd
 exact At.C_ rf (RV.CQ (i:=1) rf DJ rf AH rf rf) (fun w hs=>⟨_,_,_,rf,((hl1.trans hl5).trans hl6),(hs.BW 2),⟨⟨v9,rf,hv5⟩,rf⟩⟩)
theorem Og{fu:Nat} :∀ {H:Hp} {O:List A2} {a0:Rx} {a1:Int} {v1:Value} {r:Rx} (hv1:AL C' H a0.Aq v1) (hr1:0≤a1) (hr2:a1≤255) (hd:Cw fu a0 a1=some r),
    Eg Tryz.prog 23 [(.agg #[(.int .i64 a0.kind),(Ad (word a0.set 0)),(Ad (word a0.set 1)),(Ad (word a0.set 2)),(Ad (word a0.set 3)),v1]),(.int .u8 a1)] H O (fun v H' O'=>(∃v2:Value,(.agg #[(.int .i64 r.kind),(Ad (word r.set 0)),(Ad (word r.set 1)),(Ad (word r.set 2)),(Ad (word r.set 3)),v2])=v∧AL C' H' r.Aq v2)∧O=O'):=by
 induction fu with
 |zero=>intros;rename_i hd;exact absurd hd (by simp[Cw])
 |succ fu ih=>
 intro H O a0 a1 v1 r hv1 hr1 hr2 hd
 replace hd:Ca fu (Cw fu) a0 a1=some r:=hd
 generalize Cw fu=slf at hd ih
 intro w hs
 refine Bo Tryz.func23 rf rf rf ?_ hs
 clear hs w
 unfold Ca at hd
 refine Wp.sr<|Aa.box (cs:= #[(.int .i64 a0.kind),(Ad (word a0.set 0)),(Ad (word a0.set 1)),(Ad (word a0.set 2)),(Ad (word a0.set 3)),v1]) rf rf rf fun B2=>Aa.alloc (cs:= #[(.int .i64 0),(Ad (word (fun _=>false) 0)),(Ad (word (fun _=>false) 1)),(Ad (word (fun _=>false) 2)),(Ad (word (fun _=>false) 3)),(.slice none 0 0)]) AH (by simp only[zw];rfl) rf fun B3=>Aa.Ah<|Wp.seq<|Wp.sr<|Aa.op (Ab.A6 (o':=0) CP rf rf) rf<|Aa.op (Ab.Am (i:=1) (v:=(.int .i64 a0.kind)) u3 rf rf rf rf) rf ?_
 refine Aa.Ah<|Wp.block<|Wp.sr<|Aa.op (Ab.eql rf rf) rf<|Aa.op (Ab.assign rf) rf<|Aa.Ah ?_
 refine Wp.cond rf (fun hb1=>?_) (fun hb1=>?_)
 ·
  obtain⟨hb1,hd⟩:=bT hb1 hd
  refine Wp.sr<|Aa.op (Ab.A6 (o':=1) GG rf rf) rf<|Aa.op (Ab.Ga (i:=1) (vs:=[(Ad (word a0.set 0)),(Ad (word a0.set 1)),(Ad (word a0.set 2)),(Ad (word a0.set 3))]) K1 rf Bu rf rf rf) rf<|Aa.op (Ab.move rf) rf<|Aa.op (Ab.call Kv rf (@OH _ _ a0.set a1 (by omega) (by omega))) rf<|Aa.Ah ?_
  refine Wp.cond rf (fun hb2=>?_) (fun hb2=>?_)
  ·
   replace hd:=Gl hb2 hd
   refine Wp.sr<|Aa.op (Ab.Bj (vs:=[(0,(.int .i64 1))]) (cs:= #[(.int .i64 1),(Ad (word (fun _=>false) 0)),(Ad (word (fun _=>false) 1)),(Ad (word (fun _=>false) 2)),(Ad (word (fun _=>false) 3)),(.slice none 0 0)]) II AH rf rf (AK rf (A8)) (by simp only[zw];rfl)) rf<|Aa.AM (i:=0) (cs':= #[(.int .i64 1),(Ad (word (fun _=>false) 0)),(Ad (word (fun _=>false) 1)),(Ad (word (fun _=>false) 2)),(Ad (word (fun _=>false) 3)),(.slice none 0 0)]) rf rf AH rf rf (Bd (Ac rf (Ac rf (Ac rf (Ac rf (Ac rf (Ac rf (An)))))))) rf ?_
   refine Aa.own (O:=_::_::_) ?_ rf
   refine Aa.Ah<|Wp.ret<|At.A9<|At.Au ?_
   obtain rfl:=si hd
   exact At.C_ rf (RV.CQ (i:=0) rf DJ rf AH rf rf) (fun w hs=>⟨_,_,_,rf,(Hp.le.refl _),(hs.BW 2),⟨⟨(.slice none 0 0),rf,AL.nil⟩,rf⟩⟩)
  replace hd:=Gm hb2 hd
  refine Wp.skip<|At.AF<|At.Ae<|Wp.sr<|Aa.op (Ab.Bj (vs:=[]) (cs:= #[(.int .i64 0),(Ad (word (fun _=>false) 0)),(Ad (word (fun _=>false) 1)),(Ad (word (fun _=>false) 2)),(Ad (word (fun _=>false) 3)),(.slice none 0 0)]) II AH rf rf (A8) (by simp only[zw];rfl)) rf<|Aa.AM (i:=0) (cs':= #[(.int .i64 0),(Ad (word (fun _=>false) 0)),(Ad (word (fun _=>false) 1)),(Ad (word (fun _=>false) 2)),(Ad (word (fun _=>false) 3)),(.slice none 0 0)]) rf rf AH rf rf (Bd (Ac rf (Ac rf (Ac rf (Ac rf (Ac rf (Ac rf (An)))))))) rf ?_
  refine Aa.own (O:=_::_::_) ?_ rf
  refine Aa.Ah<|Wp.ret ?_
  obtain rfl:=si hd
  exact At.C_ rf (RV.CQ (i:=0) rf DJ rf AH rf rf) (fun w hs=>⟨_,_,_,rf,(Hp.le.refl _),(hs.BW 2),⟨⟨(.slice none 0 0),rf,AL.nil⟩,rf⟩⟩)
 obtain⟨hb1,hd⟩:=bF hb1 hd
 refine Wp.sr<|Aa.op (Ab.eql rf rf) rf<|Aa.op (Ab.assign rf) rf<|Aa.Ah ?_
 refine Wp.cond rf (fun hb3=>?_) (fun hb3=>?_)
 ·
  obtain⟨hb3,hd⟩:=bT hb3 hd
  refine Wp.seq ?_
  obtain⟨x1,hx1,hd⟩:=Ag hd
  have hx1_:=Aj hx1
  obtain⟨x2,hx2,hd⟩:=Ag hd
  obtain⟨x3,hx3,hd⟩:=Ag hd
  obtain⟨_,hz1,hc1⟩:=AL.get hv1 hx1
  obtain⟨v3,rfl,hv2⟩:=CC.1 hz1
  refine Af.runK 2 [Ay,⟨[1],[],[]⟩,Ay,Ay,Ay,⟨[],[],[5]⟩,⟨[1],[],[]⟩,⟨[],[],[5,7]⟩,⟨[],[],[7,8]⟩,⟨[0],[0],[8]⟩] follows rfl (by kernel_rfl)<|Af.op (val:=fun p1=>(ptr B2 5)) rfl rfl (fun _=>rfl) (fun _ p1 _ hx hf hy=>Ab.A6 (o':=5) CA rfl rfl) rfl<|Af.op (val:=fun p1=>v1) rfl rfl (fun _=>rfl) (fun _ p1 _ hx hf hy=>Ab.Am (i:=1) (v:=v1) Da rfl rfl (hy 1 _ rfl rfl) rfl) rfl<|Af.op (val:=fun p1=>(AG v1 (0*6))) rfl rfl (fun _=>rfl) (fun _ p1 _ hx hf hy=>Ab.Bz Da AH rfl (hv1.mono hx).sl rfl (Aj hx1)) rfl<|Af.op (val:=fun p1=>(.agg #[(.int .i64 x1.kind),(Ad (word x1.set 0)),(Ad (word x1.set 1)),(Ad (word x1.set 2)),(Ad (word x1.set 3)),v3])) rfl rfl (fun _=>rfl) (fun _ p1 _ hx hf hy=>Ab.DA (vs:=[(.int .i64 x1.kind),(Ad (word x1.set 0)),(Ad (word x1.set 1)),(Ad (word x1.set 2)),(Ad (word x1.set 3)),v3]) DJ rfl AH rfl rfl (fun j u hj=>((hc1 j u hj).mono hx))) rfl<|Af.op (val:=fun p1=>(.int .u8 a1)) rfl rfl (fun _=>rfl) (fun _ p1 _ hx hf hy=>Ab.move rfl) rfl<|Af.Mk (val:=fun p1=>(.agg #[(.int .i64 x2.kind),(Ad (word x2.set 0)),(Ad (word x2.set 1)),(Ad (word x2.set 2)),(Ad (word x2.set 3)),(Bl (p1 5) 5)])) (fact:=fun p1 HH=>AL C' HH x2.Aq (Bl (p1 5) 5)) rfl (fun _=>rfl) (fun _=>rfl) (fun _ _ _ hl h=>h.mono hl) (fun _ p1 _ hx hf hy=>(Bc.call OR rfl (ih (hv2.mono hx) (by omega) (by omega) hx2)).mono (by rintro v HH OO ⟨⟨v4,rfl,hv3⟩,rfl⟩;exact⟨rfl,hv3,rfl⟩)) rfl<|Af.op (val:=fun p1=>(.agg #[(.int .i64 a0.kind),(Ad (word a0.set 0)),(Ad (word a0.set 1)),(Ad (word a0.set 2)),(Ad (word a0.set 3)),v1])) rfl rfl (fun _=>rfl) (fun _ p1 _ hx hf hy=>Ab.Aw (i:=1) DJ rfl AH rfl rfl (hy 1 _ rfl rfl)) rfl ?_
  refine Af.Mk (val:=fun p1=>(p1 7)) (fact:=fun p1 HH=>AL C' HH ([x2,a0]:List Rx) (p1 7)) rfl (fun _=>rfl) (fun _=>rfl) (fun _ _ _ hl h=>h.mono hl) (fun _ p1 _ hx hf hy=>(Bc.KW (len:=2) (c:=C') (l:=([x2,a0]:List Rx)) (z:=(.agg #[.int .i64 0, .int .u64 0, .int .u64 0, .int .u64 0, .int .u64 0, .slice none 0 0])) (zs:= #[.int .i64 0, .int .u64 0, .int .u64 0, .int .u64 0, .int .u64 0, .slice none 0 0]) (vs:=[(0,(.agg #[(.int .i64 x2.kind),(Ad (word x2.set 0)),(Ad (word x2.set 1)),(Ad (word x2.set 2)),(Ad (word x2.set 3)),(Bl (p1 5) 5)])),(1,(.agg #[(.int .i64 a0.kind),(Ad (word a0.set 0)),(Ad (word a0.set 1)),(Ad (word a0.set 2)),(Ad (word a0.set 3)),v1]))]) (cs:= #[(.int .i64 x2.kind),(Ad (word x2.set 0)),(Ad (word x2.set 1)),(Ad (word x2.set 2)),(Ad (word x2.set 3)),(Bl (p1 5) 5),(.int .i64 a0.kind),(Ad (word a0.set 0)),(Ad (word a0.set 1)),(Ad (word a0.set 2)),(Ad (word a0.set 3)),v1]) Da AH rfl rfl rfl rfl (AK rfl (AK rfl (A8))) (by kernel_rfl) rfl rfl (show Ap C' _ [x2,a0] [(.int .i64 x2.kind),(Ad (word x2.set 0)),(Ad (word x2.set 1)),(Ad (word x2.set 2)),(Ad (word x2.set 3)),(Bl (p1 5) 5),(.int .i64 a0.kind),(Ad (word a0.set 0)),(Ad (word a0.set 1)),(Ad (word a0.set 2)),(Ad (word a0.set 3)),v1]from⟨[(.int .i64 x2.kind),(Ad (word x2.set 0)),(Ad (word x2.set 1)),(Ad (word x2.set 2)),(Ad (word x2.set 3)),(Bl (p1 5) 5)],_,rfl,(CC.2 ⟨_,rfl,(hf 5 rfl rfl)⟩),⟨[(.int .i64 a0.kind),(Ad (word a0.set 0)),(Ad (word a0.set 1)),(Ad (word a0.set 2)),(Ad (word a0.set 3)),v1],_,rfl,(CC.2 ⟨_,rfl,(hv1.mono hx)⟩),rfl⟩⟩)).mono (by rintro v HH OO ⟨rfl,h⟩;exact⟨rfl,h,rfl⟩)) rfl<|Af.Mk (val:=fun p1=>(.agg #[(.int .i64 x3.kind),(Ad (word x3.set 0)),(Ad (word x3.set 1)),(Ad (word x3.set 2)),(Ad (word x3.set 3)),(Bl (p1 8) 5)])) (fact:=fun p1 HH=>AL C' HH x3.Aq (Bl (p1 8) 5)) rfl (fun _=>rfl) (fun _=>rfl) (fun _ _ _ hl h=>h.mono hl) (fun _ p1 _ hx hf hy=>(Bc.call T0 rfl (Le (hf 7 rfl rfl) hx3)).mono (by rintro v HH OO ⟨⟨v5,rfl,hv4⟩,rfl⟩;exact⟨rfl,hv4,rfl⟩)) rfl<|Af.GY (res:=fun p1=> .Az B3 (.cells #[(.int .i64 x3.kind),(Ad (word x3.set 0)),(Ad (word x3.set 1)),(Ad (word x3.set 2)),(Ad (word x3.set 3)),(Bl (p1 8) 5)] 27 (0,0))) 0 rfl rfl rfl (fun _=>rfl) (fun _ p1 _ hx hf hy=>Bc.P' (vs:=[(.int .i64 x3.kind),(Ad (word x3.set 0)),(Ad (word x3.set 1)),(Ad (word x3.set 2)),(Ad (word x3.set 3)),(Bl (p1 8) 5)]) rfl rfl rfl AH rfl (Ac rfl (Ac rfl (Ac rfl (Ac rfl (Ac rfl (Ac ((hf 8 rfl rfl).one) (An))))))) (hy 0 _ rfl rfl) rfl rfl)<|Af.done fun H1 p1 hl1 hF1=>?_
  have hf1:AL C' H1 x2.Aq (Bl (p1 5) 5):=hF1 5
  have hf2:AL C' H1 ([x2,a0]:List Rx) (p1 7):=hF1 7
  have hf3:AL C' H1 x3.Aq (Bl (p1 8) 5):=hF1 8
  refine At.sub (L':=[(4,(ptr B3 0))]) (Sub.of rf) ?_
  refine At.own (O:= .Az B3 (.cells #[(.int .i64 x3.kind),(Ad (word x3.set 0)),(Ad (word x3.set 1)),(Ad (word x3.set 2)),(Ad (word x3.set 3)),(Bl (p1 8) 5)] 27 (0,0)):: .Az B2 (.cells #[(.int .i64 a0.kind),(Ad (word a0.set 0)),(Ad (word a0.set 1)),(Ad (word a0.set 2)),(Ad (word a0.set 3)),v1] 27 (0,0))::O) ?_ (by first|rfl|(simp only[List.length_append,List.length_set];rfl)|simp)
  refine At.Ae<|Wp.ret<|At.A9<|At.Au ?_
  obtain rfl:=si hd
  exact At.C_ rf (RV.CQ (i:=0) rf DJ rf AH rf rf) (fun w hs=>⟨_,_,_,rf,hl1,(hs.BW 2),⟨⟨(Bl (p1 8) 5),rf,hf3⟩,rf⟩⟩)
 obtain⟨hb3,hd⟩:=bF hb3 hd
 refine Wp.sr<|Aa.op (Ab.eql rf rf) rf<|Aa.op (Ab.assign rf) rf<|Aa.Ah ?_
 refine Wp.cond rf (fun hb4=>?_) (fun hb4=>?_)
 ·
  obtain⟨hb4,hd⟩:=bT hb4 hd
  refine Wp.sr<|Aa.op (Ab.assign rf) rf<|Aa.Ah<|Wp.seq<|Wp.sr<|Aa.op (Ab.A6 (o':=5) CA rf rf) rf<|Aa.op (Ab.Am (i:=1) (v:=v1) Da rf rf rf rf) rf ?_
  have hb5:=hv1.le
  refine Aa.op (Ab.len Da rf hv1.sl) rf<|Aa.op (Ab.move rf) rf<|Aa.Ah<|Wp.block<|Wp.Cb 27 6<|Wp.Bt (fun m LL HH OO=> ∃(l1:List Rx),∃(k1:Nat),∃(v6:Value),∃(xs1:List Value),[(1,(.int .u8 a1)),(4,(ptr B3 0)),(5,v6),(33,v1),(34,(.int .i64 (a0.Aq.length:Int))),(35,(.int .i64 (k1:Int)))]=LL∧ .row v6 27 6 l1.length xs1:: .Az B3 (.cells #[(.int .i64 0),(Ad (word (fun _=>false) 0)),(Ad (word (fun _=>false) 1)),(Ad (word (fun _=>false) 2)),(Ad (word (fun _=>false) 3)),(.slice none 0 0)] 27 (0,0)):: .Az B2 (.cells #[(.int .i64 a0.kind),(Ad (word a0.set 0)),(Ad (word a0.set 1)),(Ad (word a0.set 2)),(Ad (word a0.set 3)),v1] 27 (0,0))::O=OO∧Ax m (fun p nx=>D4 fu a0 a1 slf p.1 p.2 nx) (l1,k1)=some r∧Ap C' HH l1 xs1) fu ⟨([]:List Rx),0,(.slice none 0 0),[],rf,rf,hd,(Ap.nil (c:=C') (H:=H))⟩ (Sub.of rf) ?_
  intro m1 L1 H2 O1 hl2 hI1
  obtain⟨l1,k1,v6,xs1,rfl,rfl,hd,hq1⟩:=hI1
  obtain⟨m2,nx1,rfl,hn1,hd⟩:=Bm hd
  replace hd:D4 fu a0 a1 slf l1 k1 nx1=some r:=hd
  unfold D4 at hd
  refine Wp.sr<|Aa.op (Ab.lss rf rf) rf<|Aa.Ah<|Wp.seq ?_
  refine Wp.cond rf (fun hb6=>?_) (fun hb6=>?_)
  ·
   obtain⟨hb6,hd⟩:=bT hb6 hd
   refine Wp.skip<|At.Ae<|Wp.seq<|Wp.block<|Wp.seq ?_
   obtain⟨x4,hx4,hd⟩:=Ag hd
   have hx4_:=Aj hx4
   refine Wp.region ?_
   obtain⟨_,hz2,hc2⟩:=AL.get (hv1.mono hl2) hx4
   obtain⟨v7,rfl,hv5⟩:=CC.1 hz2
   refine Aa.op (Ab.Bz Da AH rf (hv1.mono hl2).sl rf (Aj hx4)) rf<|Aa.op (Ab.DA (vs:=[(.int .i64 x4.kind),(Ad (word x4.set 0)),(Ad (word x4.set 1)),(Ad (word x4.set 2)),(Ad (word x4.set 3)),v7]) DJ rf AH rf rf (fun j u hj=>(hc2 j u hj))) rf<|Aa.alloc (cs:= #[(.int .i64 0),(Ad (word (fun _=>false) 0)),(Ad (word (fun _=>false) 1)),(Ad (word (fun _=>false) 2)),(Ad (word (fun _=>false) 3)),(.slice none 0 0)]) AH (by simp only[zw];rfl) rf fun B4=>Aa.AM (i:=0) (cs':= #[(.int .i64 x4.kind),(Ad (word x4.set 0)),(Ad (word x4.set 1)),(Ad (word x4.set 2)),(Ad (word x4.set 3)),v7]) rf rf AH rf rf (Bd (Ac rf (Ac rf (Ac rf (Ac rf (Ac rf (Ac hv5.one (An)))))))) rf ?_
   refine Aa.own (O:=_::_::_::_::_) ?_ rf
   refine Aa.Ah ?_
   obtain⟨x5,hx5,hd⟩:=Ag hd
   obtain⟨ha1,hd⟩:=Al hd
   refine Wp.region<|Aa.op (Ab.move rf) rf<|Aa.op (Ab.Aw (i:=0) DJ rf AH rf rf rf) rf<|Aa.op (Ab.move rf) rf<|Aa.Fi (Bc.call OR rf (ih hv5 (by omega) (by omega) hx5)) rf ?_
   rintro _ H3 _ hl3 ⟨⟨v8,rfl,hv6⟩,rfl⟩
   refine Aa.Bv (c:=C') (y:=x5) (cs:=[(.int .i64 x5.kind),(Ad (word x5.set 0)),(Ad (word x5.set 1)),(Ad (word x5.set 2)),(Ad (word x5.set 3)),v8]) Da AH rf rf rf rf ((CC.2 ⟨_,rf,hv6⟩)) rf fun v9 xs2 hq2=>Aa.Hz (i:=2) (j:=0) (hq1.mono hl3) hq2 Da AH rf (by decide) rf rf rf rf (by decide) ha1 rf fun v10 xs3 hq3=>Aa.drop (i:=0)<|Aa.op (Ab.assign rf) rf<|Aa.nil<|At.AF<|At.Ae<|Wp.region ?_
   refine Aa.op (Ab.add rf rf (Av (by omega))) rf<|Aa.op (Ab.move rf) rf<|Aa.nil<|At.AW [1,2,3] 4 rf rf rf ?_
   refine At.AZ hl3 ⟨(l1++([x5]:List Rx)),(k1+1),v10,xs3,rf,rf,(by rw[←hn1];exact hd),hq3⟩ (Sub.of rf)
  obtain⟨hb6,hd⟩:=bF hb6 hd
  refine Wp.exit<|At.Ao<|At.Ao<|At.AB<|At.Ae<|Wp.seq ?_
  obtain⟨x6,hx6,hd⟩:=Ag hd
  refine Wp.region<|Aa.op (Ab.move rf) rf ?_
  refine Aa.Bk (i:=0) rf fun hb7=>?_
  refine Aa.freeze (i:=0) rf fun H4 hl4 hs1=>?_
  have hv7:=AL.of (c:=C') hs1 rfl (hq1.mono hl4) hb7
  refine Aa.Fi (Bc.call Wg rf (Oh hv7 hx6)) rf ?_
  rintro _ H5 _ hl5 ⟨⟨v11,rfl,hv8⟩,rfl⟩
  refine Aa.AM (i:=0) (cs':= #[(.int .i64 x6.kind),(Ad (word x6.set 0)),(Ad (word x6.set 1)),(Ad (word x6.set 2)),(Ad (word x6.set 3)),v11]) rf rf AH rf rf (Bd (Ac rf (Ac rf (Ac rf (Ac rf (Ac rf (Ac hv8.one (An)))))))) rf ?_
  refine Aa.own (O:=_::_::_) ?_ rf
  refine Aa.Ah<|Wp.ret<|At.A9<|At.Au ?_
  obtain rfl:=si hd
  exact At.C_ rf (RV.CQ (i:=0) rf DJ rf AH rf rf) (fun w hs=>⟨_,_,_,rf,((hl2.trans hl4).trans hl5),(hs.BW 2),⟨⟨v11,rf,hv8⟩,rf⟩⟩)
 obtain⟨hb4,hd⟩:=bF hb4 hd
 refine Wp.sr<|Aa.op (Ab.eql rf rf) rf<|Aa.op (Ab.assign rf) rf<|Aa.Ah ?_
 refine Wp.cond rf (fun hb8=>?_) (fun hb8=>?_)
 ·
  obtain⟨hb8,hd⟩:=bT hb8 hd
  refine Wp.seq ?_
  obtain⟨ha2,hd⟩:=Al hd
  obtain⟨x7,hx7,hd⟩:=Ag hd
  refine Wp.region<|Aa.op (Ab.A6 (o':=5) CA rf rf) rf<|Aa.op (Ab.Am (i:=1) (v:=v1) Da rf rf rf rf) rf<|Aa.op (Ab.Zr (c:=C') (l:=a0.Aq) (a:=1) (b:=(a0.Aq.length:Int)) Da AH rf hv1 ⟨.inr ⟨_,_,rf,rf⟩, .inl ⟨rf,rf⟩⟩ ha2.1 ha2.2.1 ha2.2.2) rf<|Aa.Fi (Bc.call T0 rf (Le (AL.cut (c:=C') hv1 ha2.1 ha2.2.1 ha2.2.2) hx7)) rf ?_
  rintro _ H6 _ hl6 ⟨⟨v12,rfl,hv9⟩,rfl⟩
  refine Aa.alloc (cs:= #[(.int .i64 0),(Ad (word (fun _=>false) 0)),(Ad (word (fun _=>false) 1)),(Ad (word (fun _=>false) 2)),(Ad (word (fun _=>false) 3)),(.slice none 0 0)]) AH (by simp only[zw];rfl) rf fun B5=>Aa.AM (i:=0) (cs':= #[(.int .i64 x7.kind),(Ad (word x7.set 0)),(Ad (word x7.set 1)),(Ad (word x7.set 2)),(Ad (word x7.set 3)),v12]) rf rf AH rf rf (Bd (Ac rf (Ac rf (Ac rf (Ac rf (Ac rf (Ac hv9.one (An)))))))) rf ?_
  refine Aa.own (O:=_::_::_::_) ?_ rf
  refine Aa.Ah<|Wp.seq ?_
  obtain⟨x8,hx8,hd⟩:=Ag hd
  have hx8_:=Aj hx8
  obtain⟨x9,hx9,hd⟩:=Ag hd
  obtain⟨x10,hx10,hd⟩:=Ag hd
  obtain⟨_,hz3,hc3⟩:=AL.get (hv1.mono hl6) hx8
  obtain⟨v13,rfl,hv10⟩:=CC.1 hz3
  refine Wp.emp<|Af.runK 4 [Ay,⟨[3],[],[]⟩,Ay,Ay,Ay,⟨[],[],[5]⟩,⟨[1],[],[]⟩,⟨[],[],[5,7]⟩,⟨[],[],[7,8]⟩,⟨[0],[0],[9]⟩,⟨[0],[0],[8,9]⟩] follows rfl (by kernel_rfl)<|Af.op (val:=fun p2=>(ptr B2 5)) rfl rfl (fun _=>rfl) (fun _ p2 _ hx hf hy=>Ab.A6 (o':=5) CA rfl rfl) rfl<|Af.op (val:=fun p2=>v1) rfl rfl (fun _=>rfl) (fun _ p2 _ hx hf hy=>Ab.Am (i:=3) (v:=v1) Da rfl rfl (hy 3 _ rfl rfl) rfl) rfl<|Af.op (val:=fun p2=>(AG v1 (0*6))) rfl rfl (fun _=>rfl) (fun _ p2 _ hx hf hy=>Ab.Bz Da AH rfl (hv1.mono (hl6.trans hx)).sl rfl (Aj hx8)) rfl<|Af.op (val:=fun p2=>(.agg #[(.int .i64 x8.kind),(Ad (word x8.set 0)),(Ad (word x8.set 1)),(Ad (word x8.set 2)),(Ad (word x8.set 3)),v13])) rfl rfl (fun _=>rfl) (fun _ p2 _ hx hf hy=>Ab.DA (vs:=[(.int .i64 x8.kind),(Ad (word x8.set 0)),(Ad (word x8.set 1)),(Ad (word x8.set 2)),(Ad (word x8.set 3)),v13]) DJ rfl AH rfl rfl (fun j u hj=>((hc3 j u hj).mono hx))) rfl<|Af.op (val:=fun p2=>(.int .u8 a1)) rfl rfl (fun _=>rfl) (fun _ p2 _ hx hf hy=>Ab.move rfl) rfl<|Af.Mk (val:=fun p2=>(.agg #[(.int .i64 x9.kind),(Ad (word x9.set 0)),(Ad (word x9.set 1)),(Ad (word x9.set 2)),(Ad (word x9.set 3)),(Bl (p2 5) 5)])) (fact:=fun p2 HH=>AL C' HH x9.Aq (Bl (p2 5) 5)) rfl (fun _=>rfl) (fun _=>rfl) (fun _ _ _ hl h=>h.mono hl) (fun _ p2 _ hx hf hy=>(Bc.call OR rfl (ih (hv10.mono hx) (by omega) (by omega) hx9)).mono (by rintro v HH OO ⟨⟨v14,rfl,hv11⟩,rfl⟩;exact⟨rfl,hv11,rfl⟩)) rfl ?_
  refine Af.op (val:=fun p2=>(.agg #[(.int .i64 x7.kind),(Ad (word x7.set 0)),(Ad (word x7.set 1)),(Ad (word x7.set 2)),(Ad (word x7.set 3)),v12])) rfl rfl (fun _=>rfl) (fun _ p2 _ hx hf hy=>Ab.Aw (i:=1) DJ rfl AH rfl rfl (hy 1 _ rfl rfl)) rfl<|Af.Mk (val:=fun p2=>(p2 7)) (fact:=fun p2 HH=>AL C' HH ([x9,x7]:List Rx) (p2 7)) rfl (fun _=>rfl) (fun _=>rfl) (fun _ _ _ hl h=>h.mono hl) (fun _ p2 _ hx hf hy=>(Bc.KW (len:=2) (c:=C') (l:=([x9,x7]:List Rx)) (z:=(.agg #[.int .i64 0, .int .u64 0, .int .u64 0, .int .u64 0, .int .u64 0, .slice none 0 0])) (zs:= #[.int .i64 0, .int .u64 0, .int .u64 0, .int .u64 0, .int .u64 0, .slice none 0 0]) (vs:=[(0,(.agg #[(.int .i64 x9.kind),(Ad (word x9.set 0)),(Ad (word x9.set 1)),(Ad (word x9.set 2)),(Ad (word x9.set 3)),(Bl (p2 5) 5)])),(1,(.agg #[(.int .i64 x7.kind),(Ad (word x7.set 0)),(Ad (word x7.set 1)),(Ad (word x7.set 2)),(Ad (word x7.set 3)),v12]))]) (cs:= #[(.int .i64 x9.kind),(Ad (word x9.set 0)),(Ad (word x9.set 1)),(Ad (word x9.set 2)),(Ad (word x9.set 3)),(Bl (p2 5) 5),(.int .i64 x7.kind),(Ad (word x7.set 0)),(Ad (word x7.set 1)),(Ad (word x7.set 2)),(Ad (word x7.set 3)),v12]) Da AH rfl rfl rfl rfl (AK rfl (AK rfl (A8))) (by kernel_rfl) rfl rfl (show Ap C' _ [x9,x7] [(.int .i64 x9.kind),(Ad (word x9.set 0)),(Ad (word x9.set 1)),(Ad (word x9.set 2)),(Ad (word x9.set 3)),(Bl (p2 5) 5),(.int .i64 x7.kind),(Ad (word x7.set 0)),(Ad (word x7.set 1)),(Ad (word x7.set 2)),(Ad (word x7.set 3)),v12]from⟨[(.int .i64 x9.kind),(Ad (word x9.set 0)),(Ad (word x9.set 1)),(Ad (word x9.set 2)),(Ad (word x9.set 3)),(Bl (p2 5) 5)],_,rfl,(CC.2 ⟨_,rfl,(hf 5 rfl rfl)⟩),⟨[(.int .i64 x7.kind),(Ad (word x7.set 0)),(Ad (word x7.set 1)),(Ad (word x7.set 2)),(Ad (word x7.set 3)),v12],_,rfl,(CC.2 ⟨_,rfl,(hv9.mono hx)⟩),rfl⟩⟩)).mono (by rintro v HH OO ⟨rfl,h⟩;exact⟨rfl,h,rfl⟩)) rfl<|Af.Mk (val:=fun p2=>(.agg #[(.int .i64 x10.kind),(Ad (word x10.set 0)),(Ad (word x10.set 1)),(Ad (word x10.set 2)),(Ad (word x10.set 3)),(Bl (p2 8) 5)])) (fact:=fun p2 HH=>AL C' HH x10.Aq (Bl (p2 8) 5)) rfl (fun _=>rfl) (fun _=>rfl) (fun _ _ _ hl h=>h.mono hl) (fun _ p2 _ hx hf hy=>(Bc.call T0 rfl (Le (hf 7 rfl rfl) hx10)).mono (by rintro v HH OO ⟨⟨v15,rfl,hv12⟩,rfl⟩;exact⟨rfl,hv12,rfl⟩)) rfl<|Af.Xy (val:=fun p2=>ptr (Bh (p2 9)) 0) (res:=fun p2=> .Az (Bh (p2 9)) (.cells #[(.int .i64 0),(Ad (word (fun _=>false) 0)),(Ad (word (fun _=>false) 1)),(Ad (word (fun _=>false) 2)),(Ad (word (fun _=>false) 3)),(.slice none 0 0)] 27 (0,0))) 0 rfl rfl (fun _=>rfl) (fun _=>rfl) (fun _ p2 _ hx hf hy=>Bc.Mb 0 AH (by simp only[zw];rfl) (hy 0 _ rfl rfl)) rfl<|Af.GY (res:=fun p2=> .Az (Bh (p2 9)) (.cells #[(.int .i64 x10.kind),(Ad (word x10.set 0)),(Ad (word x10.set 1)),(Ad (word x10.set 2)),(Ad (word x10.set 3)),(Bl (p2 8) 5)] 27 (0,0))) 0 rfl rfl rfl (fun _=>rfl) (fun _ p2 _ hx hf hy=>Bc.P' (vs:=[(.int .i64 x10.kind),(Ad (word x10.set 0)),(Ad (word x10.set 1)),(Ad (word x10.set 2)),(Ad (word x10.set 3)),(Bl (p2 8) 5)]) rfl rfl rfl AH rfl (Ac rfl (Ac rfl (Ac rfl (Ac rfl (Ac rfl (Ac ((hf 8 rfl rfl).one) (An))))))) (hy 0 _ rfl rfl) rfl rfl)<|Af.done fun H7 p2 hl7 hF2=>?_
  have hf4:AL C' H7 x9.Aq (Bl (p2 5) 5):=hF2 5
  have hf5:AL C' H7 ([x9,x7]:List Rx) (p2 7):=hF2 7
  have hf6:AL C' H7 x10.Aq (Bl (p2 8) 5):=hF2 8
  refine At.sub (L':=[(1,(.int .u8 a1)),(2,(ptr B2 0)),(4,(ptr B3 0)),(8,(ptr B5 0)),(9,(ptr (Bh (p2 9)) 0))]) (Sub.of rf) ?_
  refine At.own (O:= .Az (Bh (p2 9)) (.cells #[(.int .i64 x10.kind),(Ad (word x10.set 0)),(Ad (word x10.set 1)),(Ad (word x10.set 2)),(Ad (word x10.set 3)),(Bl (p2 8) 5)] 27 (0,0)):: .Az B5 (.cells #[(.int .i64 x7.kind),(Ad (word x7.set 0)),(Ad (word x7.set 1)),(Ad (word x7.set 2)),(Ad (word x7.set 3)),v12] 27 (0,0)):: .Az B3 (.cells #[(.int .i64 0),(Ad (word (fun _=>false) 0)),(Ad (word (fun _=>false) 1)),(Ad (word (fun _=>false) 2)),(Ad (word (fun _=>false) 3)),(.slice none 0 0)] 27 (0,0)):: .Az B2 (.cells #[(.int .i64 a0.kind),(Ad (word a0.set 0)),(Ad (word a0.set 1)),(Ad (word a0.set 2)),(Ad (word a0.set 3)),v1] 27 (0,0))::O) ?_ (by first|rfl|(simp only[List.length_append,List.length_set];rfl)|simp)
  refine At.Ae<|Wp.seq<|Wp.seq ?_
  obtain⟨x11,hx11,hd⟩:=Ag hd
  have hx11_:=Aj hx11
  obtain⟨x12,hx12,hd⟩:=Ag hd
  refine Wp.region<|Aa.op (Ab.A6 (o':=5) CA rf rf) rf<|Aa.op (Ab.Am (i:=3) (v:=v1) Da rf rf rf rf) rf ?_
  obtain⟨_,hz4,hc4⟩:=AL.get (hv1.mono (hl6.trans hl7)) hx11
  obtain⟨v16,rfl,hv13⟩:=CC.1 hz4
  refine Aa.op (Ab.Bz Da AH rf (hv1.mono (hl6.trans hl7)).sl rf (Aj hx11)) rf<|Aa.op (Ab.DA (vs:=[(.int .i64 x11.kind),(Ad (word x11.set 0)),(Ad (word x11.set 1)),(Ad (word x11.set 2)),(Ad (word x11.set 3)),v16]) DJ rf AH rf rf (fun j u hj=>(hc4 j u hj))) rf<|Aa.op (Ab.call QS rf (IG hv13 hx12)) rf<|Aa.Ah ?_
  refine Wp.cond rf (fun hb9=>?_) (fun hb9=>?_)
  ·
   replace hd:=Gl hb9 hd
   refine Wp.seq ?_
   obtain⟨x13,hx13,hd⟩:=Ag hd
   obtain⟨x14,hx14,hd⟩:=Ag hd
   refine Af.runK 4 [⟨[0],[],[]⟩,⟨[1],[],[]⟩,Ay,⟨[],[],[3]⟩,⟨[],[],[3,4]⟩,⟨[],[],[4,5]⟩,⟨[2],[2],[5]⟩] follows rfl (by kernel_rfl)<|Af.op (val:=fun p3=>(.agg #[(.int .i64 x10.kind),(Ad (word x10.set 0)),(Ad (word x10.set 1)),(Ad (word x10.set 2)),(Ad (word x10.set 3)),(Bl (p2 8) 5)])) rfl rfl (fun _=>rfl) (fun _ p3 _ hx hf hy=>Ab.Aw (i:=0) DJ rfl AH rfl rfl (hy 0 _ rfl rfl)) rfl<|Af.op (val:=fun p3=>(.agg #[(.int .i64 x7.kind),(Ad (word x7.set 0)),(Ad (word x7.set 1)),(Ad (word x7.set 2)),(Ad (word x7.set 3)),v12])) rfl rfl (fun _=>rfl) (fun _ p3 _ hx hf hy=>Ab.Aw (i:=1) DJ rfl AH rfl rfl (hy 1 _ rfl rfl)) rfl<|Af.op (val:=fun p3=>(.int .u8 a1)) rfl rfl (fun _=>rfl) (fun _ p3 _ hx hf hy=>Ab.move rfl) rfl<|Af.Mk (val:=fun p3=>(.agg #[(.int .i64 x13.kind),(Ad (word x13.set 0)),(Ad (word x13.set 1)),(Ad (word x13.set 2)),(Ad (word x13.set 3)),(Bl (p3 3) 5)])) (fact:=fun p3 HH=>AL C' HH x13.Aq (Bl (p3 3) 5)) rfl (fun _=>rfl) (fun _=>rfl) (fun _ _ _ hl h=>h.mono hl) (fun _ p3 _ hx hf hy=>(Bc.call OR rfl (ih (hv9.mono (hl7.trans hx)) (by omega) (by omega) hx13)).mono (by rintro v HH OO ⟨⟨v17,rfl,hv14⟩,rfl⟩;exact⟨rfl,hv14,rfl⟩)) rfl<|Af.Mk (val:=fun p3=>(p3 4)) (fact:=fun p3 HH=>AL C' HH ([x10,x13]:List Rx) (p3 4)) rfl (fun _=>rfl) (fun _=>rfl) (fun _ _ _ hl h=>h.mono hl) (fun _ p3 _ hx hf hy=>(Bc.KW (len:=2) (c:=C') (l:=([x10,x13]:List Rx)) (z:=(.agg #[.int .i64 0, .int .u64 0, .int .u64 0, .int .u64 0, .int .u64 0, .slice none 0 0])) (zs:= #[.int .i64 0, .int .u64 0, .int .u64 0, .int .u64 0, .int .u64 0, .slice none 0 0]) (vs:=[(0,(.agg #[(.int .i64 x10.kind),(Ad (word x10.set 0)),(Ad (word x10.set 1)),(Ad (word x10.set 2)),(Ad (word x10.set 3)),(Bl (p2 8) 5)])),(1,(.agg #[(.int .i64 x13.kind),(Ad (word x13.set 0)),(Ad (word x13.set 1)),(Ad (word x13.set 2)),(Ad (word x13.set 3)),(Bl (p3 3) 5)]))]) (cs:= #[(.int .i64 x10.kind),(Ad (word x10.set 0)),(Ad (word x10.set 1)),(Ad (word x10.set 2)),(Ad (word x10.set 3)),(Bl (p2 8) 5),(.int .i64 x13.kind),(Ad (word x13.set 0)),(Ad (word x13.set 1)),(Ad (word x13.set 2)),(Ad (word x13.set 3)),(Bl (p3 3) 5)]) Da AH rfl rfl rfl rfl (AK rfl (AK rfl (A8))) (by kernel_rfl) rfl rfl (show Ap C' _ [x10,x13] [(.int .i64 x10.kind),(Ad (word x10.set 0)),(Ad (word x10.set 1)),(Ad (word x10.set 2)),(Ad (word x10.set 3)),(Bl (p2 8) 5),(.int .i64 x13.kind),(Ad (word x13.set 0)),(Ad (word x13.set 1)),(Ad (word x13.set 2)),(Ad (word x13.set 3)),(Bl (p3 3) 5)]from⟨[(.int .i64 x10.kind),(Ad (word x10.set 0)),(Ad (word x10.set 1)),(Ad (word x10.set 2)),(Ad (word x10.set 3)),(Bl (p2 8) 5)],_,rfl,(CC.2 ⟨_,rfl,(hf6.mono hx)⟩),⟨[(.int .i64 x13.kind),(Ad (word x13.set 0)),(Ad (word x13.set 1)),(Ad (word x13.set 2)),(Ad (word x13.set 3)),(Bl (p3 3) 5)],_,rfl,(CC.2 ⟨_,rfl,(hf 3 rfl rfl)⟩),rfl⟩⟩)).mono (by rintro v HH OO ⟨rfl,h⟩;exact⟨rfl,h,rfl⟩)) rfl<|Af.Mk (val:=fun p3=>(.agg #[(.int .i64 x14.kind),(Ad (word x14.set 0)),(Ad (word x14.set 1)),(Ad (word x14.set 2)),(Ad (word x14.set 3)),(Bl (p3 5) 5)])) (fact:=fun p3 HH=>AL C' HH x14.Aq (Bl (p3 5) 5)) rfl (fun _=>rfl) (fun _=>rfl) (fun _ _ _ hl h=>h.mono hl) (fun _ p3 _ hx hf hy=>(Bc.call Wg rfl (Oh (hf 4 rfl rfl) hx14)).mono (by rintro v HH OO ⟨⟨v18,rfl,hv15⟩,rfl⟩;exact⟨rfl,hv15,rfl⟩)) rfl<|Af.GY (res:=fun p3=> .Az B3 (.cells #[(.int .i64 x14.kind),(Ad (word x14.set 0)),(Ad (word x14.set 1)),(Ad (word x14.set 2)),(Ad (word x14.set 3)),(Bl (p3 5) 5)] 27 (0,0))) 2 rfl rfl rfl (fun _=>rfl) (fun _ p3 _ hx hf hy=>Bc.P' (vs:=[(.int .i64 x14.kind),(Ad (word x14.set 0)),(Ad (word x14.set 1)),(Ad (word x14.set 2)),(Ad (word x14.set 3)),(Bl (p3 5) 5)]) rfl rfl rfl AH rfl (Ac rfl (Ac rfl (Ac rfl (Ac rfl (Ac rfl (Ac ((hf 5 rfl rfl).one) (An))))))) (hy 2 _ rfl rfl) rfl rfl) ?_
   refine Af.done fun H8 p3 hl8 hF3=>?_
   have hf7:AL C' H8 x13.Aq (Bl (p3 3) 5):=hF3 3
   have hf8:AL C' H8 ([x10,x13]:List Rx) (p3 4):=hF3 4
   have hf9:AL C' H8 x14.Aq (Bl (p3 5) 5):=hF3 5
   refine At.sub (L':=[(4,(ptr B3 0))]) (Sub.of rf) ?_
   refine At.own (O:= .Az (Bh (p2 9)) (.cells #[(.int .i64 x10.kind),(Ad (word x10.set 0)),(Ad (word x10.set 1)),(Ad (word x10.set 2)),(Ad (word x10.set 3)),(Bl (p2 8) 5)] 27 (0,0)):: .Az B5 (.cells #[(.int .i64 x7.kind),(Ad (word x7.set 0)),(Ad (word x7.set 1)),(Ad (word x7.set 2)),(Ad (word x7.set 3)),v12] 27 (0,0)):: .Az B3 (.cells #[(.int .i64 x14.kind),(Ad (word x14.set 0)),(Ad (word x14.set 1)),(Ad (word x14.set 2)),(Ad (word x14.set 3)),(Bl (p3 5) 5)] 27 (0,0)):: .Az B2 (.cells #[(.int .i64 a0.kind),(Ad (word a0.set 0)),(Ad (word a0.set 1)),(Ad (word a0.set 2)),(Ad (word a0.set 3)),v1] 27 (0,0))::O) ?_ (by first|rfl|(simp only[List.length_append,List.length_set];rfl)|simp)
   refine At.Ae<|Wp.ret<|At.Au<|At.A9<|At.Au ?_
   obtain rfl:=si hd
   exact At.C_ rf (RV.CQ (i:=2) rf DJ rf AH rf rf) (fun w hs=>⟨_,_,_,rf,((hl6.trans hl7).trans hl8),(hs.BW 4),⟨⟨(Bl (p3 5) 5),rf,hf9⟩,rf⟩⟩)
  replace hd:=Gm hb9 hd
  refine Wp.skip<|At.Ae<|Wp.sr<|Aa.op (Ab.Aw (i:=0) DJ rf AH rf rf rf) rf<|Aa.AM (i:=2) (cs':= #[(.int .i64 x10.kind),(Ad (word x10.set 0)),(Ad (word x10.set 1)),(Ad (word x10.set 2)),(Ad (word x10.set 3)),(Bl (p2 8) 5)]) rf rf AH rf rf (Bd (Ac rf (Ac rf (Ac rf (Ac rf (Ac rf (Ac hf6.one (An)))))))) rf ?_
  refine Aa.own (O:=_::_::_::_::_) ?_ rf
  refine Aa.Ah<|Wp.ret<|At.A9<|At.Au ?_
  obtain rfl:=si hd
  exact At.C_ rf (RV.CQ (i:=2) rf DJ rf AH rf rf) (fun w hs=>⟨_,_,_,rf,(hl6.trans hl7),(hs.BW 4),⟨⟨(Bl (p2 8) 5),rf,hf6⟩,rf⟩⟩)
 obtain⟨hb8,hd⟩:=bF hb8 hd
 refine Wp.skip<|At.AF<|At.Ae<|Wp.sr<|Aa.op (Ab.Bj (vs:=[]) (cs:= #[(.int .i64 0),(Ad (word (fun _=>false) 0)),(Ad (word (fun _=>false) 1)),(Ad (word (fun _=>false) 2)),(Ad (word (fun _=>false) 3)),(.slice none 0 0)]) II AH rf rf (A8) (by simp only[zw];rfl)) rf<|Aa.AM (i:=0) (cs':= #[(.int .i64 0),(Ad (word (fun _=>false) 0)),(Ad (word (fun _=>false) 1)),(Ad (word (fun _=>false) 2)),(Ad (word (fun _=>false) 3)),(.slice none 0 0)]) rf rf AH rf rf (Bd (Ac rf (Ac rf (Ac rf (Ac rf (Ac rf (Ac rf (An)))))))) rf ?_
 refine Aa.own (O:=_::_::_) ?_ rf
 refine Aa.Ah<|Wp.ret ?_
 obtain rfl:=si hd
 exact At.C_ rf (RV.CQ (i:=0) rf DJ rf AH rf rf) (fun w hs=>⟨_,_,_,rf,(Hp.le.refl _),(hs.BW 2),⟨⟨(.slice none 0 0),rf,AL.nil⟩,rf⟩⟩)
theorem IZ{fu:Nat}{a0:Rx}{a1:BF}{v1:Value}{r:Bool}(hv1:AL C' H a0.Aq v1)(hd:F0 fu a0 a1=some r):
   CB Tryz.prog 9 [(.agg #[(.int .i64 a0.kind),(Ad (word a0.set 0)),(Ad (word a0.set 1)),(Ad (word a0.set 2)),(Ad (word a0.set 3)),v1]),(sv a1)] H O (.bool r):=by
 intro w hs
 refine Bo Tryz.func9 rf rf rf ?_ hs
 clear hs w
 unfold F0 at hd
 refine Wp.sr<|Aa.box (cs:= #[(.int .i64 a0.kind),(Ad (word a0.set 0)),(Ad (word a0.set 1)),(Ad (word a0.set 2)),(Ad (word a0.set 3)),v1]) rf rf rf fun B2=>Aa.op (Ab.assign rf) rf<|Aa.Ah<|Wp.seq<|Wp.seq ?_
 obtain⟨x1,hx1,hd⟩:=Ag hd
 refine Wp.region<|Aa.op (Ab.Aw (i:=0) DJ rf AH rf rf rf) rf<|Aa.op (Ab.call OQ rf (DV hv1 hx1)) rf<|Aa.op (Ab.neq rf rf) rf<|Aa.Ah ?_
 refine Wp.cond rf (fun hb1=>?_) (fun hb1=>?_)
 ·
  obtain⟨hb1,hd⟩:=bT hb1 hd
  refine Wp.sr<|Aa.op (Ab.assign rf) rf<|Aa.Ah<|Wp.ret<|At.Au ?_
  obtain rfl:=si hd
  exact At.q1 1 (Hp.le.refl _) rf (RV.tmp rf) rf
 obtain⟨hb1,hd⟩:=bF hb1 hd
 refine Wp.skip<|At.Ae<|Wp.seq<|Wp.sr<|Aa.op (Ab.move rf) rf<|Aa.op (Ab.Tu u9 rf) rf<|Aa.op (Ab.move rf) rf<|Aa.Ah ?_
 refine Wp.block<|Wp.Bt (fun m LL HH OO=> ∃(x2:Rx),∃(i1:Int),∃(v2:Value),[(1,(sv a1)),(2,(ptr B2 0)),(10,(.int .i64 (a1.length:Int))),(11,(.int .i64 i1))]=LL∧ .Az B2 (.cells #[(.int .i64 x2.kind),(Ad (word x2.set 0)),(Ad (word x2.set 1)),(Ad (word x2.set 2)),(Ad (word x2.set 3)),v2] 27 (0,0))::O=OO∧Ax m (fun p nx=>Fh fu a1 p.1 p.2 nx) (x2,i1)=some r∧AL C' HH x2.Aq v2) fu ⟨a0,0,v1,rf,rf,hd,hv1⟩ (Sub.of rf) ?_
 intro m1 L1 H1 O1 hl1 hI1
 obtain⟨x2,i1,v2,rfl,rfl,hd,hv2⟩:=hI1
 obtain⟨m2,nx1,rfl,hn1,hd⟩:=Bm hd
 replace hd:Fh fu a1 x2 i1 nx1=some r:=hd
 unfold Fh at hd
 refine Wp.sr<|Aa.op (Ab.lss rf rf) rf<|Aa.Ah<|Wp.seq ?_
 refine Wp.cond rf (fun hb2=>?_) (fun hb2=>?_)
 ·
  obtain⟨hb2,hd⟩:=bT hb2 hd
  refine Wp.skip<|At.Ae<|Wp.seq<|Wp.block<|Wp.sr<|Aa.op (Ab.move rf) rf<|Aa.op (Ab.assign rf) rf<|Aa.Ah ?_
  obtain⟨x3,hx2,hd⟩:=Ag hd
  have hx2_:=JB hx2
  obtain⟨x4,hx3,hd⟩:=Ag hd
  refine Af.runK 1 [⟨[0],[],[]⟩,Ay,Ay,Ay,⟨[],[],[4]⟩,⟨[0],[0],[4]⟩] follows rfl (by kernel_rfl)<|Af.op (val:=fun p1=>(.agg #[(.int .i64 x2.kind),(Ad (word x2.set 0)),(Ad (word x2.set 1)),(Ad (word x2.set 2)),(Ad (word x2.set 3)),v2])) rfl rfl (fun _=>rfl) (fun _ p1 _ hx hf hy=>Ab.Aw (i:=0) DJ rfl AH rfl rfl (hy 0 _ rfl rfl)) rfl<|Af.op (val:=fun p1=>(sv a1)) rfl rfl (fun _=>rfl) (fun _ p1 _ hx hf hy=>Ab.move rfl) rfl<|Af.op (val:=fun p1=>(.int .i64 i1)) rfl rfl (fun _=>rfl) (fun _ p1 _ hx hf hy=>Ab.move rfl) rfl<|Af.op (val:=fun p1=>(.int .u8 x3)) rfl rfl (fun _=>rfl) (fun _ p1 _ hx hf hy=>Ab.MU u9 rfl rfl hx2) rfl<|Af.Mk (val:=fun p1=>(.agg #[(.int .i64 x4.kind),(Ad (word x4.set 0)),(Ad (word x4.set 1)),(Ad (word x4.set 2)),(Ad (word x4.set 3)),(Bl (p1 4) 5)])) (fact:=fun p1 HH=>AL C' HH x4.Aq (Bl (p1 4) 5)) rfl (fun _=>rfl) (fun _=>rfl) (fun _ _ _ hl h=>h.mono hl) (fun _ p1 _ hx hf hy=>(Bc.call OR rfl (Og (hv2.mono hx) (by omega) (by omega) hx3)).mono (by rintro v HH OO ⟨⟨v3,rfl,hv3⟩,rfl⟩;exact⟨rfl,hv3,rfl⟩)) rfl<|Af.GY (res:=fun p1=> .Az B2 (.cells #[(.int .i64 x4.kind),(Ad (word x4.set 0)),(Ad (word x4.set 1)),(Ad (word x4.set 2)),(Ad (word x4.set 3)),(Bl (p1 4) 5)] 27 (0,0))) 0 rfl rfl rfl (fun _=>rfl) (fun _ p1 _ hx hf hy=>Bc.P' (vs:=[(.int .i64 x4.kind),(Ad (word x4.set 0)),(Ad (word x4.set 1)),(Ad (word x4.set 2)),(Ad (word x4.set 3)),(Bl (p1 4) 5)]) rfl rfl rfl AH rfl (Ac rfl (Ac rfl (Ac rfl (Ac rfl (Ac rfl (Ac ((hf 4 rfl rfl).one) (An))))))) (hy 0 _ rfl rfl) rfl rfl)<|Af.done fun H2 p1 hl2 hF1=>?_
  have hf1:AL C' H2 x4.Aq (Bl (p1 4) 5):=hF1 4
  refine At.sub (L':=[(1,(sv a1)),(2,(ptr B2 0)),(10,(.int .i64 (a1.length:Int))),(11,(.int .i64 i1))]) (Sub.of rf) ?_
  refine At.own (O:= .Az B2 (.cells #[(.int .i64 x4.kind),(Ad (word x4.set 0)),(Ad (word x4.set 1)),(Ad (word x4.set 2)),(Ad (word x4.set 3)),(Bl (p1 4) 5)] 27 (0,0))::O) ?_ (by first|rfl|(simp only[List.length_append,List.length_set];rfl)|simp)
  refine At.AF<|At.Ae ?_
  obtain⟨ha1,hd⟩:=Al hd
  refine Wp.region<|Aa.op (Ab.add rf rf (Av ha1)) rf<|Aa.op (Ab.move rf) rf<|Aa.nil ?_
  refine At.AZ hl2 ⟨x4,(i1+1),(Bl (p1 4) 5),rf,rf,(by rw[←hn1];exact hd),hf1⟩ (Sub.of rf)
 obtain⟨hb2,hd⟩:=bF hb2 hd
 refine Wp.exit<|At.Ao<|At.Ao<|At.AB<|At.Ae<|Wp.seq ?_
 obtain⟨x5,hx4,hd⟩:=Ag hd
 refine Wp.region<|Aa.op (Ab.Aw (i:=0) DJ rf AH rf rf rf) rf<|Aa.op (Ab.call QS rf (IG hv2 hx4)) rf<|Aa.op (Ab.assign rf) rf<|Aa.Ah<|Wp.ret ?_
 obtain rfl:=si hd
 exact At.q1 1 hl1 rf (RV.tmp rf) rf
end Go.Proofs.YtjmbmodmepdmjabGreatDoor
namespace Go.GK
def EO(fu:Nat)(a0:Rx)(a1:Int)(slf:Rx→Int→Option Int)(i51:Int)(i52:Int)(nx50:(Int×Int)→Option Int):Option Int:=
 bif decide (i52<((a0.Aq.length:Nat):Int))then(bif decide (i51≤a1)then(AV (idx a0.Aq i52) (fun x64=>A4 (Dw (a1-i51)) (AV (slf x64 (a1-i51)) (fun x71=>A4 (Dw (i51+x71)) (A4 (Dw (i52+1)) (nx50 (i51+x71,i52+1)))))))else(some i51))else(some i51)
def EP(fu:Nat)(slf:Rx→Int→Option Int)(a0:Rx)(a1:Int):Option Int:=
 Ax fu (fun p nx=>EO fu a0 a1 slf p.1 p.2 nx) (1,0)
def Ex:Nat→Rx→Int→Option Int
 |0,_,_=>none
 |fu+1,a0,a1=>EP fu (Ex fu) a0 a1
def GW(fu:Nat)(a0:Rx):Option Bool:=
 AV (Ex fu a0 12) (fun x4=>some (decide (x4≤12)))
def C0(fu:Nat)(a0:Rx)(a1:BF):Option Bool:=
 AV (GW fu a0) (fun x4=>bif !x4 then(AV (DG fu) (fun x7=>some x7))else(bif decide (20<((a1.length:Nat):Int))then(AV (DG fu) (fun x10=>some x10))else(AV (Ma fu a0) (fun x12=>bif decide (x12.2≠0)then(bif decide (((x12.1.length:Nat):Int)=0)then(AV (C2 fu a0) (fun x23=>bif decide (x12.2=x23)then(AV (DG fu) (fun x26=>some x26))else(bif decide (x12.2=10)then(AV (C2 fu a0) (fun x29=>bif decide (x29=0)then(AV (DG fu) (fun x26=>some x26))else(some false)))else(some false))))else(some false))else(AV (D0 fu x12.1 a1) (fun x42=>AV (F0 fu a0 a1) (fun x44=>bif x42==x44 then(AV (Fs fu x12.1) (fun x47=>bif x47 then(AV (DG fu) (fun x50=>some x50))else(some false)))else(some false))))))))
end Go.GK
namespace Go.Proofs.YtjmbmodmepdmjabGreatDoor
open Go.GK
variable {H : Hp} {O : List A2}
theorem Oj{fu:Nat} :∀ {H:Hp} {O:List A2} {a0:Rx} {a1:Int} {v1:Value} {r:Int} (hv1:AL C' H a0.Aq v1) (hd:Ex fu a0 a1=some r),
    CB Tryz.prog 11 [(.agg #[(.int .i64 a0.kind),(Ad (word a0.set 0)),(Ad (word a0.set 1)),(Ad (word a0.set 2)),(Ad (word a0.set 3)),v1]),(.int .i64 a1)] H O (.int .i64 r):=by
 induction fu with
 |zero=>intros;rename_i hd;exact absurd hd (by simp[Ex])
 |succ fu ih=>
 intro H O a0 a1 v1 r hv1 hd
 replace hd:EP fu (Ex fu) a0 a1=some r:=hd
 generalize Ex fu=slf at hd ih
 intro w hs
 refine Bo Tryz.func11 rf rf rf ?_ hs
 clear hs w
 unfold EP at hd
 refine Wp.sr<|Aa.box (cs:= #[(.int .i64 a0.kind),(Ad (word a0.set 0)),(Ad (word a0.set 1)),(Ad (word a0.set 2)),(Ad (word a0.set 3)),v1]) rf rf rf fun B2=>Aa.op (Ab.assign rf) rf<|Aa.Ah<|Wp.sr<|Aa.op (Ab.assign rf) rf<|Aa.Ah<|Wp.seq ?_
 refine Wp.sr<|Aa.op (Ab.assign rf) rf<|Aa.Ah<|Wp.block<|Wp.Bt (fun m LL HH OO=> ∃(i1:Int),∃(i2:Int),[(1,(.int .i64 a1)),(2,(ptr B2 0)),(5,(.int .i64 i1)),(6,(.int .i64 i2))]=LL∧ .Az B2 (.cells #[(.int .i64 a0.kind),(Ad (word a0.set 0)),(Ad (word a0.set 1)),(Ad (word a0.set 2)),(Ad (word a0.set 3)),v1] 27 (0,0))::O=OO∧Ax m (fun p nx=>EO fu a0 a1 slf p.1 p.2 nx) (i1,i2)=some r) fu ⟨1,0,rf,rf,hd⟩ (Sub.of rf) ?_
 intro m1 L1 H1 O1 hl1 hI1
 obtain⟨i1,i2,rfl,rfl,hd⟩:=hI1
 obtain⟨m2,nx1,rfl,hn1,hd⟩:=Bm hd
 replace hd:EO fu a0 a1 slf i1 i2 nx1=some r:=hd
 unfold EO at hd
 refine Wp.seq<|Wp.seq ?_
 rcases Bool.eq_false_or_eq_true (decide (i2<(a0.Aq.length:Int)))with hg1|hg1
 ·
  obtain⟨hg1_,hd⟩:=bT hg1 hd
  refine Wp.region<|Aa.op (Ab.move rf) rf<|Aa.op (Ab.A6 (o':=5) CA rf rf) rf<|Aa.op (Ab.Am (i:=0) (v:=v1) Da rf rf rf rf) rf ?_
  have hb1:=hv1.le
  refine Aa.op (Ab.len Da rf (hv1.mono hl1).sl) rf<|Aa.op (Ab.BR (b:=decide (i2<(a0.Aq.length:Int))) (c:=true) (Ab.lss rf rf) hg1) rf<|Aa.op (Ab.move rf) rf<|Aa.AQ rf rf (Ab.move rf) rf<|Aa.AQ rf rf (Ab.move rf) rf<|Aa.AQ rf rf (Ab.leq rf rf) rf<|Aa.op (Ab.AU rf rf) rf<|Aa.Ah ?_
  refine Wp.cond rf (fun hb2=>?_) (fun hb2=>?_)
  ·
   obtain⟨hb2,hd⟩:=bT hb2 hd
   refine Wp.skip<|At.Ae<|Wp.seq<|Wp.block ?_
   obtain⟨x1,hx1,hd⟩:=Ag hd
   have hx1_:=Aj hx1
   obtain⟨ha1,hd⟩:=Al hd
   obtain⟨x2,hx2,hd⟩:=Ag hd
   obtain⟨ha2,hd⟩:=Al hd
   refine Wp.region<|Aa.op (Ab.move rf) rf<|Aa.op (Ab.A6 (o':=5) CA rf rf) rf<|Aa.op (Ab.Am (i:=0) (v:=v1) Da rf rf rf rf) rf<|Aa.op (Ab.move rf) rf ?_
   obtain⟨_,hz1,hc1⟩:=AL.get (hv1.mono hl1) hx1
   obtain⟨v2,rfl,hv2⟩:=CC.1 hz1
   refine Aa.op (Ab.Bz Da AH rf (hv1.mono hl1).sl rf (Aj hx1)) rf<|Aa.op (Ab.DA (vs:=[(.int .i64 x1.kind),(Ad (word x1.set 0)),(Ad (word x1.set 1)),(Ad (word x1.set 2)),(Ad (word x1.set 3)),v2]) DJ rf AH rf rf (fun j u hj=>(hc1 j u hj))) rf<|Aa.op (Ab.move rf) rf<|Aa.op (Ab.move rf) rf<|Aa.op (Ab.sub rf rf (Av ha1)) rf<|Aa.op (Ab.call Wm rf (ih hv2 hx2)) rf<|Aa.op (Ab.add rf rf (Av ha2)) rf<|Aa.op (Ab.assign rf) rf ?_
   refine Aa.nil<|At.AF<|At.Ae ?_
   obtain⟨ha3,hd⟩:=Al hd
   refine Wp.region<|Aa.op (Ab.move rf) rf<|Aa.op (Ab.add rf rf (Av ha3)) rf<|Aa.op (Ab.assign rf) rf<|Aa.nil ?_
   refine At.AZ (Hp.le.refl _) ⟨(i1+x2),(i2+1),rf,rf,(by rw[←hn1];exact hd)⟩ (Sub.of rf)
  obtain⟨hb2,hd⟩:=bF hb2 hd
  refine Wp.exit<|At.Ao<|At.Ao<|At.AB<|At.Ae<|Wp.sr<|Aa.op (Ab.move rf) rf<|Aa.op (Ab.assign rf) rf ?_
  refine Aa.Ah<|Wp.ret ?_
  obtain rfl:=si hd
  exact At.q1 1 hl1 rf (RV.tmp rf) rf
 obtain⟨hg1_,hd⟩:=bF hg1 hd
 refine Wp.region<|Aa.op (Ab.move rf) rf<|Aa.op (Ab.A6 (o':=5) CA rf rf) rf<|Aa.op (Ab.Am (i:=0) (v:=v1) Da rf rf rf rf) rf ?_
 have hb1:=hv1.le
 refine Aa.op (Ab.len Da rf (hv1.mono hl1).sl) rf<|Aa.op (Ab.BR (b:=decide (i2<(a0.Aq.length:Int))) (c:=false) (Ab.lss rf rf) hg1) rf<|Aa.op (Ab.move rf) rf<|Aa.Ak rf rf rf rf<|Aa.Ak rf rf rf rf<|Aa.Ak rf rf rf rf<|Aa.op (Ab.AP rf rf) rf<|Aa.Ah ?_
 refine Wp.Hd rf<|Wp.exit<|At.Ao<|At.Ao<|At.AB<|At.Ae<|Wp.sr<|Aa.op (Ab.move rf) rf ?_
 refine Aa.op (Ab.assign rf) rf<|Aa.Ah<|Wp.ret ?_
 obtain rfl:=si hd
 exact At.q1 1 hl1 rf (RV.tmp rf) rf
theorem Ko{fu:Nat}{a0:Rx}{v1:Value}{r:Bool}(hv1:AL C' H a0.Aq v1)(hd:GW fu a0=some r):
  CB Tryz.prog 4 [(.agg #[(.int .i64 a0.kind),(Ad (word a0.set 0)),(Ad (word a0.set 1)),(Ad (word a0.set 2)),(Ad (word a0.set 3)),v1])] H O (.bool r):=by
 intro w hs
 refine Bo Tryz.func4 rf rf rf ?_ hs
 clear hs w
 unfold GW at hd
 refine Wp.sr<|Aa.box (cs:= #[(.int .i64 a0.kind),(Ad (word a0.set 0)),(Ad (word a0.set 1)),(Ad (word a0.set 2)),(Ad (word a0.set 3)),v1]) rf rf rf fun B2=>Aa.op (Ab.assign rf) rf<|Aa.Ah<|Wp.seq ?_
 obtain⟨x1,hx1,hd⟩:=Ag hd
 refine Wp.region<|Aa.op (Ab.Aw (i:=0) DJ rf AH rf rf rf) rf<|Aa.op (Ab.call Wm rf (Oj hv1 hx1)) rf<|Aa.op (Ab.leq rf rf) rf<|Aa.op (Ab.assign rf) rf<|Aa.Ah<|Wp.ret ?_
 obtain rfl:=si hd
 exact At.q1 1 (Hp.le.refl _) rf (RV.tmp rf) rf
theorem Hk{fu:Nat}{a0:Rx}{a1:BF}{v1:Value}{r:Bool}(hv1:AL C' H a0.Aq v1)(hG:El Tryz.prog H)(hd:C0 fu a0 a1=some r):
    CB Tryz.prog 3 [(.agg #[(.int .i64 a0.kind),(Ad (word a0.set 0)),(Ad (word a0.set 1)),(Ad (word a0.set 2)),(Ad (word a0.set 3)),v1]),(sv a1)] H O (.bool r):=by
 intro w hs
 refine Bo Tryz.func3 rf rf rf ?_ hs
 clear hs w
 unfold C0 at hd
 refine Wp.sr<|Aa.box (cs:= #[(.int .i64 a0.kind),(Ad (word a0.set 0)),(Ad (word a0.set 1)),(Ad (word a0.set 2)),(Ad (word a0.set 3)),v1]) rf rf rf fun B2=>Aa.op (Ab.assign rf) rf<|Aa.Ah<|Wp.seq<|Wp.seq ?_
 obtain⟨x1,hx1,hd⟩:=Ag hd
 rcases Bool.eq_false_or_eq_true (!x1)with hg1|hg1
 ·
  replace hd:=Gl hg1 hd
  refine Wp.region<|Aa.op (Ab.Aw (i:=0) DJ rf AH rf rf rf) rf<|Aa.op (Ab.call Yy rf (Ko hv1 hx1)) rf<|Aa.op (Ab.BR (b:= !x1) (c:=true) (Ab.not rf) hg1) rf<|Aa.op (Ab.move rf) rf<|Aa.Ak rf rf rf rf<|Aa.Ak rf rf rf rf<|Aa.Ak rf rf rf rf ?_
  refine Aa.op (Ab.AU rf rf) rf<|Aa.Ah<|Wp.EY rf<|Wp.seq ?_
  obtain⟨x2,hx2,hd⟩:=Ag hd
  refine Wp.region<|Aa.op (Ab.call TZ rf (Fe hG hx2)) rf<|Aa.op (Ab.assign rf) rf<|Aa.Ah<|Wp.ret<|At.Au ?_
  obtain rfl:=si hd
  exact At.q1 1 (Hp.le.refl _) rf (RV.tmp rf) rf
 replace hd:=Gm hg1 hd
 refine Wp.region<|Aa.op (Ab.Aw (i:=0) DJ rf AH rf rf rf) rf<|Aa.op (Ab.call Yy rf (Ko hv1 hx1)) rf<|Aa.op (Ab.BR (b:= !x1) (c:=false) (Ab.not rf) hg1) rf<|Aa.op (Ab.move rf) rf<|Aa.AQ rf rf (Ab.move rf) rf<|Aa.AQ rf rf (Ab.Tu u9 rf) rf<|Aa.AQ rf rf (Ab.gtr rf rf) rf ?_
 refine Aa.op (Ab.AP rf rf) rf<|Aa.Ah ?_
 refine Wp.cond rf (fun hb1=>?_) (fun hb1=>?_)
 ·
  obtain⟨hb1,hd⟩:=bT hb1 hd
  refine Wp.seq ?_
  obtain⟨x3,hx3,hd⟩:=Ag hd
  refine Wp.region<|Aa.op (Ab.call TZ rf (Fe hG hx3)) rf<|Aa.op (Ab.assign rf) rf<|Aa.Ah<|Wp.ret<|At.Au ?_
  obtain rfl:=si hd
  exact At.q1 1 (Hp.le.refl _) rf (RV.tmp rf) rf
 obtain⟨hb1,hd⟩:=bF hb1 hd
 refine Wp.skip<|At.Ae<|Wp.seq ?_
 obtain⟨x4,hx4,hd⟩:=Ag hd
 refine Wp.region<|Aa.op (Ab.Aw (i:=0) DJ rf AH rf rf rf) rf<|Aa.Fi (Bc.call Xa rf (NM hv1 hG hx4)) rf ?_
 rintro _ H1 _ hl1 ⟨⟨v2,rfl,hv2⟩,rfl⟩
 refine Aa.op (Ab.move rf) rf<|Aa.op (Ab.extract rf rf) rf<|Aa.op (Ab.extract rf rf) rf<|Aa.alloc (cs:= #[(.slice none 0 0)]) A5 rf rf fun B3=>Aa.AM (i:=0) (cs':= #[v2]) rf rf A5 rf rf (Bd (Ac hv2.one (An))) rf ?_
 refine Aa.own (O:=_::_::_) ?_ rf
 refine Aa.op (Ab.assign rf) rf<|Aa.Ah<|Wp.seq<|Wp.sr<|Aa.op (Ab.move rf) rf<|Aa.op (Ab.neq rf rf) rf<|Aa.Ah ?_
 refine Wp.cond rf (fun hb2=>?_) (fun hb2=>?_)
 ·
  obtain⟨hb2,hd⟩:=bT hb2 hd
  refine Wp.seq ?_
  rcases Bool.eq_false_or_eq_true (decide ((x4.1.length:Int)=0))with hg2|hg2
  ·
   obtain⟨hg2_,hd⟩:=bT hg2 hd
   obtain⟨x5,hx5,hd⟩:=Ag hd
   rcases Bool.eq_false_or_eq_true (decide (x4.2=x5))with hg3|hg3
   ·
    obtain⟨hg3_,hd⟩:=bT hg3 hd
    obtain⟨x6,hx6,hd⟩:=Ag hd
    refine Wp.region<|Aa.op (Ab.A6 (o':=0) BO rf rf) rf<|Aa.op (Ab.Am (i:=0) (v:=v2) C9 rf rf rf rf) rf ?_
    have hb3:=hv2.le
    refine Aa.op (Ab.len C9 rf hv2.sl) rf<|Aa.op (Ab.BR (b:=decide ((x4.1.length:Int)=0)) (c:=true) (Ab.eql rf rf) hg2) rf<|Aa.op (Ab.move rf) rf<|Aa.AQ rf rf (Ab.move rf) rf<|Aa.AQ rf rf (Ab.Aw (i:=1) DJ rf AH rf rf rf) rf<|Aa.AQ rf rf (Ab.call OQ rf (DV (hv1.mono hl1) hx5)) rf<|Aa.AQ rf rf (Ab.BR (b:=decide (x4.2=x5)) (c:=true) (Ab.eql rf rf) hg3) rf<|Aa.AQ rf rf (Ab.move rf) rf ?_
    refine Aa.Ak rf rf rf rf<|Aa.Ak rf rf rf rf<|Aa.Ak rf rf rf rf<|Aa.Et rf rf rf<|Aa.Et rf rf rf<|Aa.Et rf rf rf<|Aa.Ak rf rf rf rf<|Aa.AQ rf rf (Ab.AU rf rf) rf ?_
    refine Aa.op (Ab.AU rf rf) rf<|Aa.op (Ab.move rf) rf<|Aa.AQ rf rf (Ab.call TZ rf (Fe (hG.mono hl1) hx6)) rf<|Aa.op (Ab.AU rf rf) rf<|Aa.op (Ab.assign rf) rf<|Aa.Ah<|Wp.ret<|At.Au ?_
    obtain rfl:=si hd
    exact At.q1 2 hl1 rf (RV.tmp rf) rf
   obtain⟨hg3_,hd⟩:=bF hg3 hd
   rcases Bool.eq_false_or_eq_true (decide (x4.2=10))with hg4|hg4
   ·
    obtain⟨hg4_,hd⟩:=bT hg4 hd
    obtain⟨x7,hx7,hd⟩:=Ag hd
    rcases Bool.eq_false_or_eq_true (decide (x7=0))with hg5|hg5
    ·
     obtain⟨hg5_,hd⟩:=bT hg5 hd
     obtain⟨x6,hx6,hd⟩:=Ag hd
     refine Wp.region<|Aa.op (Ab.A6 (o':=0) BO rf rf) rf<|Aa.op (Ab.Am (i:=0) (v:=v2) C9 rf rf rf rf) rf ?_
     have hb3:=hv2.le
     refine Aa.op (Ab.len C9 rf hv2.sl) rf<|Aa.op (Ab.BR (b:=decide ((x4.1.length:Int)=0)) (c:=true) (Ab.eql rf rf) hg2) rf<|Aa.op (Ab.move rf) rf<|Aa.AQ rf rf (Ab.move rf) rf<|Aa.AQ rf rf (Ab.Aw (i:=1) DJ rf AH rf rf rf) rf<|Aa.AQ rf rf (Ab.call OQ rf (DV (hv1.mono hl1) hx5)) rf<|Aa.AQ rf rf (Ab.BR (b:=decide (x4.2=x5)) (c:=false) (Ab.eql rf rf) hg3) rf<|Aa.AQ rf rf (Ab.move rf) rf ?_
     refine Aa.AQ rf rf (Ab.move rf) rf<|Aa.AQ rf rf (Ab.BR (b:=decide (x4.2=10)) (c:=true) (Ab.eql rf rf) hg4) rf<|Aa.AQ rf rf (Ab.move rf) rf<|Aa.AQ rf rf (Ab.Aw (i:=1) DJ rf AH rf rf rf) rf<|Aa.AQ rf rf (Ab.call OQ rf (DV (hv1.mono hl1) hx7)) rf<|Aa.AQ rf rf (Ab.BR (b:=decide (x7=0)) (c:=true) (Ab.eql rf rf) hg5) rf<|Aa.AQ rf rf (Ab.AU rf rf) rf<|Aa.AQ rf rf (Ab.AP rf rf) rf ?_
     refine Aa.op (Ab.AU rf rf) rf<|Aa.op (Ab.move rf) rf<|Aa.AQ rf rf (Ab.call TZ rf (Fe (hG.mono hl1) hx6)) rf<|Aa.op (Ab.AU rf rf) rf<|Aa.op (Ab.assign rf) rf<|Aa.Ah<|Wp.ret<|At.Au ?_
     obtain rfl:=si hd
     exact At.q1 2 hl1 rf (RV.tmp rf) rf
    obtain⟨hg5_,hd⟩:=bF hg5 hd
    refine Wp.region<|Aa.op (Ab.A6 (o':=0) BO rf rf) rf<|Aa.op (Ab.Am (i:=0) (v:=v2) C9 rf rf rf rf) rf ?_
    have hb3:=hv2.le
    refine Aa.op (Ab.len C9 rf hv2.sl) rf<|Aa.op (Ab.BR (b:=decide ((x4.1.length:Int)=0)) (c:=true) (Ab.eql rf rf) hg2) rf<|Aa.op (Ab.move rf) rf<|Aa.AQ rf rf (Ab.move rf) rf<|Aa.AQ rf rf (Ab.Aw (i:=1) DJ rf AH rf rf rf) rf<|Aa.AQ rf rf (Ab.call OQ rf (DV (hv1.mono hl1) hx5)) rf<|Aa.AQ rf rf (Ab.BR (b:=decide (x4.2=x5)) (c:=false) (Ab.eql rf rf) hg3) rf<|Aa.AQ rf rf (Ab.move rf) rf ?_
    refine Aa.AQ rf rf (Ab.move rf) rf<|Aa.AQ rf rf (Ab.BR (b:=decide (x4.2=10)) (c:=true) (Ab.eql rf rf) hg4) rf<|Aa.AQ rf rf (Ab.move rf) rf<|Aa.AQ rf rf (Ab.Aw (i:=1) DJ rf AH rf rf rf) rf<|Aa.AQ rf rf (Ab.call OQ rf (DV (hv1.mono hl1) hx7)) rf<|Aa.AQ rf rf (Ab.BR (b:=decide (x7=0)) (c:=false) (Ab.eql rf rf) hg5) rf<|Aa.AQ rf rf (Ab.AU rf rf) rf<|Aa.AQ rf rf (Ab.AP rf rf) rf ?_
    refine Aa.op (Ab.AU rf rf) rf<|Aa.op (Ab.move rf) rf<|Aa.Ak rf rf rf rf<|Aa.op (Ab.AP rf rf) rf<|Aa.op (Ab.assign rf) rf<|Aa.Ah<|Wp.ret<|At.Au ?_
    obtain rfl:=si hd
    exact At.q1 2 hl1 rf (RV.tmp rf) rf
   obtain⟨hg4_,hd⟩:=bF hg4 hd
   refine Wp.region<|Aa.op (Ab.A6 (o':=0) BO rf rf) rf<|Aa.op (Ab.Am (i:=0) (v:=v2) C9 rf rf rf rf) rf ?_
   have hb3:=hv2.le
   refine Aa.op (Ab.len C9 rf hv2.sl) rf<|Aa.op (Ab.BR (b:=decide ((x4.1.length:Int)=0)) (c:=true) (Ab.eql rf rf) hg2) rf<|Aa.op (Ab.move rf) rf<|Aa.AQ rf rf (Ab.move rf) rf<|Aa.AQ rf rf (Ab.Aw (i:=1) DJ rf AH rf rf rf) rf<|Aa.AQ rf rf (Ab.call OQ rf (DV (hv1.mono hl1) hx5)) rf<|Aa.AQ rf rf (Ab.BR (b:=decide (x4.2=x5)) (c:=false) (Ab.eql rf rf) hg3) rf<|Aa.AQ rf rf (Ab.move rf) rf ?_
   refine Aa.AQ rf rf (Ab.move rf) rf<|Aa.AQ rf rf (Ab.BR (b:=decide (x4.2=10)) (c:=false) (Ab.eql rf rf) hg4) rf<|Aa.AQ rf rf (Ab.move rf) rf<|Aa.Ak rf rf rf rf<|Aa.Ak rf rf rf rf<|Aa.Ak rf rf rf rf<|Aa.AQ rf rf (Ab.AP rf rf) rf<|Aa.AQ rf rf (Ab.AP rf rf) rf ?_
   refine Aa.op (Ab.AU rf rf) rf<|Aa.op (Ab.move rf) rf<|Aa.Ak rf rf rf rf<|Aa.op (Ab.AP rf rf) rf<|Aa.op (Ab.assign rf) rf<|Aa.Ah<|Wp.ret<|At.Au ?_
   obtain rfl:=si hd
   exact At.q1 2 hl1 rf (RV.tmp rf) rf
  obtain⟨hg2_,hd⟩:=bF hg2 hd
  refine Wp.region<|Aa.op (Ab.A6 (o':=0) BO rf rf) rf<|Aa.op (Ab.Am (i:=0) (v:=v2) C9 rf rf rf rf) rf ?_
  have hb3:=hv2.le
  refine Aa.op (Ab.len C9 rf hv2.sl) rf<|Aa.op (Ab.BR (b:=decide ((x4.1.length:Int)=0)) (c:=false) (Ab.eql rf rf) hg2) rf<|Aa.op (Ab.move rf) rf<|Aa.Ak rf rf rf rf<|Aa.Ak rf rf rf rf<|Aa.Ak rf rf rf rf<|Aa.Ak rf rf rf rf<|Aa.Ak rf rf rf rf ?_
  refine Aa.Et rf rf rf<|Aa.Et rf rf rf<|Aa.Et rf rf rf<|Aa.Et rf rf rf<|Aa.Et rf rf rf<|Aa.Et rf rf rf<|Aa.Et rf rf rf<|Aa.Ak rf rf rf rf ?_
  refine Aa.op (Ab.AP rf rf) rf<|Aa.op (Ab.move rf) rf<|Aa.Ak rf rf rf rf<|Aa.op (Ab.AP rf rf) rf<|Aa.op (Ab.assign rf) rf<|Aa.Ah<|Wp.ret<|At.Au ?_
  obtain rfl:=si hd
  exact At.q1 2 hl1 rf (RV.tmp rf) rf
 obtain⟨hb2,hd⟩:=bF hb2 hd
 refine Wp.skip<|At.Ae<|Wp.seq ?_
 obtain⟨x8,hx8,hd⟩:=Ag hd
 obtain⟨x9,hx9,hd⟩:=Ag hd
 rcases Bool.eq_false_or_eq_true (x8==x9)with hg6|hg6
 ·
  replace hd:=Gl hg6 hd
  obtain⟨x10,hx10,hd⟩:=Ag hd
  rcases Bool.eq_false_or_eq_true (x10)with hg7|hg7
  ·
   replace hd:=Gl hg7 hd
   obtain⟨x11,hx11,hd⟩:=Ag hd
   refine Wp.Ea 15 follows rf (by kernel_rfl)<|Ai.A7 (Ab.Aw (i:=0) u32 rf A5 rf rf rf) rf<|Ai.A7 (Ab.move rf) rf<|Ai.A7 (Ab.call HL rf (Bf hv2 hx8)) rf<|Ai.A7 (Ab.Aw (i:=1) DJ rf AH rf rf rf) rf<|Ai.A7 (Ab.move rf) rf<|Ai.A7 (Ab.call W_ rf (IZ (hv1.mono hl1) hx9)) rf<|Ai.A7 (Ab.BR (b:=x8==x9) (c:=true) (Ab.Ym u4 rf rf) hg6) rf ?_
   refine Ai.A7 (Ab.move rf) rf<|Ai.Be rf rf (Ab.Aw (i:=0) u32 rf A5 rf rf rf) rf<|Ai.Be rf rf (Ab.BR (b:=x10) (c:=true) (Ab.call Kx rf (DY hv2 (hG.mono hl1) hx10)) hg7) rf<|Ai.A7 (Ab.AU rf rf) rf<|Ai.A7 (Ab.move rf) rf<|Ai.Be rf rf (Ab.call TZ rf (Fe (hG.mono hl1) hx11)) rf<|Ai.A7 (Ab.AU rf rf) rf<|Ai.A7 (Ab.assign rf) rf ?_
   refine Ai.Eb<|As.is (t:=4) rf<|As.Me<|Aa.Ah<|Wp.ret ?_
   obtain rfl:=si hd
   exact At.q1 2 hl1 rf (RV.tmp rf) rf
  replace hd:=Gm hg7 hd
  refine Wp.Ea 15 follows rf (by kernel_rfl)<|Ai.A7 (Ab.Aw (i:=0) u32 rf A5 rf rf rf) rf<|Ai.A7 (Ab.move rf) rf<|Ai.A7 (Ab.call HL rf (Bf hv2 hx8)) rf<|Ai.A7 (Ab.Aw (i:=1) DJ rf AH rf rf rf) rf<|Ai.A7 (Ab.move rf) rf<|Ai.A7 (Ab.call W_ rf (IZ (hv1.mono hl1) hx9)) rf<|Ai.A7 (Ab.BR (b:=x8==x9) (c:=true) (Ab.Ym u4 rf rf) hg6) rf ?_
  refine Ai.A7 (Ab.move rf) rf<|Ai.Be rf rf (Ab.Aw (i:=0) u32 rf A5 rf rf rf) rf<|Ai.Be rf rf (Ab.BR (b:=x10) (c:=false) (Ab.call Kx rf (DY hv2 (hG.mono hl1) hx10)) hg7) rf<|Ai.A7 (Ab.AU rf rf) rf<|Ai.A7 (Ab.move rf) rf<|Ai.AE rf rf rf rf<|Ai.A7 (Ab.AP rf rf) rf<|Ai.A7 (Ab.assign rf) rf ?_
  refine Ai.Eb<|As.is (t:=4) rf<|As.Me<|Aa.Ah<|Wp.ret ?_
  obtain rfl:=si hd
  exact At.q1 2 hl1 rf (RV.tmp rf) rf
 replace hd:=Gm hg6 hd
 refine Wp.Ea 15 follows rf (by kernel_rfl)<|Ai.A7 (Ab.Aw (i:=0) u32 rf A5 rf rf rf) rf<|Ai.A7 (Ab.move rf) rf<|Ai.A7 (Ab.call HL rf (Bf hv2 hx8)) rf<|Ai.A7 (Ab.Aw (i:=1) DJ rf AH rf rf rf) rf<|Ai.A7 (Ab.move rf) rf<|Ai.A7 (Ab.call W_ rf (IZ (hv1.mono hl1) hx9)) rf<|Ai.A7 (Ab.BR (b:=x8==x9) (c:=false) (Ab.Ym u4 rf rf) hg6) rf ?_
 refine Ai.A7 (Ab.move rf) rf<|Ai.AE rf rf rf rf<|Ai.AE rf rf rf rf<|Ai.A7 (Ab.AP rf rf) rf<|Ai.A7 (Ab.move rf) rf<|Ai.AE rf rf rf rf<|Ai.A7 (Ab.AP rf rf) rf<|Ai.A7 (Ab.assign rf) rf ?_
 refine Ai.Eb<|As.is (t:=4) rf<|As.Me<|Aa.Ah<|Wp.ret ?_
 obtain rfl:=si hd
 exact At.q1 2 hl1 rf (RV.tmp rf) rf
end Go.Proofs.YtjmbmodmepdmjabGreatDoor
namespace Go.GL
open Go.GK
def Ok{α:Type}(x:Option α)(P:α→Prop):Prop:= ∃r,x=some r∧P r
section
variable {α β X R : Type} {P Q : R → Prop}
theorem Ok.some{r:R}(h:P r):Ok (some r) P:=⟨r,rfl,h⟩
theorem Ok.mono{x:Option R}(h:Ok x P)(k:∀r,P r→Q r):Ok x Q:=by obtain⟨r,e,h⟩:=h;exact⟨r,e,k r h⟩
theorem Ok.eq{x:Option R}{r:R}(h:Ok x (fun a=>a=r)):x= .some r:=by obtain⟨_,e,rfl⟩:=h;exact e
theorem Ok.of_eq{x:Option R}{r:R}(h:x= .some r)(hp:P r):Ok x P:=⟨r,h,hp⟩
theorem Ok.A4{p:Prop} [Decidable p]{x:Option R}(hp:p)(h:Ok x P):Ok (A4 p x) P:=by unfold GK.A4;rw[if_pos hp];exact h
theorem Ok.AV{x:Option α}{Q:α→Prop}{k:α→Option R}(h:Ok x Q)(hk:∀a,Q a→Ok (k a) P):Ok (AV x k) P:=by
 obtain⟨r,rfl,h⟩:=h;exact hk r h
theorem Ok.Cq{x:Option α}{a:α}{k:α→Option R}(h:x= .some a)(hk:Ok (k a) P):Ok (GK.AV x k) P:=by
 subst h;exact hk
theorem Ok.bif{b:Bool}{x y:Option R}(ht:b=true→Ok x P)(hf:b=false→Ok y P):Ok (bif b then x else y) P:=by
 cases b
 ·exact hf rf
 ·exact ht rf
theorem Ok.ite{p:Prop} [Decidable p]{x y:Option R}(ht:p→Ok x P)(hf:¬p→Ok y P):Ok (bif decide p then x else y) P:=
 Ok.bif (fun h=>ht (of_decide_eq_true h)) (fun h=>hf (of_decide_eq_false h))
theorem Ok.T{b:Bool}{x y:Option R}(h:b=true)(hx:Ok x P):Ok (bif b then x else y) P:=by subst h;exact hx
theorem Ok.F{b:Bool}{x y:Option R}(h:b=false)(hy:Ok y P):Ok (bif b then x else y) P:=by subst h;exact hy
theorem Ok.iT{p:Prop} [Decidable p]{x y:Option R}(h:p)(hx:Ok x P):Ok (bif decide p then x else y) P:=Ok.T (decide_eq_true h) hx
theorem Ok.iF{p:Prop} [Decidable p]{x y:Option R}(h:¬p)(hy:Ok y P):Ok (bif decide p then x else y) P:=Ok.F (decide_eq_false h) hy
theorem JA{l:List α}{n:Nat}(h:n<l.length):idx l (n:Int)= .some l[n]:=by
 unfold idx;rw[if_pos (by omega)];simp[h]
theorem QN{l:List α}{i:Int}(h0:0≤i)(h1:i<(l.length:Nat)):idx l i= .some (l[i.toNat]'(by omega)):=by
 unfold idx;rw[if_pos h0];exact List.getElem?_eq_getElem _
theorem Ok.C3{l:List α}{n:Nat}{k:α→Option R}(h:n<l.length)(hk:Ok (k l[n]) P):Ok (GK.AV (idx l (n:Int)) k) P:=Ok.Cq (JA h) hk
theorem Ok.W3{l:List α}{i:Int}{k:α→Option R}(h0:0≤i)(h1:i<(l.length:Nat))(hk:Ok (k (l[i.toNat]'(by omega))) P):Ok (GK.AV (idx l i) k) P:=Ok.Cq (QN h0 h1) hk
theorem Ok.HK{l:List α}{i:Int}{a:α}{k:α→Option R}(h0:0≤i)(h1:l[i.toNat]?= .some a)(hk:Ok (k a) P):Ok (GK.AV (idx l i) k) P:=
 Ok.Cq (by unfold idx;rw[if_pos h0];exact h1) hk
theorem TK{s:BF}{n:Nat}(h:n<s.length):Iz s (n:Int)= .some ((s[n].toNat:Nat):Int):=by
 unfold Iz;rw[if_pos (by omega)];simp[h]
theorem Ok.Iz{s:BF}{n:Nat}{k:Int→Option R}(h:n<s.length)(hk:Ok (k ((s[n].toNat:Nat):Int)) P):Ok (GK.AV (Iz s (n:Int)) k) P:=Ok.Cq (TK h) hk
theorem Ok.loop{b:X→(X→Option R)→Option R}(I:X→Prop)(m:X→Nat):∀ {fu:Nat} {x:X},I x→m x<fu→
  (∀x nx,I x→m x<fu→(∀x',I x'→m x'<m x→Ok (nx x') P)→Ok (b x nx) P)→Ok (Ax fu b x) P
 |0,_,_,h,_=>by omega
 |fu+1,x,hI,hm,step=>by
  show Ok (b x (Ax fu b)) P
  refine step x _ hI hm fun x' hI' hm'=>Ok.loop I m hI' (by omega) fun y nx hy hmy h=>step y nx hy (by omega) h
theorem Ok.range{S:Type}{b:S×Nat→(S×Nat→Option R)→Option R}(J:Nat→S→Prop)(n:Nat){fu:Nat}{s:S}(h0:J 0 s)(hf:n<fu)
  (step:∀k s nx,k<n→J k s→(∀s',J (k+1) s'→Ok (nx (s',k+1)) P)→Ok (b (s,k) nx) P)
  (stop:∀s nx,J n s→Ok (b (s,n) nx) P):Ok (Ax fu b (s,0)) P:=by
 refine Ok.loop (fun x=>x.2≤n∧J x.2 x.1) (fun x=>n-x.2) ⟨by simp,h0⟩ (by simpa using hf) fun x nx hI _ hn=>?_
 obtain⟨s,k⟩:=x
 obtain⟨h1,h2⟩:=hI
 rcases Nat.lt_or_ge k n with h|h
 ·exact step k s nx h h2 fun s' hs=>hn (s',k+1) ⟨by show k+1≤n;omega,hs⟩ (by show n-(k+1)<n-k;omega)
 ·have h1:k≤n:=h1
  obtain rfl:k=n:=by omega
  exact stop s nx h2
theorem Ok.PF{S:Type}(mk:S→Nat→X){b:X→(X→Option R)→Option R}(J:Nat→S→Prop)(n:Nat)
  (step:∀k s nx,k<n→J k s→(∀s',J (k+1) s'→Ok (nx (mk s' (k+1))) P)→Ok (b (mk s k) nx) P)
  (stop:∀s nx,J n s→Ok (b (mk s n) nx) P):∀(fu k:Nat) (s:S),J k s→k≤n→n-k<fu→Ok (Ax fu b (mk s k)) P
 |0,_,_,_,_,h=>by omega
 |fu+1,k,s,hJ,hk,hf=>by
  show Ok (b (mk s k) (Ax fu b)) P
  rcases Nat.lt_or_ge k n with h|h
  ·exact step k s _ h hJ fun s' hs=>Ok.PF mk J n step stop fu (k+1) s' hs h (by omega)
  ·obtain rfl:k=n:=by omega
   exact stop s _ hJ
theorem Ok.Lp{S T:Type}{b:S×T×Nat→(S×T×Nat→Option R)→Option R}(J:Nat→S→T→Prop)(n:Nat){fu:Nat}{s:S}{t:T}(h0:J 0 s t)(hf:n<fu)
  (step:∀k s t nx,k<n→J k s t→(∀s' t',J (k+1) s' t'→Ok (nx (s',t',k+1)) P)→Ok (b (s,t,k) nx) P)
  (stop:∀s t nx,J n s t→Ok (b (s,t,n) nx) P):Ok (Ax fu b (s,t,0)) P:=
 Ok.PF (fun(s:S×T) k=>(s.1,s.2,k)) (fun k s=>J k s.1 s.2) n (fun k s nx hk hJ hn=>step k s.1 s.2 nx hk hJ fun s' t' h=>hn (s',t') h) (fun s nx hJ=>stop s.1 s.2 nx hJ) fu 0 (s,t) h0 (by omega) (by omega)
theorem Ok.PG{S T U:Type}{b:S×T×U×Nat→(S×T×U×Nat→Option R)→Option R}(J:Nat→S→T→U→Prop)(n:Nat){fu:Nat}{s:S}{t:T}{u:U}(h0:J 0 s t u)(hf:n<fu)
  (step:∀k s t u nx,k<n→J k s t u→(∀s' t' u',J (k+1) s' t' u'→Ok (nx (s',t',u',k+1)) P)→Ok (b (s,t,u,k) nx) P)
  (stop:∀s t u nx,J n s t u→Ok (b (s,t,u,n) nx) P):Ok (Ax fu b (s,t,u,0)) P:=
 Ok.PF (fun(s:S×T×U) k=>(s.1,s.2.1,s.2.2,k)) (fun k s=>J k s.1 s.2.1 s.2.2) n (fun k s nx hk hJ hn=>step k s.1 s.2.1 s.2.2 nx hk hJ fun s' t' u' h=>hn (s',t',u') h) (fun s nx hJ=>stop s.1 s.2.1 s.2.2 nx hJ) fu 0 (s,t,u) h0 (by omega) (by omega)
theorem Ok.count{b:Nat→(Nat→Option R)→Option R}(J:Nat→Prop)(n:Nat){fu:Nat}(h0:J 0)(hf:n<fu)
  (step:∀k nx,k<n→J k→(J (k+1)→Ok (nx (k+1)) P)→Ok (b k nx) P)
  (stop:∀nx,J n→Ok (b n nx) P):Ok (Ax fu b 0) P:=by
 refine Ok.loop (fun x=>x≤n∧J x) (fun x=>n-x) ⟨by simp,h0⟩ (by simpa using hf) fun k nx hI _ hn=>?_
 obtain⟨h1,h2⟩:=hI
 rcases Nat.lt_or_ge k n with h|h
 ·exact step k nx h h2 fun hs=>hn (k+1) ⟨by omega,hs⟩ (by omega)
 ·obtain rfl:k=n:=by omega
  exact stop nx h2
end
end Go.GL
namespace Go.GL
abbrev Lg:=List UInt8→Bool
abbrev Gp:=Int×Int×Int
abbrev XD:=Bool×List Gp
abbrev Tb:=List XD
def KR(L:Lg)(b:Nat):Lg:=fun w=>L (UInt8.ofNat b::w)
open Classical in
noncomputable def live(L:Lg):Bool:=decide (∃w,L w=true)
open Classical in
noncomputable def LJ(kn:List Lg)(L:Lg):Nat:=kn.findIdx fun K=>decide (K=L)
theorem Jv{L:Lg} :live L=true↔∃w,L w=true:=by simp[live]
theorem Hr{L:Lg} :live L=false↔∀w,L w=false:=by simp[live]
def push(es:List Gp)(lo hi n:Int):List Gp:=match es.getLast? with
 |some e=>if e.2.2=n∧e.2.1+1=lo then es.dropLast++[(e.1,hi,n)]else es++[(lo,hi,n)]
 |none=>es++[(lo,hi,n)]
noncomputable def Mg(kn:List Lg)(D:Lg):List Lg:=if LJ kn D=kn.length then kn++[D]else kn
noncomputable def Nb(st:List Lg×List Gp)(D:Lg)(lo hi:Nat):List Lg×List Gp:=
 if live D then(Mg st.1 D,push st.2 (lo:Int) (hi:Int) (LJ st.1 D:Nat))else st
noncomputable def Mi(K:Lg)(st:List Lg×List Gp)(b:Nat):List Lg×List Gp:=Nb st (KR K b) b b
noncomputable def Cn(K:Lg)(kn:List Lg)(m:Nat):List Lg×List Gp:=(List.range m).foldl (Mi K) (kn,[])
noncomputable def Ib:Nat→List Lg→Tb→Tb
 |0,_,out=>out
 |fu+1,kn,out=>match kn[out.length]? with
  |some K=>Ib fu (Cn K kn 256).1 (out++[(K [],(Cn K kn 256).2)])
  |none=>out
noncomputable def Hx(fu:Nat)(L:Lg):Tb:=if live L then Ib fu [L] []else []
theorem TE(kn:List Lg)(D:Lg):LJ kn D≤kn.length:=List.findIdx_le_length
open Classical in
theorem PM{kn:List Lg}{D:Lg}(h:LJ kn D<kn.length):kn[LJ kn D]=D:=by
 have:=List.findIdx_getElem (xs:=kn) (w:=h)
 exact(decide_eq_true_iff (p:=kn[LJ kn D]=D)).1 this
theorem Ir{kn:List Lg}{D:Lg}(h:D∈kn):LJ kn D<kn.length:=by
 refine List.findIdx_lt_length_of_exists ⟨D,h,by simp⟩
theorem NA{kn:List Lg}{D:Lg}(h:D∉kn):LJ kn D=kn.length:=by
 have:=TE kn D
 rcases Nat.lt_or_eq_of_le this with h1|h1
 ·exact absurd (PM h1▸List.getElem_mem h1) h
 ·exact h1
theorem Jy(kn:List Lg)(D:Lg):LJ (Mg kn D) D=LJ kn D:=by
 unfold Mg
 split
 ·rename_i h
  have hn:D∉kn:=fun hm=>by have:=Ir hm;omega
  unfold LJ at h⊢
  rw[List.findIdx_append,if_neg (by omega),h];simp
 ·rfl
theorem KJ(kn:List Lg)(D:Lg):D∈Mg kn D:=by
 unfold Mg;split
 ·simp
 ·rename_i h
  have h1:LJ kn D<kn.length:=by have:=TE kn D;omega
  exact PM h1▸List.getElem_mem h1
theorem LH{kn:List Lg}{D:Lg}(h:D∈kn):Mg kn D=kn:=by
 unfold Mg;rw[if_neg];have:=Ir h;omega
theorem Ey(l:List Gp)(x:Gp)(lo hi n:Int):push (l++[x]) lo hi n=if x.2.2=n∧x.2.1+1=lo then l++[(x.1,hi,n)]else l++[x]++[(lo,hi,n)]:=by
 unfold push;simp
theorem Jk(lo hi n:Int):push [] lo hi n=[(lo,hi,n)]:=rfl
theorem EB{α:Type}(l:List α):l=[]∨∃l' x,l=l'++[x]:=by
 rcases List.eq_nil_or_concat l with h|⟨l',x,h⟩
 ·exact .inl h
 ·exact .inr ⟨l',x,by simpa using h⟩
theorem RA(es:List Gp)(lo mi hi n:Int):push (push es lo mi n) (mi+1) hi n=push es lo hi n:=by
 rcases EB es with rfl|⟨l,x,rfl⟩
 ·rw[Jk,Jk,show [(lo,mi,n)]=[]++[(lo,mi,n)]from rfl,Ey];simp
 ·rw[Ey,Ey]
  split
  ·rw[Ey];simp
  ·rw[Ey];simp
theorem Ll(K:Lg)(D:Lg)(st:List Lg×List Gp)(lo:Nat):∀(n:Nat),(∀b,lo≤b→b<lo+n+1→KR K b=D)→
  (List.range' lo (n+1)).foldl (Mi K) st=Nb st D lo (lo+n)
 |0,h=>by simp[Mi,h lo (by omega) (by omega)]
 |n+1,h=>by
  rw[List.range'_concat,List.foldl_append,Ll K D st lo n (fun b h1 h2=>h b h1 (by omega))]
  simp only[List.foldl_cons,List.foldl_nil,Mi,Nat.one_mul,h (lo+(n+1)) (by omega) (by omega)]
  unfold Nb
  split
  ·simp only[Jy,LH (KJ _ _),Prod.mk.injEq,true_and]
   have:=RA st.2 lo ((lo+n:Nat):Int) ((lo+(n+1):Nat):Int) (LJ st.1 D:Nat)
   rw[←this];congr 1
  ·rfl
theorem Rv(K:Lg)(kn:List Lg)(D:Lg)(lo hi:Nat)(hlo:lo≤hi)(h:∀b,lo≤b→b≤hi→KR K b=D):
  Cn K kn (hi+1)=Nb (Cn K kn lo) D lo hi:=by
 unfold Cn
 rw[show hi+1=lo+((hi-lo)+1) by omega,List.range_eq_range',List.range_eq_range',←List.range'_append_1,List.foldl_append,Nat.zero_add]
 rw[Ll K D _ lo (hi-lo) (fun b h1 h2=>h b h1 (by omega))]
 congr 1;omega
def FB(b:Nat)(e:Gp):Bool:=decide (e.1≤b)&&decide ((b:Int)≤e.2.1)
def Cr(es:List Gp)(b:Nat):Int:=match es.find? (FB b)with
 |some e=>e.2.2
 |none=> -1
def Fy(l:Tb)(i:Int):XD:=l.getD i.toNat (false,[])
def Je(l:Tb)(i:Int)(b:Nat):Int:=if i<0 then-1 else Cr (Fy l i).2 b
def runT(l:Tb)(i:Int)(w:List UInt8):Int:=w.foldl (fun q c=>Je l q c.toNat) i
def fin(l:Tb)(i:Int):Bool:=decide (0≤i)&&(Fy l i).1
def B_(l:Tb)(i:Int):Lg:=fun w=>fin l (runT l i w)
structure EJ(es:List Gp)(m n:Nat):Prop where
 rg:∀e∈es,0≤e.1∧e.1≤e.2.1∧e.2.1<m∧0≤e.2.2∧e.2.2<n
 so:es.Pairwise fun a b=>a.2.1<b.1
def FW(l:Tb):Prop:= ∀s∈l,EJ s.2 256 l.length
theorem KQ(l:Tb)(i:Int)(b:Nat)(hb:b<256):KR (B_ l i) b=B_ l (Je l i b):=by
 funext w
 simp[KR,B_,runT,Nat.mod_eq_of_lt hb]
theorem UR{l:Tb}{i:Int}(b:Nat)(h:i<0):Je l i b= -1:=by simp[Je,h]
theorem Li{l:Tb} :∀(w:List UInt8) {i:Int},i<0→runT l i w<0
 | [],i,h=>h
 |c::w,i,h=>by
  show runT l (Je l i c.toNat) w<0
  exact Li w (by rw[UR _ h];decide)
theorem Jw{l:Tb}{i:Int}(h:i<0)(w:List UInt8):B_ l i w=false:=by
 have:=Li (l:=l) w h
 simp only[B_,fin]
 rw[decide_eq_false (by omega)];rfl
theorem Oz{l:Tb}{i:Int}(h:i<0):live (B_ l i)=false:=Hr.2 fun w=>Jw h w
theorem EJ.step{es:List Gp}{m n:Nat}(h:EJ es m n)(b:Nat):Cr es b= -1∨0≤Cr es b∧Cr es b<n:=by
 unfold Cr
 split
 ·rename_i e he
  have:=h.rg e (List.mem_of_find?_eq_some he)
  exact .inr ⟨this.2.2.2.1,this.2.2.2.2⟩
 ·exact .inl rf
theorem EJ.nil{m n:Nat} :EJ [] m n:=⟨by simp, .nil⟩
theorem FW.st{l:Tb}(h:FW l)(i:Int)(b:Nat):Je l i b= -1∨0≤Je l i b∧Je l i b<l.length:=by
 unfold Je
 split
 ·exact .inl rf
 ·unfold Fy
  rw[List.getD_eq_getElem?_getD]
  cases he:l[i.toNat]? with
  |none=>exact .inl rfl
  |some s=>exact(h s (List.mem_of_getElem? he)).step b
theorem Rk{es:List Gp}{m n:Nat}(h:EJ es m n){b:Nat}(hb:m≤b):Cr es b= -1:=by
 unfold Cr
 rw[List.find?_eq_none.2]
 intro e he
 have:=h.rg e he
 simp[FB];omega
theorem Hn(es fs:List Gp)(b:Nat):Cr (es++fs) b=if(es.find? (FB b)).isSome then Cr es b else Cr fs b:=by
 unfold Cr
 rw[List.find?_append]
 cases es.find? (FB b)<;>simp
theorem EJ.mono{es:List Gp}{m n m' n':Nat}(h:EJ es m n)(hm:m≤m')(hn:n≤n'):EJ es m' n':=
 ⟨fun e he=>by have:=h.rg e he;omega,h.so⟩
theorem EJ.push {es : List Gp} {m n : Nat} (h : EJ es m n) {hi q : Nat} (hm : m ≤ hi) (hq : q < n) : EJ (push es (m : Int) (hi : Int) (q : Int)) (hi + 1) n ∧ ∀ b, Cr (push es (m : Int) (hi : Int) (q : Int)) b = if m ≤ b ∧ b ≤ hi then (q : Int) else Cr es b := by
  rcases EB es with rfl | ⟨l, x, rfl⟩
  · rw [Jk]
    refine ⟨⟨by simp; omega, by simp⟩, fun b => ?_⟩
    simp only [Cr, List.find?_cons, FB, List.find?_nil]
    by_cases hb : m ≤ b ∧ b ≤ hi
    · rw [if_pos hb]
      have h1 : ((m : Int) ≤ b) := by omega
      have h2 : ((b : Int) ≤ hi) := by omega
      simp [h1, h2]
    · rw [if_neg hb]
      have : ¬ ((m : Int) ≤ b ∧ (b : Int) ≤ hi) := by omega
      by_cases h1 : (m : Int) ≤ b
      · have h2 : ¬ ((b : Int) ≤ hi) := by omega
        simp [h2]
      · simp [h1]
  · rw [Ey]
    have hx := h.rg x (by simp)
    have hso := List.pairwise_append.1 h.so
    split
    · rename_i hc
      refine ⟨⟨fun e he => ?_, ?_⟩, fun b => ?_⟩
      · rcases List.mem_append.1 he with he | he
        · have := h.rg e (by simp [he]); omega
        · simp at he; subst he; simp; omega
      · refine List.pairwise_append.2 ⟨hso.1, by simp, fun a ha e he => ?_⟩
        simp at he; subst he; exact hso.2.2 a ha x (by simp)
      · rw [Hn, Hn]
        cases hf : l.find? (FB b) with
        | some e =>
          have hem := List.mem_of_find?_eq_some hf
          have h1 := hso.2.2 e hem x (by simp)
          have h2 := List.find?_some hf
          simp [FB] at h2
          simp only [Option.isSome_some, if_true]
          rw [if_neg (by omega)]
        | none =>
          simp only [Option.isSome_none, Bool.false_eq_true, if_false]
          simp only [Cr, List.find?_cons, FB, List.find?_nil]
          by_cases hb : m ≤ b ∧ b ≤ hi
          · rw [if_pos hb]
            have h1 : (x.1 ≤ b) := by omega
            have h2 : ((b : Int) ≤ hi) := by omega
            simp [h1, h2]
          · rw [if_neg hb]
            by_cases h1 : x.1 ≤ b
            · by_cases h2 : (b : Int) ≤ x.2.1
              · have : (b : Int) ≤ hi := by omega
                simp [h1, h2, this, hc.1]
              · have : ¬ (b : Int) ≤ hi := by omega
                simp [h2, this]
            · simp [h1]
    · refine ⟨⟨fun e he => ?_, ?_⟩, fun b => ?_⟩
      · rcases List.mem_append.1 he with he | he
        · have := h.rg e he; omega
        · simp at he; subst he; simp; omega
      · refine List.pairwise_append.2 ⟨h.so, by simp, fun a ha e he => ?_⟩
        simp at he; subst he; have := h.rg a ha; simp; omega
      · rw [Hn]
        cases hf : (l ++ [x]).find? (FB b) with
        | some e =>
          have hem := List.mem_of_find?_eq_some hf
          have h1 := h.rg e hem
          have h2 := List.find?_some hf
          simp [FB] at h2
          simp only [Option.isSome_some, if_true]
          rw [if_neg (by omega)]
        | none =>
          have : Cr (l ++ [x]) b = -1 := by unfold Cr; rw [hf]
          rw [this]
          simp only [Option.isSome_none, Bool.false_eq_true, if_false]
          simp only [Cr, List.find?_cons, FB, List.find?_nil]
          by_cases hb : m ≤ b ∧ b ≤ hi
          · rw [if_pos hb]
            have h1 : ((m : Int) ≤ b) := by omega
            have h2 : ((b : Int) ≤ hi) := by omega
            simp [h1, h2]
          · rw [if_neg hb]
            by_cases h1 : (m : Int) ≤ b
            · have h2 : ¬ ((b : Int) ≤ hi) := by omega
              simp [h2]
            · simp [h1]
theorem LI{kn more:List Lg}{D:Lg}(h:D∈kn):LJ (kn++more) D=LJ kn D:=by
 have h1:=Ir h
 unfold LJ at h1⊢
 rw[List.findIdx_append,if_pos h1]
def Ext(kn kn':List Lg):Prop:= ∃more,kn'=kn++more
theorem Ext.refl(kn:List Lg):Ext kn kn:=⟨[],by simp⟩
theorem Ext.trans{a b c:List Lg}(h:Ext a b)(k:Ext b c):Ext a c:=by
 obtain⟨x,rfl⟩:=h;obtain⟨y,rfl⟩:=k;exact⟨x++y,by simp⟩
theorem Ext.len{a b:List Lg}(h:Ext a b):a.length≤b.length:=by obtain⟨x,rfl⟩:=h;simp
theorem Ext.mem{a b:List Lg}(h:Ext a b){D:Lg}(hd:D∈a):D∈b:=by obtain⟨x,rfl⟩:=h;simp[hd]
theorem Ext.ix{a b:List Lg}(h:Ext a b){D:Lg}(hd:D∈a):LJ b D=LJ a D:=by obtain⟨x,rfl⟩:=h;exact LI hd
theorem Ext.get{a b:List Lg}(h:Ext a b){i:Nat}{D:Lg}(hd:a[i]?=some D):b[i]?=some D:=by
 obtain⟨x,rfl⟩:=h
 rw[List.getElem?_append_left (List.getElem?_eq_some_iff.1 hd).1];exact hd
theorem Ext.Mg(kn:List Lg)(D:Lg):Ext kn (Mg kn D):=by
 unfold GL.Mg;split
 ·exact⟨[D],rf⟩
 ·exact .refl _
def XF(S:List Lg):Prop:= ∀K∈S,∀b<256,live (KR K b)=true→KR K b∈S
structure KnOk(S kn:List Lg):Prop where
 nd:kn.Nodup
 sub:∀D∈kn,D∈S
 lv:∀D∈kn,live D=true
theorem KnOk.Mg{S kn:List Lg}(h:KnOk S kn){D:Lg}(hD:D∈S)(hl:live D=true):KnOk S (Mg kn D):=by
 unfold GL.Mg;split
 ·rename_i hi
  have hn:D∉kn:=fun hm=>by have:=Ir hm;omega
  refine⟨List.nodup_append.2 ⟨h.nd,by simp,fun a ha b hb=>?_⟩,fun E hE=>?_,fun E hE=>?_⟩
  ·simp at hb;subst hb;rintro rfl;exact hn ha
  ·rcases List.mem_append.1 hE with hE|hE
   ·exact h.sub E hE
   ·simp at hE;subst hE;exact hD
  ·rcases List.mem_append.1 hE with hE|hE
   ·exact h.lv E hE
   ·simp at hE;subst hE;exact hl
 ·exact h
def Md(K:Lg)(kn:List Lg)(es:List Gp)(m:Nat):Prop:=
 EJ es m kn.length∧∀b,b<m→if live (KR K b)then KR K b∈kn∧Cr es b=(LJ kn (KR K b):Nat)else Cr es b= -1
theorem Md.ext{K:Lg}{kn kn':List Lg}{es:List Gp}{m:Nat}(h:Md K kn es m)(he:Ext kn kn'):Md K kn' es m:=by
 refine⟨h.1.mono (Nat.le_refl _) he.len,fun b hb=>?_⟩
 have:=h.2 b hb
 split
 ·rename_i hl
  rw[if_pos hl]at this
  exact⟨he.mem this.1,by rw[he.ix this.1];exact this.2⟩
 ·rename_i hl
  rw[if_neg hl]at this;exact this
theorem PE(K:Lg)(kn:List Lg)(m:Nat):Cn K kn (m+1)=Nb (Cn K kn m) (KR K m) m m:=by
 unfold Cn
 rw[List.range_succ,List.foldl_append];rfl
theorem HT{S kn:List Lg}{K:Lg}(hS:XF S)(hK:K∈S)(hkn:KnOk S kn):∀m,m≤256→Ext kn (Cn K kn m).1∧KnOk S (Cn K kn m).1∧Md K (Cn K kn m).1 (Cn K kn m).2 m
 |0,_=>⟨.refl _,hkn, .nil,fun b hb=>by omega⟩
 |m+1,hm=>by
  obtain⟨h1,h2,h3⟩:=HT hS hK hkn m (by omega)
  rw[PE]
  unfold Nb
  split
  ·rename_i hl
   have hD:=hS K hK m (by omega) hl
   refine⟨h1.trans (Ext.Mg _ _),h2.Mg hD hl,?_⟩
   have h4:=h3.ext (Ext.Mg (Cn K kn m).1 (KR K m))
   have hlt:LJ (Cn K kn m).1 (KR K m)<(Mg (Cn K kn m).1 (KR K m)).length:=by
    rw[←Jy];exact Ir (KJ _ _)
   obtain⟨h5,h6⟩:=h4.1.push (Nat.le_refl m) hlt
   refine⟨h5,fun b hb=>?_⟩
   rw[h6 b]
   by_cases hbm:b=m
   ·subst hbm
    rw[if_pos hl,if_pos ⟨Nat.le_refl _,Nat.le_refl _⟩,Jy]
    exact⟨KJ _ _,rf⟩
   ·rw[if_neg (by omega:¬(m≤b∧b≤m))]
    exact h4.2 b (by omega)
  ·rename_i hl
   refine⟨h1,h2,h3.1.mono (by omega) (Nat.le_refl _),fun b hb=>?_⟩
   by_cases hbm:b=m
   ·subst hbm;rw[if_neg hl];exact Rk h3.1 (Nat.le_refl _)
   ·exact h3.2 b (by omega)
structure JT(kn:List Lg)(out:Tb):Prop where
 le:out.length≤kn.length
 row:∀(k:Nat) (K:Lg) (s:XD),kn[k]?=some K→out[k]?=some s→s.1=K []∧Md K kn s.2 256
theorem Ot{α:Type} [BEq α] [LawfulBEq α]:∀ {a b:List α},a.Nodup→(∀x∈a,x∈b)→a.length≤b.length
 | [],_,_,_=>by simp
 |x::a,b,hn,hs=>by
  have hn':=List.nodup_cons.1 hn
  have:=Ot (a:=a) (b:=b.erase x) hn'.2 (fun y hy=>(List.mem_erase_of_ne (fun e=>by subst e;exact hn'.1 hy)).2 (hs y (by simp[hy])))
  rw[List.length_erase_of_mem (hs x (by simp))]at this
  have hp:0<b.length:=List.length_pos_of_mem (hs x (by simp))
  simp;omega
open Classical in
theorem KnOk.le{S kn:List Lg}(h:KnOk S kn):kn.length≤S.length:=Ot h.nd h.sub
theorem O8{S:List Lg}(hS:XF S):∀(fu:Nat) (kn:List Lg) (out:Tb),KnOk S kn→JT kn out→S.length<fu+out.length→
  ∃kn',Ext kn kn'∧KnOk S kn'∧JT kn' (Ib fu kn out)∧(Ib fu kn out).length=kn'.length
 |0,kn,out,h1,h2,h3=>by have:=h1.le;have:=h2.le;omega
 |fu+1,kn,out,h1,h2,h3=>by
  unfold Ib
  split
  ·rename_i K hK
   have hKm:=List.mem_of_getElem? hK
   obtain⟨g1,g2,g3⟩:=HT hS (h1.sub K hKm) h1 256 (Nat.le_refl _)
   have hgo:JT (Cn K kn 256).1 (out++[(K [],(Cn K kn 256).2)]):=by
    refine⟨?_,?_⟩
    ·have:=(List.getElem?_eq_some_iff.1 hK).1
     have:=g1.len
     simp;omega
    ·intro k K' s hk hs
     by_cases hlt:k<out.length
     ·rw[List.getElem?_append_left hlt]at hs
      have hk0:k<kn.length:=by have:=h2.le;omega
      have hk':kn[k]?=some K':=by
       obtain⟨more,hm⟩:=g1
       rw[hm,List.getElem?_append_left hk0]at hk;exact hk
      have:=h2.row k K' s hk' hs
      exact⟨this.1,this.2.ext g1⟩
     ·rw[List.getElem?_append_right (by omega)]at hs
      have hk0:k=out.length:=by
       have:=(List.getElem?_eq_some_iff.1 hs).1
       simp at this;omega
      subst hk0
      rw[Nat.sub_self]at hs
      simp at hs;subst hs
      have:=g1.get hK
      rw[this]at hk
      obtain rfl:K=K':=by simpa using hk
      exact⟨rf,g3⟩
   obtain⟨kn',e1,e2,e3,e4⟩:=O8 hS fu (Cn K kn 256).1 (out++[(K [],(Cn K kn 256).2)]) g2 hgo (by simp;omega)
   exact⟨kn',g1.trans e1,e2,e3,e4⟩
  ·rename_i hK
   have:=List.getElem?_eq_none_iff.1 hK
   exact⟨kn, .refl _,h1,h2,by have:=h2.le;omega⟩
theorem JT.lg{kn:List Lg}{out:Tb}(h:JT kn out)(he:out.length=kn.length):∀(w:List UInt8) (i:Nat) (K:Lg),kn[i]?=some K→B_ out (i:Int) w=K w
 | [],i,K,hk=>by
  have hi:=(List.getElem?_eq_some_iff.1 hk).1
  have hs:out[i]?=some out[i]:=List.getElem?_eq_getElem (by omega)
  have:=(h.row i K _ hk hs).1
  simp[B_,runT,fin,Fy,hs,this]
 |c::w,i,K,hk=>by
  have hi:=(List.getElem?_eq_some_iff.1 hk).1
  have hs:out[i]?=some out[i]:=List.getElem?_eq_getElem (by omega)
  have:=(h.row i K _ hk hs).2.2 c.toNat c.toNat_lt
  have e:B_ out (i:Int) (c::w)=B_ out (Je out (i:Int) c.toNat) w:=rfl
  have e2:Je out (i:Int) c.toNat=Cr out[i].2 c.toNat:=by simp[Je,Fy,hs];omega
  have e3:K (c::w)=KR K c.toNat w:=by simp[KR]
  rw[e,e2,e3]
  split at this
  ·rename_i hl
   rw[this.2]
   have h4:=Ir this.1
   exact JT.lg h he w _ _ (by rw[List.getElem?_eq_getElem h4,PM h4])
  ·rename_i hl
   rw[this,Jw (by decide)]
   have hl:live (KR K c.toNat)=false:=by simpa using hl
   exact(Hr.1 hl w).symm
theorem JT.wf{kn:List Lg}{out:Tb}(h:JT kn out)(he:out.length=kn.length):FW out:=by
 intro s hs
 obtain⟨i,hi,rfl⟩:=List.getElem_of_mem hs
 have hk:kn[i]?=some kn[i]:=List.getElem?_eq_getElem (by omega)
 have:=(h.row i _ _ hk (List.getElem?_eq_getElem hi)).2.1
 rw[he];exact this
theorem VG{S:List Lg}(hS:XF S){L:Lg}(hL:live L=true→L∈S){fu:Nat}(hf:S.length<fu):
  FW (Hx fu L)∧B_ (Hx fu L) 0=L∧(Hx fu L).length≤S.length∧(live L=true→0<(Hx fu L).length):=by
 unfold Hx
 split
 ·rename_i hl
  obtain⟨kn,h1,h2,h3,h4⟩:=O8 hS fu [L] [] ⟨by simp,by simpa using hL hl,by simpa using hl⟩ ⟨by simp,by simp⟩ (by simpa using hf)
  refine⟨h3.wf h4,funext fun w=>h3.lg h4 w 0 L (h1.get rf),by rw[h4];exact h2.le,fun _=>?_⟩
  rw[h4];have:=h1.len;simp at this;omega
 ·rename_i hl
  have hl:live L=false:=by simpa using hl
  refine⟨by simp[FW],funext fun w=>?_,by simp,fun h=>absurd h (by simp[hl])⟩
  rw[Hr.1 hl w];simp[B_,fin,Fy,runT]
theorem LZ{S:List Lg}(hS:XF S):∀(fu fu':Nat) (kn:List Lg) (out:Tb),KnOk S kn→JT kn out→S.length<fu+out.length→S.length<fu'+out.length→Ib fu kn out=Ib fu' kn out
 |0,_,kn,out,h1,h2,h3,_=>by have:=h1.le;have:=h2.le;omega
 |_,0,kn,out,h1,h2,_,h3=>by have:=h1.le;have:=h2.le;omega
 |fu+1,fu'+1,kn,out,h1,h2,h3,h4=>by
  unfold Ib
  split
  ·rename_i K hK
   have hKm:=List.mem_of_getElem? hK
   obtain⟨g1,g2,g3⟩:=HT hS (h1.sub K hKm) h1 256 (Nat.le_refl _)
   refine LZ hS fu fu' _ _ g2 ⟨?_,?_⟩ (by simp;omega) (by simp;omega)
   ·have:=(List.getElem?_eq_some_iff.1 hK).1
    have:=g1.len
    simp;omega
   ·intro k K' s hk hs
    by_cases hlt:k<out.length
    ·rw[List.getElem?_append_left hlt]at hs
     have hk0:k<kn.length:=by have:=h2.le;omega
     have hk':kn[k]?=some K':=by
      obtain⟨more,hm⟩:=g1
      rw[hm,List.getElem?_append_left hk0]at hk;exact hk
     have:=h2.row k K' s hk' hs
     exact⟨this.1,this.2.ext g1⟩
    ·rw[List.getElem?_append_right (by omega)]at hs
     have hk0:k=out.length:=by
      have:=(List.getElem?_eq_some_iff.1 hs).1
      simp at this;omega
     subst hk0
     rw[Nat.sub_self]at hs
     simp at hs;subst hs
     have:=g1.get hK
     rw[this]at hk
     obtain rfl:K=K':=by simpa using hk
     exact⟨rf,g3⟩
  ·rfl
theorem R2{S:List Lg}(hS:XF S){L:Lg}(hL:live L=true→L∈S){fu fu':Nat}(hf:S.length<fu)(hf':S.length<fu'):Hx fu L=Hx fu' L:=by
 unfold Hx
 split
 ·rename_i hl
  exact LZ hS fu fu' [L] [] ⟨by simp,by simpa using hL hl,by simpa using hl⟩ ⟨by simp,by simp⟩ (by simpa using hf) (by simpa using hf')
 ·rfl
def Xz(l:Tb):List Lg:=(List.range l.length).map fun i=>B_ l (i:Nat)
theorem Iq(l:Tb):(Xz l).length=l.length:=by simp[Xz]
theorem Nv{l:Tb}{i:Int}(h:0≤i)(h':i<l.length):B_ l i∈Xz l:=by
 refine List.mem_map.2 ⟨i.toNat,by simp;omega,?_⟩
 rw[Int.toNat_of_nonneg h]
theorem KK{l:Tb}(h:FW l):XF (Xz l):=by
 intro K hK b hb hl
 obtain⟨i,hi,rfl⟩:=List.mem_map.1 hK
 rw[KQ _ _ _ hb]at hl⊢
 rcases h.st (i:Int) b with h1|h1
 ·rw[h1,Oz (by decide)]at hl;cases hl
 ·exact Nv h1.1 h1.2
theorem OA{l:Tb}(hl:live (B_ l 0)=true):B_ l 0∈Xz l:=by
 cases l with
 |nil=>
  obtain⟨w,hw⟩:=Jv.1 hl
  exfalso
  have:B_ [] 0 w=false:=by simp[B_,fin,Fy]
  rw[this]at hw;cases hw
 |cons s l=>exact Nv (by decide) (by simp)
theorem Q1{l:Tb}(h:FW l){fu:Nat}(hf:l.length<fu):
  FW (Hx fu (B_ l 0))∧B_ (Hx fu (B_ l 0)) 0=B_ l 0∧(Hx fu (B_ l 0)).length≤l.length:=by
 have:=VG (KK h) OA (fu:=fu) (by rw[Iq];exact hf)
 rw[Iq]at this
 exact⟨this.1,this.2.1,this.2.2.1⟩
theorem MT{l:Tb}(h:FW l){fu fu':Nat}(hf:l.length<fu)(hf':l.length<fu'):Hx fu (B_ l 0)=Hx fu' (B_ l 0):=
 R2 (KK h) OA (by rw[Iq];exact hf) (by rw[Iq];exact hf')
noncomputable def He(l:Tb):Tb:=Hx (l.length+1) (B_ l 0)
theorem Q0{l:Tb}(h:FW l):FW (He l):=(Q1 h (by omega)).1
theorem Q3{l:Tb}(h:FW l):B_ (He l) 0=B_ l 0:=(Q1 h (by omega)).2.1
theorem PT{l l':Tb}(h:FW l)(h':FW l')(e:B_ l 0=B_ l' 0):He l=He l':=by
 have h1:He l=Hx (l.length+l'.length+1) (B_ l 0):=MT h (by omega) (by omega)
 have h2:He l'=Hx (l.length+l'.length+1) (B_ l' 0):=MT h' (by omega) (by omega)
 rw[h1,h2,e]
theorem R1{l:Tb}(h:FW l):He (He l)=He l:=PT (Q0 h) h (Q3 h)
end Go.GL
namespace Go.GL
open Go.GK
def YY(l:Tb):Prop:= ∀s∈l,∀e∈s.2,(0≤e.1∧e.1≤255)∧0≤e.2.1∧e.2.1≤255
def VW(l:Tb)(n:Nat):Prop:=l.length≤n∧∀s∈l,s.2.length≤n
theorem EJ.take_succ{es:List Gp}{m n j:Nat}(hj:j<es.length):
  EJ (es.take (j+1)) m n↔EJ (es.take j) m n∧(0≤es[j].1∧es[j].1≤es[j].2.1∧es[j].2.1<m∧0≤es[j].2.2∧es[j].2.2<n)∧(0<j→(es[j-1]'(by omega)).2.1<es[j].1):=by
 rw[←List.take_append_getElem hj]
 constructor
 ·rintro⟨h1,h2⟩
  have h3:=List.pairwise_append.1 h2
  refine⟨⟨fun e he=>h1 e (List.mem_append.2 (.inl he)),h3.1⟩,h1 _ (List.mem_append.2 (.inr (by simp))),fun h0=>h3.2.2 _ ?_ _ (by simp)⟩
  exact List.mem_take_iff_getElem.2 ⟨j-1,by omega,rf⟩
 ·rintro⟨⟨h1,h2⟩,h3,h4⟩
  refine⟨fun e he=>?_,List.pairwise_append.2 ⟨h2,by simp,fun a ha b hb=>?_⟩⟩
  ·rcases List.mem_append.1 he with he|he
   ·exact h1 e he
   ·simp at he;subst he;exact h3
  ·simp at hb;subst hb
   obtain⟨i,hi,rfl⟩:=List.mem_take_iff_getElem.1 ha
   have h0:0<j:=by omega
   have h5:=h4 h0
   rcases Nat.lt_or_ge i (j-1)with h|h
   ·have h6:=List.pairwise_iff_getElem.1 h2 i (j-1) (by simp;omega) (by simp;omega) h
    simp only[List.getElem_take]at h6
    have h7:=h1 (es[j-1]'(by omega)) (List.mem_take_iff_getElem.2 ⟨j-1,by omega,rfl⟩)
    omega
   ·obtain rfl:i=j-1:=by omega
    exact h5
theorem GQ{α:Type}(l:List α):l.take l.length=l:=List.take_of_length_le (Nat.le_refl _)
theorem Fc{α:Type}{l:List α}{k:Nat}(hk:k<l.length){x:α} :x∈l.take (k+1)↔x∈l.take k∨x=l[k]:=by
 rw[←List.take_append_getElem hk,List.mem_append];simp only[List.mem_singleton]
theorem ID{l:Tb}{n fu:Nat}(hb:YY l)(hs:VW l n)(hf:n<fu)(hn:n<4294967296):Ok (DH fu l) (fun r=>r=true↔FW l):=by
 unfold DH
 refine Ok.count (fun k=> ∀s∈l.take k,EJ s.2 256 l.length) l.length (by simp) (by have:=hs.1;omega) (fun k nx hk hJ hn=>?_) (fun nx hJ=>?_)
 ·unfold CL
  have hm:l[k]∈l:=List.getElem_mem hk
  have hsl:=hs.2 _ hm
  refine Ok.iT (by omega) (Ok.C3 hk ?_)
  refine Ok.count (fun j=>EJ (l[k].2.take j) 256 l.length) l[k].2.length (by simp;exact .nil) (by omega) (fun j nx' hj hE hn'=>?_) (fun nx' hE=>?_)
  ·unfold CK
   have hbe:=hb _ hm _ (List.getElem_mem hj)
   have hno:∀h:¬EJ (l[k].2.take (j+1)) 256 l.length,Ok (some false) (fun r=>r=true↔FW l):=fun h=>
    Ok.some ⟨fun h=>(by cases h),fun hw=>absurd ⟨fun e he=>(hw _ hm).rg e (List.mem_of_mem_take he),(hw _ hm).so.sublist (List.take_sublist _ _)⟩ h⟩
   rw[EJ.take_succ hj]at hno
   refine Ok.iT (by omega) (Ok.C3 hj ?_)
   refine Ok.ite (fun h=>hno (by omega)) fun h1=>Ok.ite (fun h=>hno (by omega)) fun h2=>Ok.ite (fun h=>hno (by omega)) fun h3=>Ok.ite (fun h4=>?_) (fun h4=>?_)
   ·have h5:((j:Int)-1).toNat=j-1:=by omega
    refine Ok.A4 (by unfold Dw;omega) (Ok.W3 (by omega) (by omega) ?_)
    refine Ok.ite (fun h=>hno ?_) fun h6=>hn' ((EJ.take_succ hj).2 ⟨hE,by omega,fun _=>?_⟩)
    ·rintro⟨_,_,h7⟩
     have:=h7 (by omega)
     simp only[h5]at h
     omega
    ·simp only[h5]at h6;omega
   ·exact hn' ((EJ.take_succ hj).2 ⟨hE,by omega,fun h=>by omega⟩)
  ·unfold CK
   refine Ok.iF (by omega) (hn fun s hs'=>?_)
   rcases(Fc hk).1 hs' with h|rfl
   ·exact hJ s h
   ·rw[GQ]at hE;exact hE
 ·unfold CL
  refine Ok.iF (by omega) (Ok.some ⟨fun _ s hs'=>hJ s (by rw[GQ];exact hs'),fun _=>rfl⟩)
theorem Sy{es:List Gp}{b j:Nat}(hj:j<es.length)(h:FB b es[j]=true)(hb:∀i (hi:i<j),FB b es[i]=false):Cr es b=es[j].2.2:=by
 have:es.find? (FB b)=some es[j]:=List.find?_eq_some_iff_getElem.2 ⟨h,j,hj,rfl,fun i hi=>by simp[hb i hi]⟩
 unfold Cr;rw[this]
theorem Pz{es:List Gp}{b:Nat}(hb:∀i (hi:i<es.length),FB b es[i]=false):Cr es b= -1:=by
 have:es.find? (FB b)=none:=List.find?_eq_none.2 fun e he=>by
  obtain⟨i,hi,rfl⟩:=List.getElem_of_mem he
  simp[hb i hi]
 unfold Cr;rw[this]
theorem Lj{l:Tb}{i:Int}(h0:0≤i)(h1:i<l.length):Fy l i=l[i.toNat]'(by omega):=by
 unfold Fy;rw[List.getD_eq_getElem?_getD,List.getElem?_eq_getElem (by omega)];rfl
open Classical in
noncomputable def Uv(l:Tb):Lg:=fun s=>decide (FW l)&&B_ l 0 s
theorem NN{l:Tb}(h:FW l):Uv l=B_ l 0:=by funext s;simp[Uv,h]
theorem Uu{l:Tb}(h:¬FW l)(s:List UInt8):Uv l s=false:=by simp[Uv,h]
theorem QF(i:Int)(s:List UInt8):B_ [] i s=false:=by simp[B_,fin,Fy]
theorem Rs(l:Tb)(i:Int)(c:UInt8)(w:List UInt8):runT l i (c::w)=runT l (Je l i c.toNat) w:=rfl
theorem Vx{l:Tb}{i:Int}(h0:0≤i)(h1:i<l.length):fin l i=(l[i.toNat]'(by omega)).1:=by
 unfold fin;rw[Lj h0 h1];simp[h0]
theorem P2{l:Tb}{s:BF}{n fu:Nat}(hb:YY l)(hs:VW l n)(hf:n<fu)(hn:n<4294967296)(hl:s.length<fu)(hl':s.length<4294967296):Ok (D0 fu l s) (fun r=>r=Uv l s):=by
 unfold D0
 refine Ok.ite (fun h=>Ok.some ?_) fun h0=>Ok.AV (ID hb hs hf hn) fun x hx=>Ok.bif (fun h=>Ok.some ?_) fun h=>?_
 ·obtain rfl:l=[]:=List.length_eq_zero_iff.1 (by omega)
  rw[NN (by simp[FW]),QF]
 ·refine(Uu (fun hw=>?_) s).symm
  have:=hx.2 hw;subst this;cases h
 have hw:FW l:=hx.1 (by cases x;cases h;rfl)
 rw[NN hw]
 refine Ok.loop (X:=Int×Int) (fun p=>(0≤p.1∧p.1<l.length)∧(0≤p.2∧p.2≤s.length)∧runT l 0 s=runT l p.1 (s.drop p.2.toNat)) (fun p=>s.length-p.2.toNat) ⟨⟨by decide,by omega⟩,⟨by decide,by omega⟩,rf⟩ (by simpa using hl) fun p nx hI _ hnx=>?_
 obtain⟨q,i⟩:=p
 obtain⟨⟨h1,h2⟩,⟨h3,h4⟩,h5⟩:=hI
 simp only at h1 h2 h3 h4 h5
 unfold Ek
 refine Ok.ite (fun hi=>Ok.W3 h1 h2 ?_) fun hi=>Ok.W3 h1 h2 (Ok.some ?_)
 ·have hil:i.toNat<s.length:=by omega
  have hst:Je l q (s[i.toNat]'hil).toNat=Cr (l[q.toNat]'(by omega)).2 (s[i.toNat]'hil).toNat:=by
   unfold Je;rw[if_neg (by omega),Lj h1 h2]
  have hr:runT l 0 s=runT l (Je l q (s[i.toNat]'hil).toNat) (s.drop (i+1).toNat):=by
   rw[h5,show(i+1).toNat=i.toNat+1 by omega,←Rs,List.drop_eq_getElem_cons hil]
  rw[hst]at hr
  have hsl:=hs.2 _ (List.getElem_mem (by omega:q.toNat<l.length))
  have hE:=hw _ (List.getElem_mem (by omega:q.toNat<l.length))
  generalize l[q.toNat]'(by omega)=st at hr hE hsl
  have hie:i=((i.toNat:Nat):Int):=by omega
  refine Ok.count (fun k=> ∀j (_:j<k) (hj:j<st.2.length),FB (s[i.toNat]'hil).toNat st.2[j]=false) st.2.length (by intro j h;omega) (by omega) (fun k nx' hk hJ hn'=>?_) (fun nx' hJ=>?_)
  ·unfold DI
   have hno:FB (s[i.toNat]'hil).toNat st.2[k]=false→∀j (_:j<k+1) (hj:j<st.2.length),FB (s[i.toNat]'hil).toNat st.2[j]=false:=fun h j hj hj'=>by
    rcases Nat.lt_or_ge j k with h2|h2
    ·exact hJ j h2 hj'
    ·obtain rfl:j=k:=by omega
     exact h
   refine Ok.iT (by omega) (Ok.C3 hk ?_)
   have hS:∀ {k:Int→Option Bool} {P},Ok (k (((s[i.toNat]'hil).toNat:Nat):Int)) P→Ok (AV (Iz s i) k) P:=fun h=>by
    rw[hie];exact Ok.Iz hil h
   refine hS (Ok.ite (fun h6=>hS (Ok.ite (fun h7=>Ok.A4 (by unfold Dw;omega) ?_) fun h7=>hn' (hno (by simp[FB,h7])))) fun h6=>hn' (hno (by simp[FB,h6])))
   have he:=Sy hk (by simp[FB,h6,h7]) fun i hi=>hJ i hi (by omega)
   rw[he]at hr
   have hto:=hE.rg _ (List.getElem_mem hk)
   exact hnx (_,i+1) ⟨hto.2.2.2,⟨by simp only;omega,by simp only;omega⟩,hr⟩ (by simp only;omega)
  ·unfold DI
   have he:=Pz fun i hi=>hJ i hi hi
   rw[he]at hr
   refine Ok.iF (by omega) (Ok.some ?_)
   have:=Li (l:=l) (s.drop (i+1).toNat) (i:= -1) (by decide)
   rw[←hr]at this
   unfold B_ fin;rw[decide_eq_false (by omega)];rfl
 ·have hil:i.toNat=s.length:=by omega
  rw[hil,List.drop_of_length_le (Nat.le_refl _)]at h5
  unfold B_;rw[h5];exact(Vx h1 h2).symm
theorem ON{α:Type}{a b:List α}(h:a.length=b.length)(k:∀j (h:j<a.length) (h':j<b.length),a[j]=b[j]):a=b:=List.ext_getElem h fun j h1 h2=>k j h1 h2
theorem Ok.ZL{R:Type}{P:R→Prop}{x y:Gp}{p q:Option R}(hp:x≠y→Ok p P)(hq:x=y→Ok q P):
  Ok (bif !(decide (([x.1,x.2.1,x.2.2]:List Int)=[y.1,y.2.1,y.2.2]))then p else q) P:=by
 have key:([x.1,x.2.1,x.2.2]:List Int)=[y.1,y.2.1,y.2.2]↔x=y:=
  ⟨fun h=>by simp at h;exact Prod.ext h.1 (Prod.ext h.2.1 h.2.2),fun h=>by rw[h]⟩
 by_cases h:x=y
 ·rw[decide_eq_true (key.2 h)];exact hq h
 ·rw[decide_eq_false (fun e=>h (key.1 e))];exact hp h
theorem PB{a b:List Gp}{fu:Nat}(hf:a.length<fu):Ok (EM fu a b) (fun r=>r=true↔a=b):=by
 unfold EM
 refine Ok.ite (fun h=>Ok.some ⟨fun h=>(by cases h),fun h'=>by subst h';exact absurd rfl h⟩) fun h=>?_
 have hl:a.length=b.length:=by omega
 refine Ok.count (fun k=> ∀j (_:j<k) (h:j<a.length) (h':j<b.length),a[j]=b[j]) a.length (by intro j h;omega) hf (fun k nx hk hJ hn=>?_) (fun nx hJ=>?_)
 ·unfold CZ
  refine Ok.iT (by omega) (Ok.C3 hk (Ok.C3 (by omega) ?_))
  have hkb:k<b.length:=by omega
  refine Ok.ZL (fun h=>Ok.some ⟨fun h=>(by cases h),fun h'=>?_⟩) fun h=>hn fun j hj h1 h2=>?_
  ·subst h';exact absurd rfl h
  ·rcases Nat.lt_or_ge j k with h3|h3
   ·exact hJ j h3 h1 h2
   ·obtain rfl:j=k:=by omega
    exact h
 ·unfold CZ
  exact Ok.iF (by omega) (Ok.some ⟨fun _=>ON hl fun j h h'=>hJ j h h h',fun _=>rfl⟩)
theorem SE{a b:XD}{fu:Nat}(hf:a.2.length<fu):Ok (Hg fu a b) (fun r=>r=true↔a=b):=by
 unfold Hg
 refine Ok.bif (fun h=>Ok.AV (PB hf) fun r hr=>Ok.some ?_) fun h=>Ok.some ⟨fun h=>(by cases h),fun h'=>by subst h';simp at h⟩
 rw[hr]
 exact⟨fun h'=>Prod.ext (by simpa using h) h',fun h'=>by rw[h']⟩
theorem R7{a b:Tb}{n fu:Nat}(hs:VW a n)(hf:n<fu):Ok (JN fu a b) (fun r=>r=true↔a=b):=by
 unfold JN
 refine Ok.AV (Q:=fun r=>r=true↔a=b) ?_ fun r hr=>Ok.some hr
 unfold B'
 refine Ok.ite (fun h=>Ok.some ⟨fun h=>(by cases h),fun h'=>by subst h';exact absurd rfl h⟩) fun h=>?_
 have hl:a.length=b.length:=by omega
 refine Ok.count (fun k=> ∀j (_:j<k) (h:j<a.length) (h':j<b.length),a[j]=b[j]) a.length (by intro j h;omega) (by have:=hs.1;omega) (fun k nx hk hJ hn=>?_) (fun nx hJ=>?_)
 ·unfold Bg
  have hkb:k<b.length:=by omega
  refine Ok.iT (by omega) (Ok.C3 hk (Ok.C3 (by omega) (Ok.AV (SE (by have:=hs.2 _ (List.getElem_mem hk);omega)) fun r hr=>?_)))
  refine Ok.bif (fun h=>Ok.some ⟨fun h=>(by cases h),fun h'=>?_⟩) fun h=>hn fun j hj h1 h2=>?_
  ·subst h';simp at hr;subst hr;cases h
  ·rcases Nat.lt_or_ge j k with h3|h3
   ·exact hJ j h3 h1 h2
   ·obtain rfl:j=k:=by omega
    exact hr.1 (by cases r;cases h;rfl)
 ·unfold Bg
  exact Ok.iF (by omega) (Ok.some ⟨fun _=>ON hl fun j h h'=>hJ j h h h',fun _=>rfl⟩)
end Go.GL
namespace Go.GL
open Go.GK Go.Lib
def UK(l:List UInt8):Nat:=l.foldl (fun a c=>10*a+(c.toNat-48)) 0
theorem Iw{d:Nat}(h:d<10):(UInt8.ofNat (48+d)).toNat=48+d:=by
 simp;omega
theorem IL(u:Nat):UK (decDigits u)=u:=by
 induction u using Nat.strongRecOn with
 |_ u ih=>
  rw[decDigits]
  split
  ·rename_i h
   unfold UK
   rw[List.foldl_cons,List.foldl_nil,Iw h];omega
  ·unfold UK at ih⊢
   rw[List.foldl_append,ih (u/10) (by omega),List.foldl_cons,List.foldl_nil,Iw (by omega)];omega
theorem Mo(u:Nat):∀c∈decDigits u,48≤c.toNat:=by
 induction u using Nat.strongRecOn with
 |_ u ih=>
  rw[decDigits]
  split
  ·intro c hc;rw[List.mem_singleton]at hc;subst hc;rw[Iw (by omega)];omega
  ·intro c hc
   rcases List.mem_append.1 hc with hc|hc
   ·exact ih (u/10) (by omega) c hc
   ·rw[List.mem_singleton]at hc;subst hc;rw[Iw (by omega)];omega
theorem Lv:∀(k u:Nat),u<10^ (k+1)→nDigits u≤k+1
 |0,u,h=>by rw[nDigits_small (by simpa using h)];omega
 |k+1,u,h=>by
  by_cases hu:u<10
  ·rw[nDigits_small hu];omega
  ·have hp:1≤10^k:=Nat.one_le_pow _ _ (by decide)
   rw[nDigits_big hu]
   have:=Lv k (u/10) (by rw[Nat.pow_succ]at h⊢;omega)
   omega
theorem Jz(u:Nat):itoa (u:Int)=decDigits u:=by unfold itoa;rw[if_neg (by omega)];simp
theorem OC{u:Nat}(h:u<10000000000):(itoa (u:Int)).length≤10:=by
 rw[Jz,decDigits_length];exact Lv 9 u (by simpa using h)
theorem Is{n:Int}(h:0≤n):(44:UInt8)∉itoa n:=by
 intro hm
 obtain⟨u,rfl⟩:∃u:Nat,n=u:=⟨n.toNat,by omega⟩
 rw[Jz]at hm
 have:=Mo u 44 hm
 exact absurd this (by decide)
theorem LK{n m:Int}(h:0≤n)(k:0≤m)(e:itoa n=itoa m):n=m:=by
 obtain⟨u,rfl⟩:∃u:Nat,n=u:=⟨n.toNat,by omega⟩
 obtain⟨v,rfl⟩:∃u:Nat,m=u:=⟨m.toNat,by omega⟩
 rw[Jz,Jz]at e
 have:=congrArg UK e
 rw[IL,IL]at this
 rw[this]
theorem Gz:∀ {A B R S:List UInt8},44∉A→44∉B→(R=[]∨R.head?=some 44)→(S=[]∨S.head?=some 44)→A++R=B++S→A=B∧R=S
 | [],[],_,_,_,_,_,_,h=>⟨rfl,h⟩
 | [],b::B,R,S,_,hB,hR,_,h=>by
  simp only[List.nil_append,List.cons_append]at h
  subst h
  rcases hR with hR|hR
  ·cases hR
  ·simp at hR;subst hR;exact absurd (by simp) hB
 |a::A,[],R,S,hA,_,_,hS,h=>by
  simp only[List.nil_append,List.cons_append]at h
  subst h
  rcases hS with hS|hS
  ·cases hS
  ·simp at hS;subst hS;exact absurd (by simp) hA
 |a::A,b::B,R,S,hA,hB,hR,hS,h=>by
  simp only[List.cons_append,List.cons.injEq]at h
  have:=Gz (fun hm=>hA (by simp[hm])) (fun hm=>hB (by simp[hm])) hR hS h.2
  exact⟨by rw[h.1,this.1],this.2⟩
def EW(l:List Int):BF:=l.flatMap fun x=>([44]:BF)++itoa x
def FA(l:List Int):BF:=l.flatMap fun x=>itoa x++([44]:BF)
theorem Hl(l:List Int):EW l=[]∨(EW l).head?=some 44:=by
 cases l with
 |nil=>exact .inl rfl
 |cons x l=>exact .inr (by simp[EW])
theorem UU:∀ {l m:List Int} {x y:Int},(∀z∈l,0≤z)→(∀z∈m,0≤z)→0≤x→0≤y→itoa x++EW l=itoa y++EW m→x=y∧l=m
 |l,m,x,y,hl,hm,hx,hy,h=>by
  obtain⟨h1,h2⟩:=Gz (Is hx) (Is hy) (Hl l) (Hl m) h
  refine⟨LK hx hy h1,?_⟩
  clear h h1
  induction l generalizing m with
  |nil=>
   cases m with
   |nil=>rfl
   |cons y m=>simp[EW]at h2
  |cons x l ih=>
   cases m with
   |nil=>simp[EW]at h2
   |cons y m=>
    have e1:itoa x++EW l=itoa y++EW m:=by simpa [EW]using h2
    obtain⟨h3,h4⟩:=Gz (Is (hl x (by simp))) (Is (hm y (by simp))) (Hl l) (Hl m) e1
    rw[LK (hl x (by simp)) (hm y (by simp)) h3,ih m (fun z hz=>hl z (by simp[hz])) (fun z hz=>hm z (by simp[hz])) h4]
theorem key_inj:∀ {l m:List Int},(∀z∈l,0≤z)→(∀z∈m,0≤z)→FA l=FA m→l=m
 | [],[],_,_,_=>rfl
 | [],y::m,_,_,h=>by simp[FA]at h
 |x::l,[],_,_,h=>by simp[FA]at h
 |x::l,y::m,hl,hm,h=>by
  have e1:itoa x++(44::FA l)=itoa y++(44::FA m):=by simpa [FA]using h
  obtain⟨h3,h4⟩:=Gz (Is (hl x (by simp))) (Is (hm y (by simp))) (.inr rfl) (.inr rfl) e1
  simp at h4
  rw[LK (hl x (by simp)) (hm y (by simp)) h3,key_inj (fun z hz=>hl z (by simp[hz])) (fun z hz=>hm z (by simp[hz])) h4]
section
variable {α : Type}
def Ec(n:Nat)(f:Nat→α):List α:=(List.range n).map f
theorem BS(n:Nat)(f:Nat→α):(Ec n f).length=n:=by simp[Ec]
theorem Ii{n:Nat}{f:Nat→α}{i:Nat}(h:i<(Ec n f).length):(Ec n f)[i]=f i:=by simp[Ec]
theorem K6{n:Nat}{f:Nat→α}{i:Nat}(h:i<n):(Ec n f)[i]?=some (f i):=by
 rw[List.getElem?_eq_getElem (by rw[BS];exact h),Ii]
theorem Db{n:Nat}{f g:Nat→α}(h:∀i,i<n→f i=g i):Ec n f=Ec n g:=
 List.map_congr_left fun i hi=>h i (List.mem_range.1 hi)
theorem Em(n:Nat)(f:Nat→α)(i:Nat)(x:α):(Ec n f).set i x=Ec n (fun j=>if j=i then x else f j):=by
 refine List.ext_getElem (by simp[Ec]) fun j h1 h2=>?_
 rw[List.getElem_set,Ii,Ii]
 by_cases h:i=j
 ·rw[if_pos h,if_pos h.symm]
 ·rw[if_neg h,if_neg (fun e=>h e.symm)]
theorem Gr(n:Nat)(x:α):List.replicate n x=Ec n (fun _=>x):=by
 refine List.ext_getElem (by simp[Ec]) fun j h1 h2=>by rw[Ii];simp
theorem HP(n:Nat)(f:Nat→α):Ec (n+1) f=Ec n f++[f n]:=by simp[Ec,List.range_succ]
theorem Qz{n:Nat}{f:Nat→α}{x:α} :x∈Ec n f↔∃i,i<n∧f i=x:=by simp[Ec]
theorem P6{n:Nat}{f g:Nat→α} :Ec n f=Ec n g↔∀i,i<n→f i=g i:=by
 refine⟨fun h i hi=>?_,Db⟩
 have:=congrArg (·[i]?) h
 simpa [K6 hi]using this
theorem BA{n:Nat}{f:Nat→α}{i:Nat}(h:i<n):idx (Ec n f) (i:Int)=some (f i):=by
 rw[JA (by rw[BS];exact h),Ii]
end
theorem OG{α:Type}{n:Nat}{f:Nat→α}{i:Int}(h0:0≤i)(h:i.toNat<n):idx (Ec n f) i=some (f i.toNat):=by
 rw[QN h0 (by rw[BS];omega),Ii]
section
variable {α β : Type}
theorem EA [DecidableEq α]:∀ {a b:List α},a.Nodup→(∀x∈a,x∈b)→a.length≤b.length
 | [],_,_,_=>by simp
 |x::a,b,hn,hs=>by
  have hn':=List.nodup_cons.1 hn
  have:=EA (a:=a) (b:=b.erase x) hn'.2 (fun y hy=>(List.mem_erase_of_ne (fun e=>by subst e;exact hn'.1 hy)).2 (hs y (by simp[hy])))
  rw[List.length_erase_of_mem (hs x (by simp))]at this
  have hp:0<b.length:=List.length_pos_of_mem (hs x (by simp))
  simp;omega
theorem Kp [DecidableEq α]:∀ {b a:List α},a.Nodup→(∀x∈a,x∈b)→b.length≤a.length→b.Nodup
 | [],_,_,_,_=> .nil
 |x::b,a,hn,hs,hl=>by
  by_cases hx:x∈b
  ·have:=EA (b:=b) hn (fun y hy=>by
    rcases List.mem_cons.1 (hs y hy)with rfl|h
    ·exact hx
    ·exact h)
   simp at hl;omega
  ·refine List.nodup_cons.2 ⟨hx,Kp (a:=a.erase x) (hn.erase x) (fun y hy=>?_) ?_⟩
   ·have h1:=List.Nodup.mem_erase_iff hn |>.1 hy
    rcases List.mem_cons.1 (hs y h1.2)with rfl|h
    ·exact absurd rf h1.1
    ·exact h
   ·have:=List.length_erase (a:=x) (l:=a)
    split at this<;>simp at hl<;>omega
structure Jc(n:Nat)(f:Nat→α)(u:List α):Prop where
 nd:u.Nodup
 mem:∀x,x∈u↔∃s,s<n∧f s=x
open Classical in
theorem Jc.le{n:Nat}{f:Nat→α}{u:List α}(h:Jc n f u):u.length≤n:=by
 have:=EA (b:=Ec n f) h.nd (fun x hx=>Qz.2 ((h.mem x).1 hx))
 rwa [BS]at this
open Classical in
theorem Jc.Yi{n:Nat}{f:Nat→α}{g:Nat→β}{u:List α}{v:List β}(hu:Jc n f u)(hv:Jc n g v)(hr:∀s t,s<n→t<n→g s=g t→f s=f t):
  u.length≤v.length∧(u.length=v.length→∀s t,s<n→t<n→f s=f t→g s=g t):=by
 have hc:∀x∈v,∃s,s<n∧g s=x:=fun x hx=>(hv.mem x).1 hx
 let p:β→α:=fun x=>if h:∃s,s<n∧g s=x then f (Classical.choose h)else f 0
 have hp:∀s,s<n→p (g s)=f s:=fun s hs=>by
  have h:∃t,t<n∧g t=g s:=⟨s,hs,rfl⟩
  have h1:=Classical.choose_spec h
  show(if h:∃t,t<n∧g t=g s then f (Classical.choose h)else f 0)=f s
  rw[dif_pos h];exact hr _ _ h1.1 hs h1.2
 have hs:∀y∈u,y∈v.map p:=fun y hy=>by
  obtain⟨s,hs,rfl⟩:=(hu.mem y).1 hy
  exact List.mem_map.2 ⟨g s,(hv.mem _).2 ⟨s,hs,rf⟩,hp s hs⟩
 refine⟨by have:=EA hu.nd hs;simpa using this,fun he s t hs' ht' hf=>?_⟩
 have hnd:=Kp hu.nd hs (by simp[he])
 have h1:=(hv.mem _).2 ⟨s,hs',rfl⟩
 have h2:=(hv.mem _).2 ⟨t,ht',rfl⟩
 have h3:p (g s)=p (g t):=by rw[hp s hs',hp t ht',hf]
 obtain⟨i,hi,e1⟩:=List.getElem_of_mem h1
 obtain⟨j,hj,e2⟩:=List.getElem_of_mem h2
 have h4:(v.map p)[i]'(by simpa using hi)=(v.map p)[j]'(by simpa using hj):=by simp[e1,e2,h3]
 have:i=j:=by
  rcases Nat.lt_trichotomy i j with h5|h5|h5
  ·exact absurd h4 (List.pairwise_iff_getElem.1 hnd _ _ (by simpa using hi) (by simpa using hj) h5)
  ·exact h5
  ·exact absurd h4.symm (List.pairwise_iff_getElem.1 hnd _ _ (by simpa using hj) (by simpa using hi) h5)
 subst this
 rw[←e1,←e2]
theorem Jc.zero(f:Nat→α):Jc 0 f []:=⟨.nil,by simp⟩
theorem Jc.new{n:Nat}{f:Nat→α}{u:List α}(h:Jc n f u)(hn:f n∉u):Jc (n+1) f (u++[f n]):=by
 refine⟨List.nodup_append.2 ⟨h.nd,by simp,fun a ha b hb=>?_⟩,fun x=>?_⟩
 ·simp at hb;subst hb;rintro rfl;exact hn ha
 ·rw[List.mem_append,h.mem,List.mem_singleton]
  constructor
  ·rintro(⟨s,hs,e⟩|rfl)
   ·exact⟨s,by omega,e⟩
   ·exact⟨n,by omega,rf⟩
  ·rintro⟨s,hs,rfl⟩
   rcases Nat.lt_or_ge s n with h1|h1
   ·exact .inl ⟨s,h1,rf⟩
   ·obtain rfl:s=n:=by omega
    exact .inr rf
theorem Jc.ZK{n:Nat}{f:Nat→α}{u:List α}(h:Jc n f u)(hn:f n∈u):Jc (n+1) f u:=by
 refine⟨h.nd,fun x=>?_⟩
 rw[h.mem]
 constructor
 ·rintro⟨s,hs,e⟩;exact⟨s,by omega,e⟩
 ·rintro⟨s,hs,rfl⟩
  rcases Nat.lt_or_ge s n with h1|h1
  ·exact⟨s,h1,rf⟩
  ·obtain rfl:s=n:=by omega
   exact(h.mem _).1 hn
end
end Go.GL
namespace Go.GL
open Go.GK
def Ends(l:Tb)(b:Nat):Prop:=b=0∨∃s∈l,∃e∈s.2,e.1=(b:Int)∨e.2.1+1=(b:Int)
structure CI(cs:List Int):Prop where
 zero:cs[0]?=some 0
 ZE:cs.Pairwise (· < ·)
 rg:∀c∈cs,0≤c∧c<256
def KL(cs:List Int)(i:Nat):Int:=if i+1<cs.length then cs.getD (i+1) 0-1 else 255
def GM(cs:List Int)(l:Tb):Prop:= ∀b:Nat,b<256→Ends l b→(b:Int)∈cs
theorem CI.pos{cs:List Int}(h:CI cs):0<cs.length:=(List.getElem?_eq_some_iff.1 h.zero).1
theorem CI.le{cs:List Int}(h:CI cs):cs.length≤256:=by
 have h1:(cs.map Int.toNat).Nodup:=by
  refine(List.pairwise_map.2 ?_)
  refine List.Pairwise.imp_of_mem (fun{a b} ha hb hab=>?_) h.ZE
  have:=h.rg a ha;have:=h.rg b hb;omega
 have:=EA (b:=List.range 256) h1 (fun x hx=>by
  obtain⟨c,hc,rfl⟩:=List.mem_map.1 hx
  have:=h.rg c hc
  exact List.mem_range.2 (by omega))
 simpa using this
theorem CI.lt{cs:List Int}(h:CI cs){i j:Nat}(hi:i<cs.length)(hj:j<cs.length)(hij:i<j):cs[i]<cs[j]:=List.pairwise_iff_getElem.1 h.ZE i j hi hj hij
theorem CI.Yg{cs:List Int}(h:CI cs):cs[0]'h.pos=0:=by
 have:=h.zero;rw[List.getElem?_eq_getElem h.pos]at this;simpa using this
theorem G_{cs:List Int}{i:Nat}(h:i+1<cs.length):KL cs i=cs[i+1]-1:=by
 unfold KL;rw[if_pos h,List.getD_eq_getElem?_getD,List.getElem?_eq_getElem h];rfl
theorem JD{cs:List Int}{i:Nat}(h:¬i+1<cs.length):KL cs i=255:=by unfold KL;rw[if_neg h]
theorem CI.hi{cs:List Int}(h:CI cs){i:Nat}(hi:i<cs.length):cs[i]≤KL cs i∧KL cs i<256:=by
 have h0:=h.rg _ (List.getElem_mem hi)
 by_cases h1:i+1<cs.length
 ·rw[G_ h1]
  have:=h.lt hi h1 (by omega)
  have:=h.rg _ (List.getElem_mem h1)
  omega
 ·rw[JD h1];omega
theorem CI.no{cs:List Int}(h:CI cs){i:Nat}(hi:i<cs.length){c:Int}(h1:cs[i]<c)(h2:c≤KL cs i):c∉cs:=by
 intro hm
 obtain⟨j,hj,rfl⟩:=List.getElem_of_mem hm
 have hij:i<j:=by
  rcases Nat.lt_trichotomy i j with h3|h3|h3
  ·exact h3
  ·subst h3;omega
  ·have:=h.lt hj hi h3;omega
 have hs:i+1<cs.length:=by omega
 rw[G_ hs]at h2
 rcases Nat.lt_or_ge (i+1) j with h3|h3
 ·have:=h.lt hs hj h3;omega
 ·obtain rfl:i+1=j:=by omega
  omega
theorem GM.const{cs:List Int}{l:Tb}(h:CI cs)(hc:GM cs l)(hw:FW l){i:Nat}(hi:i<cs.length){b:Nat}(h1:cs[i]≤b)(h2:(b:Int)≤KL cs i)(q:Int):Je l q b=Je l q cs[i].toNat:=by
 have hr:=h.rg _ (List.getElem_mem hi)
 have hh:=h.hi hi
 unfold Je
 split
 ·rfl
 ·have hE:∀e∈(Fy l q).2,FB b e=FB cs[i].toNat e:=by
   intro e he
   have hm:∃s∈l,e∈s.2:=by
    unfold Fy at he
    rw[List.getD_eq_getElem?_getD]at he
    cases hx:l[q.toNat]? with
    |none=>rw[hx]at he;simp at he
    |some s=>rw[hx]at he;exact⟨s,List.mem_of_getElem? hx,he⟩
   obtain⟨s,hs,he⟩:=hm
   have hg:=(hw s hs).rg e he
   have n1:¬(cs[i]<e.1∧e.1≤KL cs i):=fun⟨a1,a2⟩=>h.no hi a1 a2 (by
    have:=hc e.1.toNat (by omega) (.inr ⟨s,hs,e,he, .inl (by omega)⟩)
    rwa [show((e.1.toNat:Nat):Int)=e.1 by omega]at this)
   have n2:¬(cs[i]<e.2.1+1∧e.2.1+1≤KL cs i):=fun⟨a1,a2⟩=>h.no hi a1 a2 (by
    have:=hc (e.2.1+1).toNat (by omega) (.inr ⟨s,hs,e,he, .inr (by omega)⟩)
    rwa [show(((e.2.1+1).toNat:Nat):Int)=e.2.1+1 by omega]at this)
   simp only[FB]
   rw[show((cs[i].toNat:Nat):Int)=cs[i] by omega]
   congr 1
   ·exact decide_eq_decide.2 (by omega)
   ·exact decide_eq_decide.2 (by omega)
  unfold Cr
  rw[show(Fy l q).2.find? (FB b)=(Fy l q).2.find? (FB cs[i].toNat)from ?_]
  generalize(Fy l q).2=es at hE
  induction es with
  |nil=>rfl
  |cons e es ih=>
   rw[List.find?_cons,List.find?_cons,hE e (by simp),ih fun e he=>hE e (by simp[he])]
theorem CI.find{cs:List Int}(h:CI cs)(b:Nat)(hb:b<256):∃i,∃hi:i<cs.length,cs[i]≤b∧(b:Int)≤KL cs i:=by
 have key:∀k,k<cs.length→(∃i,∃hi:i<cs.length,cs[i]≤b∧(b:Int)≤KL cs i)∨∃hk:k<cs.length,cs[k]≤b:=by
  intro k
  induction k with
  |zero=>intro hk;exact .inr ⟨hk,by rw[h.Yg];omega⟩
  |succ k ih=>
   intro hk
   rcases ih (by omega)with h1|⟨h1,h2⟩
   ·exact .inl h1
   ·by_cases h3:cs[k+1]≤b
    ·exact .inr ⟨hk,h3⟩
    ·exact .inl ⟨k,h1,h2,by rw[G_ hk];omega⟩
 rcases key (cs.length-1) (by have:=h.pos;omega)with h1|⟨h1,h2⟩
 ·exact h1
 ·exact⟨_,h1,h2,by rw[JD (by omega)];omega⟩
theorem C4(p:Nat→Bool)(k:Nat):(List.range (k+1)).filter p=(List.range k).filter p++(if p k then [k]else []):=by
 rw[List.range_succ,List.filter_append];simp[List.filter_cons]
def ints(l:List Nat):List Int:=l.map fun(n:Nat)=>(n:Int)
theorem LN(a b:List Nat):ints (a++b)=ints a++ints b:=by simp[ints]
theorem T8{p:Nat→Bool}(h0:p 0=true):CI (ints ((List.range 256).filter p)):=by
 refine⟨?_,?_,?_⟩
 ·have:List.range 256=0::(List.range' 1 255):=by rw[List.range_eq_range'];rfl
  rw[this,List.filter_cons,if_pos h0];rfl
 ·refine List.pairwise_map.2 (List.Pairwise.imp (fun{a b} h=>by omega) (List.Pairwise.filter _ List.pairwise_lt_range))
 ·intro c hc
  obtain⟨x,hx,rfl⟩:=List.mem_map.1 hc
  have:=List.mem_range.1 (List.mem_filter.1 hx).1
  omega
theorem Xg{l:Tb}{n fu:Nat}(hw:FW l)(hs:VW l n)(hf:n<fu)(hf':256<fu):Ok (L_ fu l) (fun cs=>CI cs∧GM cs l):=by
 unfold L_
 refine Ok.Cq (a:=false) (by rw[Gr];exact BA (i:=0) (by decide)) ?_
 rw[Gr,Em]
 let E:Nat→Nat→Nat→Prop:=fun k j b=>b=0∨(∃s∈l.take k,∃e∈s.2,e.1=(b:Int)∨e.2.1+1=(b:Int))∨∃s,l[k]?=some s∧∃e∈s.2.take j,e.1=(b:Int)∨e.2.1+1=(b:Int)
 refine Ok.range (fun k x=> ∃p,x=Ec 257 p∧∀b,b<257→(p b=true↔E k 0 b)) l.length ⟨_,rf,fun b hb=>?_⟩ (by have:=hs.1;omega) (fun k x nx hk hJ hn=>?_) (fun x nx hJ=>?_)
 ·by_cases h:b=0<;>simp[E,h]
 ·unfold FU
  have hm:l[k]∈l:=List.getElem_mem hk
  have hsl:=hs.2 _ hm
  refine Ok.iT (by simp only;omega) (Ok.C3 hk ?_)
  refine Ok.range (fun j x=> ∃p,x=Ec 257 p∧∀b,b<257→(p b=true↔E k j b)) l[k].2.length hJ (by omega) (fun j x nx' hj hE hn'=>?_) (fun x nx' hE=>?_)
  ·unfold FT
   obtain⟨p,rfl,hp⟩:=hE
   have hg:=(hw _ hm).rg _ (List.getElem_mem hj)
   refine Ok.iT (by simp only;omega) (Ok.C3 hj ?_)
   simp only
   have e1:l[k].2[j].1=((l[k].2[j].1.toNat:Nat):Int):=by omega
   have e2:l[k].2[j].2.1+1=(((l[k].2[j].2.1+1).toNat:Nat):Int):=by omega
   refine Ok.Cq (by rw[e1];exact BA (by omega)) (Ok.A4 (by unfold Dw;omega) ?_)
   rw[Em]
   refine Ok.Cq (by rw[e2];exact BA (by omega)) ?_
   rw[Em]
   refine hn' _ ⟨_,rf,fun b hb=>?_⟩
   have hE:E k (j+1) b↔E k j b∨l[k].2[j].1=(b:Int)∨l[k].2[j].2.1+1=(b:Int):=by
    simp only[E,List.getElem?_eq_getElem hk,Option.some.injEq,exists_eq_left',Fc hj]
    constructor
    ·rintro(h|h|⟨e,h|rfl,h2⟩)
     ·exact .inl (.inl h)
     ·exact .inl (.inr (.inl h))
     ·exact .inl (.inr (.inr ⟨e,h,h2⟩))
     ·exact .inr h2
    ·rintro((h|h|⟨e,h,h2⟩)|h)
     ·exact .inl h
     ·exact .inr (.inl h)
     ·exact .inr (.inr ⟨e, .inl h,h2⟩)
     ·exact .inr (.inr ⟨_, .inr rf,h⟩)
   rw[hE]
   by_cases h1:b=(l[k].2[j].2.1+1).toNat
   ·simp only[h1,if_true,true_iff];exact .inr (.inr e2)
   ·by_cases h2:b=l[k].2[j].1.toNat
    ·simp only[h1,if_false];simp only[h2,if_true,true_iff];exact .inr (.inl e1)
    ·simp only[h1,h2,if_false,hp b hb]
     constructor
     ·exact .inl
     ·rintro(h|h|h)
      ·exact h
      ·omega
      ·omega
  ·unfold FT
   refine Ok.iF (by simp only;omega) (hn _ ?_)
   obtain⟨p,rfl,hp⟩:=hE
   refine⟨p,rf,fun b hb=>?_⟩
   rw[hp b hb]
   simp only[E,List.getElem?_eq_getElem hk,Option.some.injEq,exists_eq_left',Fc hk,GQ,List.take_zero]
   constructor
   ·rintro(h|⟨s,h1,h2⟩|h)
    ·exact .inl h
    ·exact .inr (.inl ⟨s, .inl h1,h2⟩)
    ·exact .inr (.inl ⟨_, .inr rf,h⟩)
   ·rintro(h|⟨s,h1|rfl,h2⟩|⟨s,_,e,he,_⟩)
    ·exact .inl h
    ·exact .inr (.inl ⟨s,h1,h2⟩)
    ·exact .inr (.inr h2)
    ·cases he
 ·unfold FU
  obtain⟨p,rfl,hp⟩:=hJ
  have hp':∀b,b<257→(p b=true↔Ends l b):=fun b hb=>by
   rw[hp b hb]
   simp only[E,GQ]
   constructor
   ·rintro(h|h|⟨s,h,_⟩)
    ·exact .inl h
    ·exact .inr h
    ·rw[List.getElem?_eq_none (Nat.le_refl _)]at h;cases h
   ·rintro(h|h)
    ·exact .inl h
    ·exact .inr (.inl h)
  refine Ok.iF (by simp only;omega) ?_
  refine Ok.range (fun k x=>x=ints ((List.range k).filter p)) 256 rf hf' (fun k x nx' hk hx hn=>?_) (fun x nx' hx=>?_)
  ·subst hx
   unfold FR
   refine Ok.iT (by simp only;omega) (Ok.Cq (BA (by omega)) (Ok.bif (fun h=>Ok.A4 ?_ (hn _ ?_)) fun h=>hn _ ?_))
   ·have:=List.length_filter_le p (List.range k)
    rw[List.length_range]at this
    simp[ints];unfold AJ;omega
   ·rw[C4,LN,if_pos h];rfl
   ·rw[C4,if_neg (by rw[h];decide),List.append_nil]
  ·subst hx
   unfold FR
   refine Ok.iF (by simp only;omega) (Ok.some ⟨T8 ((hp' 0 (by decide)).2 (.inl rf)),fun b hb hE=>?_⟩)
   exact List.mem_map.2 ⟨b,List.mem_filter.2 ⟨List.mem_range.2 hb,(hp' b (by omega)).2 hE⟩,rf⟩
end Go.GL
namespace Go.GL
open Go.GK
def sk(n:Nat)(t:Int):Int:=if t<0 then n else t
def HG(l:Tb)(cs:List Int)(q i:Nat):Int:=sk l.length (Je l (q:Nat) (cs.getD i 0).toNat)
def NO(l:Tb)(q:Nat):Bool:=(Fy l (q:Nat)).1
def Qp(l:Tb)(cs:List Int)(q:Nat):List Int:=Ec cs.length (HG l cs q)
def GJ(l:Tb)(cs cl:List Int):List Int×List (List Int)×List Bool×List Int:=(cs,Ec (l.length+1) (Qp l cs),Ec (l.length+1) (NO l),cl)
theorem getD_at{cs:List Int}{i:Nat}(h:i<cs.length):cs.getD i 0=cs[i]:=by rw[List.getD_eq_getElem?_getD,List.getElem?_eq_getElem h];rfl
theorem Ts(l:Tb)(t:Int)(h:t<l.length):B_ l (sk l.length t)=B_ l t:=by
 unfold sk
 split
 ·rename_i h
  funext w
  rw[Jw h]
  have hr:Fy l (l.length:Nat)=(false,[]):=by unfold Fy;simp
  cases w with
  |nil=>simp[B_,runT,fin,hr]
  |cons c w=>
   have:Je l (l.length:Nat) c.toNat= -1:=by unfold Je;rw[if_neg (by omega),hr];rfl
   show B_ l (Je l (l.length:Nat) c.toNat) w=false
   rw[this];exact Jw (by decide) w
 ·rfl
theorem XP{l:Tb}(hw:FW l)(q:Int)(b:Nat):0≤sk l.length (Je l q b)∧sk l.length (Je l q b)<(l.length+1:Nat):=by
 have:=hw.st q b
 unfold sk;split<;>omega
theorem MJ{c:Nat} :∀ {es:List Gp} {m n:Nat} (_:EJ es m n) (a:Int),es.foldl (fun a e=>if FB c e then e.2.2 else a) a=match es.find? (FB c)with|some e=>e.2.2|none=>a
 | [],_,_,_,_=>rfl
 |e::es,m,n,h,a=>by
  have h':EJ es m n:=⟨fun x hx=>h.rg x (by simp[hx]),(List.pairwise_cons.1 h.so).2⟩
  rw[List.foldl_cons,MJ h',List.find?_cons]
  by_cases he:FB c e=true
  ·rw[he,if_pos rfl]
   have:es.find? (FB c)=none:=List.find?_eq_none.2 fun x hx=>by
    have h1:=(List.pairwise_cons.1 h.so).1 x hx
    simp[FB]at he⊢;omega
   rw[this]
  ·rw[if_neg he];simp[he]
theorem Rj{c:Nat}{es:List Gp}{m n:Nat}(h:EJ es m n):es.foldl (fun a e=>if FB c e then e.2.2 else a) (n:Int)=sk n (Cr es c):=by
 rw[MJ h]
 unfold Cr
 cases he:es.find? (FB c)with
 |some e=>
  have:=h.rg e (List.mem_of_find?_eq_some he)
  simp only[sk];rw[if_neg (by omega)]
 |none=>rfl
theorem OU{l:Tb}{n fu:Nat}(hw:FW l)(hs:VW l n)(hn:n<4294967296)(hf:n<fu)(hf':256<fu):Ok (Fq fu l) (fun x=> ∃cs,CI cs∧GM cs l∧x=GJ l cs []):=by
 unfold Fq
 refine Ok.AV (Xg hw hs hf hf') fun cs ⟨hc1,hc2⟩=>?_
 have hcl:=hc1.le
 have hln:=hs.1
 refine Ok.Lp (fun k y x=>x=Ec k (NO l)∧y=Ec k (Qp l cs)) l.length ⟨rf,rf⟩ (by omega) (fun k x y nx hk hJ hnx=>?_) (fun x y nx hJ=>?_)
 ·obtain⟨rfl,rfl⟩:=hJ
  unfold Du;dsimp only
  have hm:l[k]∈l:=List.getElem_mem hk
  have hsl:=hs.2 _ hm
  have hE:=hw _ hm
  have hrow:Fy l (k:Nat)=l[k]:=Lj (by omega) (by omega)
  refine Ok.iT (by omega) (Ok.C3 hk (Ok.A4 (by unfold AJ;omega) ?_))
  rw[Gr]
  refine Ok.range (fun i x=>x=Ec cs.length (fun j=>if j<i then HG l cs k j else 0)) cs.length (by simp) (by omega) (fun i x nx' hi hE' hn'=>?_) (fun x nx' hE'=>?_)
  ·subst hE'
   unfold Dt;dsimp only
   refine Ok.iT (by omega) (Ok.C3 hi (Ok.Cq (BA hi) ?_))
   rw[Em]
   have hci:=hc1.rg _ (List.getElem_mem hi)
   refine Ok.range (fun j x=>x=Ec cs.length (fun q=>if q=i then(l[k].2.take j).foldl (fun a e=>if FB cs[i].toNat e then e.2.2 else a) (l.length:Int)else if q<i then HG l cs k q else 0)) l[k].2.length (by simp) (by omega) (fun j x nx2 hj hx hn2=>?_) (fun x nx2 hx=>?_)
   ·subst hx
    unfold Ds;dsimp only
    refine Ok.iT (by omega) (Ok.C3 hj ?_)
    have hs:(l[k].2.take (j+1)).foldl (fun a e=>if FB cs[i].toNat e then e.2.2 else a) (l.length:Int)=if FB cs[i].toNat l[k].2[j]then l[k].2[j].2.2 else(l[k].2.take j).foldl (fun a e=>if FB cs[i].toNat e then e.2.2 else a) (l.length:Int):=by
     rw[←List.take_append_getElem hj,List.foldl_append];rfl
    have hno:FB cs[i].toNat l[k].2[j]=false→Ok (nx2 (Ec cs.length (fun q=>if q=i then(l[k].2.take j).foldl (fun a e=>if FB cs[i].toNat e then e.2.2 else a) (l.length:Int)else if q<i then HG l cs k q else 0),j+1)) (fun x=> ∃cs,CI cs∧GM cs l∧x=GJ l cs []):=fun h=>hn2 _ (by rw[hs,h];rfl)
    refine Ok.ite (fun h1=>Ok.ite (fun h2=>Ok.Cq (BA hi) ?_) fun h2=>?_) fun h1=>?_
    ·rw[Em]
     refine hn2 _ (Db fun q hq=>?_)
     rw[hs,show FB cs[i].toNat l[k].2[j]=true by simp[FB];omega]
     by_cases h:q=i<;>simp[h]
    ·exact hno (by simp only[FB,Bool.and_eq_false_iff,decide_eq_false_iff_not];omega)
    ·exact hno (by simp only[FB,Bool.and_eq_false_iff,decide_eq_false_iff_not];omega)
   ·subst hx
    unfold Ds;dsimp only
    refine Ok.iF (by omega) (hn' _ (Db fun q hq=>?_))
    rw[GQ,Rj hE]
    by_cases h:q=i
    ·subst h
     simp only[if_true,Nat.lt_succ_self]
     unfold HG Je;rw[if_neg (by omega),hrow,getD_at hi]
    ·rw[if_neg h]
     by_cases h2:q<i
     ·rw[if_pos h2,if_pos (by omega)]
     ·rw[if_neg h2,if_neg (by omega)]
  ·subst hE'
   unfold Dt;dsimp only
   refine Ok.iF (by omega) (Ok.A4 (by rw[BS];unfold AJ;simp;omega) (Ok.A4 (by rw[BS];unfold AJ;simp;omega) (hnx _ _ ⟨?_,?_⟩)))
   ·rw[HP];unfold NO;rw[hrow]
   ·rw[HP];congr 1
    unfold Qp
    rw[Db (g:=HG l cs k) fun j hj=>by rw[if_pos hj]]
 ·obtain⟨rfl,rfl⟩:=hJ
  unfold Du;dsimp only
  refine Ok.iF (by omega) (Ok.A4 (by unfold AJ;omega) ?_)
  have hr:Fy l (l.length:Nat)=(false,[]):=by unfold Fy;simp
  refine Ok.range (fun i x=>x=Ec cs.length (fun j=>if j<i then(l.length:Int)else 0)) cs.length (by rw[Gr];rfl) (by omega) (fun i x nx' hi hx hn'=>?_) (fun x nx' hx=>?_)
  ·subst hx
   unfold Dr;dsimp only
   refine Ok.iT (by simp;omega) (Ok.Cq (BA hi) (hn' _ ?_))
   rw[Em]
   refine Db fun q hq=>?_
   by_cases h:q=i
   ·subst h;simp
   ·rw[if_neg h]
    by_cases h2:q<i
    ·rw[if_pos h2,if_pos (by omega)]
    ·rw[if_neg h2,if_neg (by omega)]
  ·subst hx
   unfold Dr;dsimp only
   refine Ok.iF (by simp) (Ok.A4 (by rw[BS];unfold AJ;simp;omega) (Ok.A4 (by rw[BS];unfold AJ;simp;omega) (Ok.some ⟨cs,hc1,hc2,?_⟩)))
   unfold GJ
   rw[HP,HP]
   have e1:NO l l.length=false:=by unfold NO;rw[hr]
   have e2:Qp l cs l.length=Ec cs.length (fun j=>if j<cs.length then(l.length:Int)else 0):=by
    unfold Qp
    refine Db fun q hq=>?_
    rw[if_pos hq]
    unfold HG Je;rw[if_neg (by omega),hr];rfl
   rw[e1,e2]
def C8(l:Tb):Nat:=l.length+1
theorem GZ{l:Tb}(hw:FW l)(cs:List Int)(q i:Nat):0≤HG l cs q i∧HG l cs q i<C8 l:=XP hw _ _
theorem MH{l:Tb}(hw:FW l){cs:List Int}(hc:CI cs)(q:Nat){i:Nat}(hi:i<cs.length):B_ l (HG l cs q i)=KR (B_ l (q:Nat)) cs[i].toNat:=by
 have hr:=hc.rg _ (List.getElem_mem hi)
 rw[KQ _ _ _ (by omega)]
 unfold HG
 rw[Ts _ _ (by have:=hw.st (q:Nat) (cs.getD i 0).toNat;omega),getD_at hi]
theorem LF{l:Tb}(hw:FW l){cs:List Int}(hc:CI cs)(hf:GM cs l)(q:Int){i b:Nat}(hi:i<cs.length)(hb:b<256)(h1:cs[i]≤b)(h2:(b:Int)≤KL cs i):KR (B_ l q) b=KR (B_ l q) cs[i].toNat:=by
 have hr:=hc.rg _ (List.getElem_mem hi)
 rw[KQ _ _ _ hb,KQ _ _ _ (by omega),hf.const hc hw hi h1 h2]
theorem I5(l:Tb)(q:Nat):B_ l (q:Nat) []=NO l q:=by simp[B_,runT,fin,NO]
theorem QE{l:Tb}(hw:FW l){cs:List Int}(hc:CI cs)(hf:GM cs l)(c:Nat→Int)
  (h1:∀s t,s<C8 l→t<C8 l→c s=c t→NO l s=NO l t)
  (h2:∀s t,s<C8 l→t<C8 l→c s=c t→∀i,i<cs.length→c (HG l cs s i).toNat=c (HG l cs t i).toNat):
  ∀(w:List UInt8) (s t:Nat),s<C8 l→t<C8 l→c s=c t→B_ l (s:Nat) w=B_ l (t:Nat) w
 | [],s,t,hs,ht,h=>by rw[I5,I5,h1 s t hs ht h]
 |b::w,s,t,hs,ht,h=>by
  obtain⟨i,hi,g1,g2⟩:=hc.find b.toNat b.toNat_lt
  have e:∀q:Nat,B_ l (q:Nat) (b::w)=B_ l (HG l cs q i) w:=fun q=>by
   rw[MH hw hc q hi,←LF hw hc hf q hi b.toNat_lt g1 g2];simp[KR]
  have r1:=GZ hw cs s i
  have r2:=GZ hw cs t i
  have:=QE hw hc hf c h1 h2 w (HG l cs s i).toNat (HG l cs t i).toNat (by omega) (by omega) (h2 s t hs ht h i hi)
  rw[e,e]
  rwa [Int.toNat_of_nonneg r1.1,Int.toNat_of_nonneg r2.1]at this
def FJ(l:Tb)(cs:List Int)(c:Nat→Int)(s:Nat):BF:=Lib.itoa (c s)++EW (Ec cs.length fun i=>c (HG l cs s i).toNat)
theorem K5(n:Nat)(f:Nat→Int):EW (Ec (n+1) f)=EW (Ec n f)++(([44]:BF)++Lib.itoa (f n)):=by
 rw[HP];simp[EW]
theorem Mv{n:Nat}{f:Nat→Int}(h:∀i,i<n→(Lib.itoa (f i)).length≤10):(EW (Ec n f)).length≤11*n:=by
 induction n with
 |zero=>simp[Ec,EW]
 |succ n ih=>
  rw[K5,List.length_append,List.length_append]
  have:=ih fun i hi=>h i (by omega)
  have:=h n (by omega)
  simp;omega
structure ClsB(l:Tb)(c:Nat→Int):Prop where
 rg:∀s,s<C8 l→0≤c s∧c s≤l.length
theorem RP{n:Int}(h0:0≤n)(h:n<10000000000):(Lib.itoa n).length≤10:=by
 obtain⟨u,rfl⟩:∃u:Nat,n=u:=⟨n.toNat,by omega⟩
 exact OC (by omega)
theorem M_{l:Tb}{cs:List Int}{c:Nat→Int}{n fu s:Nat}(hw:FW l)(hc:CI cs)(hb:ClsB l c)(hl:l.length≤n)(hn:n<4294967296)(hf:256<fu)(hs:s<C8 l):
  Ok (CR fu (GJ l cs (Ec (C8 l) c)) (s:Int)) (fun r=>r=FJ l cs c s∧r.length≤4096):=by
 unfold CR GJ;dsimp only
 have hcl:=hc.le
 have hlen:∀q,q<C8 l→(Lib.itoa (c q)).length≤10:=fun q hq=>by
  have:=hb.rg q hq
  exact RP this.1 (by omega)
 have hcs:=hb.rg s hs
 have h10:=hlen s hs
 refine Ok.Cq (BA hs) (Ok.A4 (by unfold Dw;omega) (Ok.A4 (by simp only[List.length_nil];unfold AJ;omega) (Ok.Cq (BA hs) ?_)))
 refine Ok.range (fun i x=>x=Lib.itoa (c s)++EW (Ec i fun i=>c (HG l cs s i).toNat)) cs.length (by simp[Ec,EW]) (by omega) (fun i x nx hi hx hnx=>?_) (fun x nx hx=>?_)
 ·subst hx
  unfold BT;dsimp only
  have hr:=GZ hw cs s i
  have hq:(HG l cs s i).toNat<C8 l:=by omega
  have h1:=hb.rg _ hq
  have h2:=hlen _ hq
  have h3:=Mv (n:=i) (f:=fun i=>c (HG l cs s i).toNat) fun j hj=>hlen _ (by have:=GZ hw cs s j;omega)
  refine Ok.iT (by simp only[Qp,BS];omega) (Ok.Cq (by unfold Qp;exact BA hi) (Ok.Cq (a:=c (HG l cs s i).toNat) ?_ (Ok.A4 (by unfold Dw;omega) (Ok.A4 (by simp only[List.length_cons,List.length_nil];unfold AJ;omega) (Ok.A4 (by simp only[List.length_append,List.length_cons,List.length_nil];unfold AJ;omega) (hnx _ ?_))))))
  ·rw[show HG l cs s i=(((HG l cs s i).toNat:Nat):Int) by omega];exact BA (by omega)
  ·rw[K5,List.append_assoc]
 ·subst hx
  unfold BT;dsimp only
  refine Ok.iF (by simp only[Qp,BS];omega) (Ok.some ⟨rf,?_⟩)
  have h3:=Mv (n:=cs.length) (f:=fun i=>c (HG l cs s i).toNat) fun j hj=>hlen _ (by have:=GZ hw cs s j;omega)
  rw[List.length_append];omega
theorem GR{l:Tb}{cs:List Int}{c:Nat→Int}(hw:FW l)(hb:ClsB l c){s t:Nat}(hs:s<C8 l)(ht:t<C8 l):
  FJ l cs c s=FJ l cs c t↔c s=c t∧∀i,i<cs.length→c (HG l cs s i).toNat=c (HG l cs t i).toNat:=by
 have hz:∀q,∀z∈(Ec cs.length fun i=>c (HG l cs q i).toNat),0≤z:=fun q z hz=>by
  obtain⟨i,_,rfl⟩:=Qz.1 hz
  exact(hb.rg _ (by have:=GZ hw cs q i;omega)).1
 constructor
 ·intro h
  obtain⟨h1,h2⟩:=UU (hz s) (hz t) (hb.rg s hs).1 (hb.rg t ht).1 h
  exact⟨h1,P6.1 h2⟩
 ·rintro⟨h1,h2⟩
  unfold FJ;rw[h1,P6.2 h2]
def En(m:List (BF×Int))(u:List BF):Prop:=m.length=u.length∧∀x,AA m x=if x∈u then some ((u.idxOf x:Nat):Int)else none
theorem En.nil:En [] []:=⟨rfl,fun x=>rfl⟩
theorem En.put{m:List (BF×Int)}{u:List BF}(h:En m u){x:BF}(hx:x∉u):En (Di m x (u.length:Int)) (u++[x]):=by
 refine⟨by rw[Iu,h.2,if_neg hx,h.1];simp,fun z=>?_⟩
 rw[Ha,h.2]
 by_cases hz:z=x
 ·subst hz
  rw[if_pos rfl,if_pos (by simp),List.idxOf_append,if_neg hx];simp
 ·rw[if_neg hz]
  by_cases hu:z∈u
  ·rw[if_pos hu,if_pos (by simp[hu]),List.idxOf_append,if_pos hu]
  ·rw[if_neg hu,if_neg (by simp[hu,hz])]
theorem En.some{m:List (BF×Int)}{u:List BF}(h:En m u)(x:BF):(AA m x).isSome=decide (x∈u):=by
 rw[h.2];by_cases hx:x∈u<;>simp[hx]
theorem En.getD{m:List (BF×Int)}{u:List BF}(h:En m u){x:BF}(hx:x∈u):(AA m x).getD 0=((u.idxOf x:Nat):Int):=by
 rw[h.2,if_pos hx];rfl
theorem RQ{α:Type} [BEq α] [LawfulBEq α]{u:List α}{x y:α}(hx:x∈u)(hy:y∈u)(h:u.idxOf x=u.idxOf y):x=y:=by
 have h1:=List.idxOf_lt_length_of_mem hx
 have h2:=List.idxOf_lt_length_of_mem hy
 have e1:=List.getElem_idxOf h1
 have e2:=List.getElem_idxOf h2
 rw[←e1,←e2];simp only[h]
structure Rf(l:Tb)(c:Nat→Int):Prop extends ClsB l c where
 iff:∀s t,s<C8 l→t<C8 l→(c s=c t↔B_ l (s:Nat)=B_ l (t:Nat))
structure Xs(l:Tb)(k:Nat)(c:Nat→Int):Prop extends ClsB l c where
 fwd:∀s t,s<C8 l→t<C8 l→B_ l (s:Nat)=B_ l (t:Nat)→c s=c t
 acc:∀s t,s<C8 l→t<C8 l→c s=c t→NO l s=NO l t
 Ia:k=0∨∃(key:Nat→BF) (u:List BF),Jc (C8 l) key u∧u.length=k∧∀s t,s<C8 l→t<C8 l→c s=c t→key s=key t
theorem Ry{l:Tb}{cs:List Int}{n fu:Nat}(hw:FW l)(h0:0<l.length)(hc:CI cs)(hf:GM cs l)(hl:l.length≤n)(hn:n<4294967296)(hfu:n+2<fu)(hfu':256<fu):
  Ok (DE fu (GJ l cs [])) (fun r=> ∃c,Rf l c∧r=GJ l cs (Ec (C8 l) c)):=by
 have hN:C8 l=l.length+1:=rfl
 unfold DE GJ;dsimp only
 simp only[BS]
 refine Ok.A4 (by unfold AJ;omega) ?_
 rw[Gr]
 refine Ok.range (fun k x=>x=Ec (C8 l) (fun s=>if s<k then(if NO l s then 1 else 0)else 0)) (C8 l) (by simp[C8]) (by omega) (fun k x nx hk hx hnx=>?_) (fun x nx hx=>?_)
 ·subst hx
  unfold Ck;dsimp only
  refine Ok.iT (by rw[BS];omega) (Ok.Cq (BA hk) (Ok.bif (fun h=>Ok.Cq (BA hk) (hnx _ ?_)) fun h=>hnx _ (Db fun s hs=>?_)))
  ·rw[Em]
   refine Db fun s hs=>?_
   by_cases h1:s=k
   ·subst h1;simp[h]
   ·rw[if_neg h1]
    by_cases h2:s<k
    ·simp[h2,show s<k+1 by omega]
    ·simp[h2,show¬s<k+1 by omega]
  ·by_cases h1:s=k
   ·subst h1;simp[h]
   ·by_cases h2:s<k
    ·simp[h2,show s<k+1 by omega]
    ·simp[h2,show¬s<k+1 by omega]
 ·subst hx
  unfold Ck;dsimp only
  refine Ok.iF (by rw[BS];omega) ?_
  refine Ok.loop (X:=Nat×List Int) (fun x=>x.1≤C8 l∧∃c,x.2=Ec (C8 l) c∧Xs l x.1 c) (fun x=>C8 l-x.1) ⟨by simp,_,rf,⟨⟨fun s hs=>?_⟩,fun s t hs ht h=>?_,fun s t hs ht h=>?_, .inl rf⟩⟩ (by simp only;omega) fun x nx hI _ hnx=>?_
  ·rw[if_pos hs];cases NO l s<;>simp<;>omega
  ·rw[if_pos hs,if_pos ht,←I5,←I5,h]
  ·simp only[hs,ht,if_true]at h
   cases h1:NO l s<;>cases h2:NO l t<;>simp[h1,h2]at h⊢
  obtain⟨k,cl⟩:=x
  obtain⟨hk,c,hcl,hI⟩:=hI
  simp only at hk hcl hI
  subst hcl
  unfold CS;dsimp only
  refine Ok.A4 (by rw[BS];unfold AJ;omega) ?_
  rw[Gr,BS]
  refine Ok.PG (fun j x y m=>x=Ec (C8 l) c∧∃u,Jc j (FJ l cs c) u∧En m u∧y=Ec (C8 l) (fun s=>if s<j then((u.idxOf (FJ l cs c s):Nat):Int)else 0)) (C8 l) ⟨rf,[], .zero _, .nil,by simp[C8]⟩ (by omega) (fun j x y m nx' hj hJ hnx'=>?_) (fun x y m nx' hJ=>?_)
  ·obtain⟨rfl,u,hu,hm,rfl⟩:=hJ
   have hul:=hu.le
   unfold Cf;dsimp only
   refine Ok.iT (by rw[BS];omega) (Ok.AV (M_ hw hc hI.toClsB hl hn hfu' hj) fun x hx=>?_)
   obtain⟨rfl,hxl⟩:=hx
   have hxc:(FJ l cs c j).length≤AJ:=by unfold AJ;omega
   refine Ok.A4 hxc (Ok.bif (fun h=>?_) fun h=>?_)
   ·rw[hm.some]at h
    have hnu:FJ l cs c j∉u:=by simpa using h
    refine Ok.A4 hxc (Ok.A4 (by rw[hm.1];unfold Dw;omega) (Ok.A4 (by rw[hm.1];unfold AJ;omega) ?_))
    unfold Ce
    refine Ok.Cq (BA hj) (hnx' _ _ _ ⟨rf,u++[FJ l cs c j],hu.new hnu,by rw[hm.1];exact hm.put hnu,?_⟩)
    rw[Em]
    refine Db fun s hs=>?_
    by_cases h1:s=j
    ·subst h1;rw[if_pos rfl,if_pos (by omega),List.idxOf_append,if_neg hnu,hm.1];simp
    ·rw[if_neg h1]
     by_cases h2:s<j
     ·rw[if_pos h2,if_pos (by omega),List.idxOf_append,if_pos ((hu.mem _).2 ⟨s,h2,rfl⟩)]
     ·rw[if_neg h2,if_neg (by omega)]
   ·rw[hm.some]at h
    have hnu:FJ l cs c j∈u:=by simpa using h
    unfold Ce
    refine Ok.Cq (BA hj) (hnx' _ _ _ ⟨rf,u,hu.ZK hnu,hm,?_⟩)
    rw[Em,hm.getD hnu]
    refine Db fun s hs=>?_
    by_cases h1:s=j
    ·subst h1;rw[if_pos rfl,if_pos (by omega)]
    ·rw[if_neg h1]
     by_cases h2:s<j
     ·rw[if_pos h2,if_pos (by omega)]
     ·rw[if_neg h2,if_neg (by omega)]
  ·obtain⟨rfl,u,hu,hm,rfl⟩:=hJ
   have hul:=hu.le
   have hpos:0<u.length:=List.length_pos_of_mem ((hu.mem _).2 ⟨0,by omega,rfl⟩)
   have hmem:∀s,s<C8 l→FJ l cs c s∈u:=fun s hs=>(hu.mem _).2 ⟨s,hs,rfl⟩
   unfold Cf;dsimp only
   have hcl:Ec (C8 l) (fun s=>if s<C8 l then((u.idxOf (FJ l cs c s):Nat):Int)else 0)=Ec (C8 l) (fun s=>((u.idxOf (FJ l cs c s):Nat):Int)):=
    Db fun s hs=>by rw[if_pos hs]
   rw[hcl]
   have hB:ClsB l (fun s=>((u.idxOf (FJ l cs c s):Nat):Int)):=⟨fun s hs=>by
    have:=List.idxOf_lt_length_of_mem (hmem s hs)
    omega⟩
   have hiff:∀s t,s<C8 l→t<C8 l→(((u.idxOf (FJ l cs c s):Nat):Int)=((u.idxOf (FJ l cs c t):Nat):Int)↔FJ l cs c s=FJ l cs c t):=fun s t hs ht=>
    ⟨fun h=>RQ (hmem s hs) (hmem t ht) (Int.ofNat_inj.1 h),fun h=>by rw[h]⟩
   have hfwd:∀s t,s<C8 l→t<C8 l→B_ l (s:Nat)=B_ l (t:Nat)→FJ l cs c s=FJ l cs c t:=fun s t hs ht h=>by
    refine(GR hw hI.toClsB hs ht).2 ⟨hI.fwd s t hs ht h,fun i hi=>?_⟩
    have r1:=GZ hw cs s i
    have r2:=GZ hw cs t i
    refine hI.fwd _ _ (by omega) (by omega) ?_
    rw[Int.toNat_of_nonneg r1.1,Int.toNat_of_nonneg r2.1,MH hw hc s hi,MH hw hc t hi,h]
   have hacc:∀s t,s<C8 l→t<C8 l→FJ l cs c s=FJ l cs c t→NO l s=NO l t:=fun s t hs ht h=>
    hI.acc s t hs ht ((GR hw hI.toClsB hs ht).1 h).1
   refine Ok.iF (by rw[BS];omega) (Ok.ite (fun h=>Ok.some ⟨fun s=>((u.idxOf (FJ l cs c s):Nat):Int),⟨hB,fun s t hs ht=>?_⟩,rf⟩) fun h=>?_)
   ·rw[hiff s t hs ht]
    refine⟨fun he=>?_,hfwd s t hs ht⟩
    rw[hm.1]at h
    have hk':u.length=k:=by omega
    obtain⟨key,v,hv,hvl,hck⟩:=hI.Ia.resolve_left (by omega)
    have hfin:=(hv.Yi hu (fun s t hs ht h=>hck s t hs ht ((GR hw hI.toClsB hs ht).1 h).1)).2 (by omega)
    funext w
    refine QE hw hc hf c (fun s t hs ht h=>hI.acc s t hs ht h) (fun s t hs ht h=>?_) w s t hs ht ((GR hw hI.toClsB hs ht).1 he).1
    exact((GR hw hI.toClsB hs ht).1 (hfin s t hs ht (hck s t hs ht h))).2
   ·have hlt:k<u.length:=by
     rcases hI.Ia with h0|⟨key,v,hv,hvl,hck⟩
     ·omega
     ·have:=(hv.Yi hu (fun s t hs ht h=>hck s t hs ht ((GR hw hI.toClsB hs ht).1 h).1)).1
      rw[hm.1]at h;omega
    refine hnx (m.length,_) ⟨by rw[hm.1];exact hul,_,rf,⟨hB,fun s t hs ht h=>(hiff s t hs ht).2 (hfwd s t hs ht h),fun s t hs ht h=>hacc s t hs ht ((hiff s t hs ht).1 h), .inr ⟨FJ l cs c,u,hu,hm.1.symm,fun s t hs ht h=>(hiff s t hs ht).1 h⟩⟩⟩ ?_
    show C8 l-m.length<C8 l-k
    rw[hm.1];omega
end Go.GL
namespace Go.GL
open Go.GK
def Ia:Nat→(Nat→Bool)→Nat
 |0,_=>0
 |n+1,f=>Ia n f+(if f n then 0 else 1)
theorem LX{f g:Nat→Bool} :∀ {n:Nat},(∀j,j<n→f j=true→g j=true)→Ia n g≤Ia n f
 |0,_=>Nat.le_refl _
 |n+1,h=>by
  have:=LX (n:=n) fun j hj=>h j (by omega)
  have h1:=h n (by omega)
  simp only[Ia]
  cases hf:f n<;>cases hg:g n<;>simp[hf,hg]at h1⊢ <;>omega
theorem T_{f g:Nat→Bool} :∀ {n:Nat},(∀j,j<n→f j=true→g j=true)→(∃j,j<n∧f j=false∧g j=true)→Ia n g<Ia n f
 |0,_,⟨j,hj,_⟩=>by omega
 |n+1,h,⟨j,hj,h1,h2⟩=>by
  have h3:=h n (by omega)
  have h4:=LX (n:=n) (f:=f) (g:=g) fun j hj=>h j (by omega)
  simp only[Ia]
  by_cases hjn:j=n
  ·subst hjn;rw[h1,h2];simp;omega
  ·have:=T_ (n:=n) (f:=f) (g:=g) (fun j hj=>h j (by omega)) ⟨j,by omega,h1,h2⟩
   cases hf:f n<;>cases hg:g n<;>simp[hf,hg]at h3⊢ <;>omega
theorem QY:∀(n:Nat) (f:Nat→Bool),Ia n f≤n
 |0,_=>Nat.le_refl _
 |n+1,f=>by have:=QY n f;simp only[Ia];split<;>omega
theorem QD{L:Lg}{w:List UInt8}(h:L w=true):live L=true:=Jv.2 ⟨w,h⟩
theorem Tq{L:Lg}{b:Nat}(h:live (KR L b)=true):live L=true:=by
 obtain⟨w,hw⟩:=Jv.1 h;exact QD (w:=UInt8.ofNat b::w) hw
def Xt(l:Tb)(c:Nat→Int)(f:Nat→Bool):Prop:= ∀s,s<C8 l→f (c s).toNat=live (B_ l (s:Nat))
theorem ClsB.nat{l:Tb}{c:Nat→Int}(h:ClsB l c){s:Nat}(hs:s<C8 l):(c s).toNat<C8 l∧(((c s).toNat:Nat):Int)=c s:=by
 have:=h.rg s hs
 unfold C8;omega
theorem Vm {l : Tb} {cs : List Int} {c : Nat → Int} {n fu : Nat} (hw : FW l) (hc : CI cs) (hf : GM cs l) (hk : Rf l c) (hl : l.length ≤ n) (hn : n < 4294967296) (hfu : n + 2 < fu) (hfu' : 256 < fu) :
    Ok (Ej fu (GJ l cs (Ec (C8 l) c))) (fun r => ∃ f, r = Ec (C8 l) f ∧ Xt l c f) := by
  have hN : C8 l = l.length + 1 := rfl
  unfold Ej GJ; dsimp only
  rw [BS]
  refine Ok.A4 (by unfold AJ; omega) ?_
  rw [Gr]
  let Sd : (Nat → Bool) → Prop := fun f => ∀ j, j < C8 l → f j = true → ∀ s, s < C8 l → (c s).toNat = j → live (B_ l (s : Nat)) = true
  refine Ok.loop (X := List Bool × Bool) (fun x => ∃ f, x.1 = Ec (C8 l) f ∧ Sd f ∧ (x.2 = false → Xt l c f)) (fun x => (if x.2 then 1 else 0) + Ia (C8 l) (fun j => x.1.getD j false)) ⟨_, rfl, fun j _ h => (by cases h), fun h => (by cases h)⟩ ?_ fun x nx hI _ hnx => ?_
  · have := QY (C8 l) (fun j => (Ec (l.length + 1) fun _ => false).getD j false)
    simp only [if_true]; omega
  obtain ⟨o, again⟩ := x
  obtain ⟨f, ho, hS, hL⟩ := hI
  dsimp only at ho hL hnx
  subst ho
  unfold Dk
  have hgD : ∀ g : Nat → Bool, ∀ j, j < C8 l → (Ec (C8 l) g).getD j false = g j := fun g j hj => by
    rw [List.getD_eq_getElem?_getD, K6 hj]; rfl
  have hcg : ∀ g : Nat → Bool, Ia (C8 l) (fun j => (Ec (C8 l) g).getD j false) = Ia (C8 l) g := fun g =>
    Nat.le_antisymm (LX fun j hj h => by rw [hgD g j hj]; exact h) (LX fun j hj h => by rw [hgD g j hj] at h; exact h)
  refine Ok.bif (fun h => ?_) fun h => Ok.some ⟨f, rf, hL h⟩
  subst h
  have hnat := fun s hs => hk.toClsB.nat (s := s) hs
  refine Ok.Lp (fun k o ag => ∃ g, o = Ec (C8 l) g ∧ Sd g ∧ (∀ j, j < C8 l → f j = true → g j = true) ∧
      (ag = false → (∀ j, j < C8 l → g j = f j) ∧ ∀ s, s < k → (NO l s = true ∨ ∃ i, i < cs.length ∧ f (c (HG l cs s i).toNat).toNat = true) → f (c s).toNat = true) ∧
      (ag = true → ∃ j, j < C8 l ∧ f j = false ∧ g j = true)) (C8 l) ⟨f, rfl, hS, fun _ _ h => h, fun _ => ⟨fun _ _ => rfl, fun s hs => by omega⟩, fun h => (by cases h)⟩ (by omega) (fun k o ag nx' hkl hJ hnx' => ?_) (fun o ag nx' hJ => ?_)
  · obtain ⟨g, rfl, hSg, hfg, hg0, hg1⟩ := hJ
    unfold CN; dsimp only
    refine Ok.iT (by rw [BS]; omega) (Ok.Cq (BA hkl) (Ok.Cq (BA hkl) ?_))
    refine Ok.range (fun i b => b = true ↔ NO l k = true ∨ ∃ j, j < i ∧ g (c (HG l cs k j).toNat).toNat = true) cs.length (by simp) (by have := hc.le; omega) (fun i b nx2 hi hb hn2 => ?_) (fun b nx2 hb => ?_)
    · have hr := GZ hw cs k i
      have hq : (HG l cs k i).toNat < C8 l := by omega
      have hcq := hnat _ hq
      unfold CM; dsimp only
      refine Ok.iT (by unfold Qp; rw [BS]; omega) (Ok.Cq (by unfold Qp; exact BA hi) (Ok.bif (fun h => hn2 _ ?_) fun h => ?_))
      · subst h
        simp only [true_iff] at hb ⊢
        rcases hb with hb | ⟨j, hj, hb⟩
        · exact .inl hb
        · exact .inr ⟨j, by omega, hb⟩
      · refine Ok.Cq (a := c (HG l cs k i).toNat) (by rw [show HG l cs k i = (((HG l cs k i).toNat : Nat) : Int) by omega]; exact BA (by omega)) (Ok.Cq (a := g (c (HG l cs k i).toNat).toNat) (by rw [← hcq.2]; exact BA (by omega)) (hn2 _ ?_))
        subst h
        simp only [Bool.false_eq_true, false_iff] at hb
        constructor
        · exact fun h => .inr ⟨i, by omega, h⟩
        · rintro (h | ⟨j, hj, h⟩)
          · exact absurd (.inl h) hb
          · rcases Nat.lt_or_ge j i with h1 | h1
            · exact absurd (.inr ⟨j, h1, h⟩) hb
            · obtain rfl : j = i := by omega
              exact h
    · have hck := hnat k hkl
      have e1 : idx (Ec (C8 l) c) (k : Int) = some (c k) := BA hkl
      have e2 : idx (Ec (C8 l) g) (c k) = some (g (c k).toNat) := by rw [← hck.2]; exact BA hck.1
      unfold CM; dsimp only
      have hkeep : ∀ (hno : ¬ (b = true ∧ g (c k).toNat = false)), Ok (nx' (Ec (C8 l) g, ag, k + 1)) fun r => ∃ f, r = Ec (C8 l) f ∧ Xt l c f := fun hno => by
        refine hnx' _ _ ⟨g, rf, hSg, hfg, fun h => ⟨(hg0 h).1, fun s hs hor => ?_⟩, hg1⟩
        rcases Nat.lt_or_ge s k with h1 | h1
        · exact (hg0 h).2 s h1 hor
        · obtain rfl : s = k := by omega
          have hgf := (hg0 h).1
          rw [← hgf _ hck.1]
          have hbt : b = true := hb.2 (by
            rcases hor with hor | ⟨i, hi, hor⟩
            · exact .inl hor
            · refine .inr ⟨i, hi, ?_⟩
              have hr := GZ hw cs s i
              rw [hgf _ (hnat _ (by omega)).1]; exact hor)
          cases hgk : g (c s).toNat
          · exact absurd ⟨hbt, hgk⟩ hno
          · rfl
      refine Ok.iF (by unfold Qp; rw [BS]; omega) (Ok.bif (fun h => Ok.Cq e1 (Ok.Cq e2 (Ok.bif (fun h2 => Ok.Cq e1 (Ok.Cq e2 ?_)) fun h2 => hkeep ?_))) fun h => hkeep ?_)
      · have hgk : g (c k).toNat = false := by cases hh : g (c k).toNat <;> simp [hh] at h2 ⊢
        have hlv : live (B_ l (k : Nat)) = true := by
          rcases hb.1 h with h3 | ⟨j, hj, h3⟩
          · exact QD (w := []) (by rw [I5]; exact h3)
          · have hr := GZ hw cs k j
            have := hSg _ (hnat _ (by omega)).1 h3 _ (by omega : (HG l cs k j).toNat < C8 l) rfl
            rw [Int.toNat_of_nonneg hr.1, MH hw hc k hj] at this
            exact Tq this
        rw [Em]
        refine hnx' _ _ ⟨_, rfl, fun j hj hgj s hs hcs => ?_, fun j hj hfj => ?_, fun h => (by cases h), fun _ => ⟨(c k).toNat, hck.1, ?_, by simp⟩⟩
        · by_cases hjk : j = (c k).toNat
          · have hcc : c s = c k := by have := (hnat s hs).2; omega
            rw [(hk.iff s k hs hkl).1 hcc]; exact hlv
          · simp only [hjk, if_false] at hgj
            exact hSg j hj hgj s hs hcs
        · by_cases hjk : j = (c k).toNat
          · simp [hjk]
          · simp only [hjk, if_false]; exact hfg j hj hfj
        · cases hfk : f (c k).toNat
          · rfl
          · have := hfg _ hck.1 hfk; rw [this] at hgk; cases hgk
      · rintro ⟨_, h3⟩; rw [h3] at h2; cases h2
      · rintro ⟨h3, _⟩; rw [h3] at h; cases h
  · obtain ⟨g, rfl, hSg, hfg, hg0, hg1⟩ := hJ
    unfold CN; dsimp only
    refine Ok.iF (by rw [BS]; omega) (hnx (_, ag) ⟨g, rf, hSg, fun h => ?_⟩ ?_)
    · obtain ⟨h1, h2⟩ := hg0 h
      have hcl : ∀ (w : List UInt8) (s : Nat), s < C8 l → B_ l (s : Nat) w = true → f (c s).toNat = true := by
        intro w
        induction w with
        | nil => intro s hs hw'; exact h2 s hs (.inl (by rw [← I5]; exact hw'))
        | cons b w ih =>
          intro s hs hw'
          obtain ⟨i, hi, g1, g2⟩ := hc.find b.toNat b.toNat_lt
          have hr := GZ hw cs s i
          refine h2 s hs (.inr ⟨i, hi, ih _ (by omega) ?_⟩)
          rw [Int.toNat_of_nonneg hr.1, MH hw hc s hi, ← LF hw hc hf s hi b.toNat_lt g1 g2]
          simpa [KR] using hw'
      intro s hs
      have hcs := hnat s hs
      rw [h1 _ hcs.1]
      cases hfs : f (c s).toNat
      · cases hlv : live (B_ l (s : Nat))
        · rfl
        · obtain ⟨w, hw'⟩ := Jv.1 hlv
          rw [hcl w s hs hw'] at hfs; cases hfs
      · exact (hS _ hcs.1 hfs s hs rf).symm
    · rw [hcg, hcg]
      cases ag with
      | true =>
        have := T_ (n := C8 l) (f := f) (g := g) (fun j hj => hfg j hj) (hg1 rfl)
        simp only [if_true]; omega
      | false =>
        have := LX (n := C8 l) (f := f) (g := g) (fun j hj => hfg j hj)
        simp only [if_true, Bool.false_eq_true, if_false]; omega
theorem T3{l:Tb}{cs:List Int}{cl:List Int}{fu i:Nat}(hc:CI cs)(hi:i<cs.length):Ok (CG fu (GJ l cs cl) (i:Int)) (fun r=>r=KL cs i):=by
 unfold CG GJ;dsimp only
 have hcl:=hc.le
 refine Ok.A4 (by unfold Dw;omega) (Ok.ite (fun h=>Ok.A4 (by unfold Dw;omega) ?_) fun h=>Ok.some (by rw[JD (by omega)]))
 have h1:i+1<cs.length:=by omega
 have hh:=hc.hi hi
 have hr:=hc.rg _ (List.getElem_mem hi)
 rw[G_ h1]at hh
 rw[show((i:Int)+1)=((i+1:Nat):Int) by omega]
 refine Ok.C3 h1 (Ok.A4 (by unfold Dw;omega) (Ok.A4 (by unfold F8;omega) (Ok.some (by rw[G_ h1]))))
def pos(cs:List Int)(i:Nat):Nat:=if h:i<cs.length then cs[i].toNat else 256
theorem SX{cs:List Int}(h:CI cs):pos cs 0=0:=by unfold pos;rw[dif_pos h.pos,h.Yg];rfl
theorem pos_at{cs:List Int}(h:CI cs){i:Nat}(hi:i<cs.length):((pos cs i:Nat):Int)=cs[i]:=by
 unfold pos;rw[dif_pos hi];have:=h.rg _ (List.getElem_mem hi);omega
theorem U8{cs:List Int} :pos cs cs.length=256:=by unfold pos;rw[dif_neg (by omega)]
theorem SY{cs:List Int}(h:CI cs){i:Nat}(hi:i<cs.length):((pos cs (i+1):Nat):Int)=KL cs i+1:=by
 by_cases h1:i+1<cs.length
 ·rw[pos_at h h1,G_ h1];omega
 ·rw[JD h1];unfold pos;rw[dif_neg h1];rfl
theorem SZ{cs:List Int}(h:CI cs)(i:Nat):pos cs i≤256:=by
 unfold pos;split
 ·rename_i hi;have:=h.rg _ (List.getElem_mem hi);omega
 ·omega
theorem SB{α:Type}{l:List α}{x:α}(h:0<l.length):l.set (l.length-1) x=l.dropLast++[x]:=by
 rcases EB l with rfl|⟨l',y,rfl⟩
 ·simp at h
 ·simp
theorem SO{es:List Gp}{lo hi n:Int}(h:0<es.length):push es lo hi n=if(es[es.length-1]'(by omega)).2.2=n∧(es[es.length-1]'(by omega)).2.1+1=lo then es.set (es.length-1) ((es[es.length-1]'(by omega)).1,hi,n)else es++[(lo,hi,n)]:=by
 rw[SB h]
 rcases EB es with rfl|⟨l',y,rfl⟩
 ·simp at h
 ·rw[Ey];simp
theorem SQ(es:List Gp)(lo hi n:Int):(push es lo hi n).length≤es.length+1:=by
 rcases EB es with rfl|⟨l',y,rfl⟩
 ·simp[Jk]
 ·rw[Ey];split<;>simp
theorem TD{l:Tb}{cs cl:List Int}{es:List Gp}{i q fu:Nat}{x:Int}{ord:List Int}{m:List (Int×Int)}{nx:(List Int×List Gp×List (Int×Int)×Nat)→Option Tb}{P:Tb→Prop}
  (hc:CI cs) (hi:i<cs.length) (hE:EJ es (pos cs i) q) (hel:es.length≤256) (hx:Dw x) {n:Int} (hm:AA m x=some n)
  (h:Ok (nx (ord,push es cs[i] (KL cs i) n,m,i+1)) P):
  Ok (BP fu (GJ l cs cl) es i nx x ord m) P:=by
 have hci:=hc.rg _ (List.getElem_mem hi)
 have hh:=hc.hi hi
 have hg:(AA m x).getD 0=n:=by rw[hm];rfl
 have hadd:push es cs[i] (KL cs i) n=es++[(cs[i],KL cs i,n)]→Ok (AV (idx cs (i:Int)) fun x1839=>A4 (F8 x1839) (AV (CG fu (GJ l cs cl) (i:Int)) fun x1843=>A4 (F8 x1843) (A4 (Dw x) (A4 (es.length+([(x1839,x1843,(AA m x).getD 0)]:List (Int×Int×Int)).length≤AJ) (nx (ord,es++([(x1839,x1843,(AA m x).getD 0)]:List (Int×Int×Int)),m,i+1)))))) P:=fun he=>by
  refine Ok.C3 hi (Ok.A4 (by unfold F8;omega) (Ok.AV (T3 hc hi) fun a ha=>?_))
  subst ha
  refine Ok.A4 (by unfold F8;omega) (Ok.A4 hx (Ok.A4 (by simp;unfold AJ;omega) ?_))
  rw[hg];rw[he]at h;exact h
 unfold BP
 simp only[show(GJ l cs cl).1=cs from rfl]
 refine Ok.ite (fun h0=>?_) fun h0=>hadd ?_
 ·have hpos:0<es.length:=by omega
  have e1:((es.length:Int)-1)=((es.length-1:Nat):Int):=by omega
  have hll:es.length-1<es.length:=by omega
  have hr:=hE.rg _ (List.getElem_mem hll)
  have hp:=pos_at hc hi
  have hpl:=SZ hc i
  have hps:=SO (lo:=cs[i]) (hi:=KL cs i) (n:=n) hpos
  rw[hg,e1]
  rw[hg]at hadd
  simp only[Int.toNat_natCast]
  refine Ok.A4 (by unfold Dw;omega) (Ok.C3 hll (Ok.A4 hx (Ok.ite (fun h1=>Ok.A4 (by unfold Dw;omega) (Ok.C3 hll (Ok.A4 (by unfold Dw;omega) (Ok.C3 hi (Ok.ite (fun h2=>?_) fun h2=>?_))))) fun h1=>?_)))
  ·refine Ok.A4 (by unfold Dw;omega) (Ok.AV (T3 hc hi) fun a ha=>?_)
   subst ha
   refine Ok.A4 (by unfold F8;omega) (Ok.C3 hll ?_)
   rw[if_pos ⟨h1,h2⟩]at hps
   rw[hps]at h
   rw[h1];exact h
  ·exact hadd (by rw[hps,if_neg (fun hh=>h2 hh.2)])
  ·exact hadd (by rw[hps,if_neg (fun hh=>h1 hh.1)])
 ·obtain rfl:es=[]:=List.length_eq_zero_iff.1 (by omega)
  rfl
theorem RM(l:Tb):live (B_ l (l.length:Nat))=false:=by
 have:=Ts l (-1) (by omega)
 rw[show sk l.length (-1)=((l.length:Nat):Int)from rfl]at this
 rw[this];exact Oz (by decide)
structure KO(l:Tb)(c:Nat→Int)(kn:List Lg)(ord:List Int)(m:List (Int×Int)):Prop extends KnOk (Xz l) kn where
 len:ord.length=kn.length
 ord:∀(i:Nat) (q:Int),ord[i]?=some q→(0≤q∧q<l.length)∧kn[i]?=some (B_ l q)
 X6:m.length=kn.length
 map:∀s,s<C8 l→(B_ l (s:Nat)∈kn→AA m (c s)=some ((LJ kn (B_ l (s:Nat)):Nat):Int))∧(B_ l (s:Nat)∉kn→AA m (c s)=none)
theorem KO.nil(l:Tb)(c:Nat→Int):KO l c [] [] []:=⟨⟨.nil,by simp,by simp⟩,rfl,by simp,rfl,fun s hs=>⟨by simp,fun _=>rfl⟩⟩
theorem KO.put{l:Tb}{c:Nat→Int}{kn:List Lg}{ord:List Int}{m:List (Int×Int)}(hw:FW l)(hk:Rf l c)(h:KO l c kn ord m){s:Nat}(hs:s<l.length)(hn:B_ l (s:Nat)∉kn)(hl:live (B_ l (s:Nat))=true):
  KO l c (Mg kn (B_ l (s:Nat))) (ord++[(s:Int)]) (Di m (c s) (ord.length:Int)):=by
 have hN:C8 l=l.length+1:=rfl
 have hsN:s<C8 l:=by omega
 have h1:=h.toKnOk.Mg (D:=B_ l (s:Nat)) (Nv (by omega) (by omega)) hl
 have e:Mg kn (B_ l (s:Nat))=kn++[B_ l (s:Nat)]:=by unfold Mg;rw[if_pos (NA hn)]
 refine⟨h1,?_,?_,?_,?_⟩
 ·rw[e];simp[h.len]
 ·intro i q hq
  rw[e]
  by_cases hi:i<ord.length
  ·rw[List.getElem?_append_left hi]at hq
   have:=h.ord i q hq
   exact⟨this.1,by rw[List.getElem?_append_left (by rw[←h.len];exact hi)];exact this.2⟩
  ·rw[List.getElem?_append_right (by omega)]at hq
   have hi2:i=ord.length:=by
    have:=(List.getElem?_eq_some_iff.1 hq).1;simp at this;omega
   subst hi2
   simp at hq;subst hq
   exact⟨⟨by omega,by omega⟩,by rw[h.len];simp⟩
 ·rw[Iu,(h.map s hsN).2 hn,e,h.X6];simp
 ·intro t ht
  rw[e,Ha]
  by_cases hts:c t=c s
  ·have hL:=(hk.iff t s ht hsN).1 hts
   rw[if_pos hts,hL,h.len]
   refine⟨fun _=>?_,fun hno=>absurd (by simp) hno⟩
   have:=Jy kn (B_ l (s:Nat))
   rw[e,NA hn]at this
   rw[this]
  ·have hL:B_ l (t:Nat)≠B_ l (s:Nat):=fun hh=>hts ((hk.iff t s ht hsN).2 hh)
   rw[if_neg hts]
   refine⟨fun hm=>?_,fun hm=>(h.map t ht).2 fun hh=>hm (by simp[hh])⟩
   have hm':B_ l (t:Nat)∈kn:=by
    rcases List.mem_append.1 hm with hm|hm
    ·exact hm
    ·simp at hm;exact absurd hm hL
   rw[LI hm'];exact(h.map t ht).1 hm'
theorem NI{l:Tb}{cs:List Int}{c:Nat→Int}{n fu:Nat}(hw:FW l)(h0:0<l.length)(hc:CI cs)(hf:GM cs l)(hk:Rf l c)(hl:l.length≤n)(hn:n<4294967296)(hfu:n+2<fu)(hfu':256<fu):
  Ok (CT fu (GJ l cs (Ec (C8 l) c))) (fun r=>r=He l):=by
 have hN:C8 l=l.length+1:=rfl
 have hcl:=hc.le
 unfold CT
 refine Ok.AV (Vm hw hc hf hk hl hn hfu hfu') fun lv hlv=>?_
 obtain⟨f,rfl,hf'⟩:=hlv
 have hnat:=fun s hs=>hk.toClsB.nat (s:=s) hs
 have hc0:=hnat 0 (by omega)
 have e0:idx (GJ l cs (Ec (C8 l) c)).2.2.2 0=some (c 0):=by unfold GJ;exact BA (i:=0) (by omega)
 refine Ok.Cq e0 (Ok.Cq (a:=f (c 0).toNat) (by rw[←hc0.2];exact BA hc0.1) ?_)
 rw[hf' 0 (by omega)]
 have hzero:B_ l ((0:Nat):Int)=B_ l 0:=rfl
 rw[hzero]
 refine Ok.bif (fun h=>Ok.some ?_) fun h=>?_
 ·have h:live (B_ l 0)=false:=by cases hh:live (B_ l 0)<;>simp[hh]at h⊢
  unfold He Hx;rw[h];rfl
 have hlv:live (B_ l 0)=true:=by cases hh:live (B_ l 0)<;>simp[hh]at h⊢
 have hcr:=hk.rg 0 (by omega)
 refine Ok.Cq e0 (Ok.A4 (by unfold Dw;omega) (Ok.A4 (by simp) ?_))
 have hKO0:=(KO.nil l c).put hw hk (s:=0) h0 (by simp) hlv
 refine Ok.loop (X:=List Int×Tb×List (Int×Int)×Nat) (fun x=> ∃kn F,KO l c kn x.1 x.2.2.1∧x.2.2.2=x.2.1.length∧x.2.1.length≤kn.length∧l.length<F+x.2.1.length∧Ib F kn x.2.1=He l) (fun x=>l.length+1-x.2.2.2)
  ⟨[B_ l 0],l.length+1,hKO0,rfl,by simp,by simp,by unfold He Hx;rw[if_pos hlv]⟩ (by simp only;omega) fun x nx hI _ hnx=>?_
 obtain⟨ord,out,m,k⟩:=x
 obtain⟨kn,F,hKO,hkl,hol,hF,hgo⟩:=hI
 dsimp only at hKO hkl hol hF hgo
 subst hkl
 have hkn:kn.length≤l.length:=by have:=hKO.toKnOk.le;rw[Iq]at this;exact this
 have hlen:=hKO.len
 unfold Ci;dsimp only
 refine Ok.ite (fun hlt=>?_) fun hlt=>Ok.some ?_
 ·have hko:out.length<ord.length:=by omega
  obtain⟨⟨hq0,hq1⟩,hK⟩:=hKO.ord out.length _ (List.getElem?_eq_getElem hko)
  generalize hqe:ord[out.length]=q at hq0 hq1 hK
  obtain⟨qn,rfl⟩:∃qn:Nat,q=qn:=⟨q.toNat,by omega⟩
  have hqN:qn<C8 l:=by omega
  have e1:idx ord (out.length:Int)=some (qn:Int):=by rw[JA hko,hqe]
  obtain⟨F,rfl⟩:∃F',F=F'+1:=⟨F-1,by omega⟩
  have hKm:=List.mem_of_getElem? hK
  refine Ok.Cq e1 (Ok.Cq (by unfold GJ;exact BA hqN) (Ok.Cq e1 (Ok.Cq (by unfold GJ;exact BA hqN) ?_)))
  have hrow:=fun i hi=>HT (KK hw) (hKO.sub _ hKm) hKO.toKnOk (pos cs i) hi
  refine Ok.PG (fun i o es m'=>o.length=(Cn (B_ l (qn:Nat)) kn (pos cs i)).1.length∧es=(Cn (B_ l (qn:Nat)) kn (pos cs i)).2∧es.length≤i∧KO l c (Cn (B_ l (qn:Nat)) kn (pos cs i)).1 o m') cs.length
   (by rw[SX hc];exact⟨hlen,rfl,by simp,hKO⟩) (by omega) (fun i o es m' nx' hi hJ hnx'=>?_) (fun o es m' nx' hJ=>?_)
  ·obtain⟨hol',rfl,hesl,hKO'⟩:=hJ
   have hpl:=SZ hc i
   obtain⟨g1,g2,g3⟩:=hrow i hpl
   have hr:=GZ hw cs qn i
   obtain⟨tn,htn⟩:∃tn:Nat,HG l cs qn i=tn:=⟨(HG l cs qn i).toNat,by omega⟩
   have htN:tn<C8 l:=by omega
   have hct:=hnat tn htN
   have hcr:=hk.rg tn htN
   have hpa:=pos_at hc hi
   have hps:=SY hc hi
   have hhi:=hc.hi hi
   have hD:∀b,pos cs i≤b→b≤(KL cs i).toNat→KR (B_ l (qn:Nat)) b=B_ l (tn:Nat):=fun b b1 b2=>by
    rw[LF hw hc hf qn hi (by omega) (by omega) (by omega),←MH hw hc qn hi,htn]
   have hstep:Cn (B_ l (qn:Nat)) kn (pos cs (i+1))=Nb (Cn (B_ l (qn:Nat)) kn (pos cs i)) (B_ l (tn:Nat)) (pos cs i) (KL cs i).toNat:=by
    rw[show pos cs (i+1)=(KL cs i).toNat+1 by omega]
    exact Rv _ _ _ _ _ (by omega) hD
   unfold BQ;dsimp only
   refine Ok.iT (by unfold Qp;rw[BS];omega) (Ok.Cq (a:=(tn:Int)) (by unfold Qp;rw[←htn];exact BA hi) (Ok.Cq (a:=c tn) (by unfold GJ;exact BA htN) (Ok.Cq (a:=f (c tn).toNat) (by rw[←hct.2];exact BA hct.1) ?_)))
   rw[hf' tn htN]
   refine Ok.bif (fun hdead=>hnx' _ _ _ ?_) fun hlive=>?_
   ·have hdead:live (B_ l (tn:Nat))=false:=by cases hh:live (B_ l (tn:Nat))<;>simp[hh]at hdead⊢
    have e:Cn (B_ l (qn:Nat)) kn (pos cs (i+1))=Cn (B_ l (qn:Nat)) kn (pos cs i):=by rw[hstep];unfold Nb;rw[hdead];rfl
    rw[e];exact⟨hol',rfl,by omega,hKO'⟩
   ·have hlive:live (B_ l (tn:Nat))=true:=by cases hh:live (B_ l (tn:Nat))<;>simp[hh]at hlive⊢
    have htl:tn<l.length:=by
     rcases Nat.lt_or_ge tn l.length with h1|h1
     ·exact h1
     ·obtain rfl:tn=l.length:=by omega
      rw[RM]at hlive;cases hlive
    have hst:Cn (B_ l (qn:Nat)) kn (pos cs (i+1))=(Mg (Cn (B_ l (qn:Nat)) kn (pos cs i)).1 (B_ l (tn:Nat)),push (Cn (B_ l (qn:Nat)) kn (pos cs i)).2 cs[i] (KL cs i) (LJ (Cn (B_ l (qn:Nat)) kn (pos cs i)).1 (B_ l (tn:Nat)):Nat)):=by
     rw[hstep];unfold Nb;rw[if_pos hlive,hpa,Int.toNat_of_nonneg (by omega)]
    have hx64:Dw (c tn):=by unfold Dw;omega
    have hkl':=g2.le
    rw[Iq]at hkl'
    have hpush:=SQ (Cn (B_ l (qn:Nat)) kn (pos cs i)).2 cs[i] (KL cs i) (LJ (Cn (B_ l (qn:Nat)) kn (pos cs i)).1 (B_ l (tn:Nat)):Nat)
    refine Ok.A4 hx64 (Ok.bif (fun hnew=>?_) fun hold=>?_)
    ·have hnm:B_ l (tn:Nat)∉(Cn (B_ l (qn:Nat)) kn (pos cs i)).1:=fun hm=>by
      rw[(hKO'.map tn htN).1 hm]at hnew;simp at hnew
     have hput:=hKO'.put hw hk htl hnm hlive
     have hix:=NA hnm
     have hmem:=KJ (Cn (B_ l (qn:Nat)) kn (pos cs i)).1 (B_ l (tn:Nat))
     refine Ok.A4 hx64 (Ok.A4 (by unfold Dw;omega) (Ok.A4 (by rw[hKO'.X6];unfold AJ;omega) (Ok.A4 (by simp;unfold AJ;omega) ?_)))
     refine TD hc hi g3.1 (by omega) hx64 (((hput.map tn htN).1 hmem).trans (by rw[Jy])) (hnx' _ _ _ ?_)
     rw[hst]
     exact⟨by rw[hput.len],rf,by omega,hput⟩
    ·have hm:B_ l (tn:Nat)∈(Cn (B_ l (qn:Nat)) kn (pos cs i)).1:=Classical.byContradiction fun hm=>by
      rw[(hKO'.map tn htN).2 hm]at hold;simp at hold
     refine TD hc hi g3.1 (by omega) hx64 ((hKO'.map tn htN).1 hm) (hnx' _ _ _ ?_)
     rw[hst,LH hm]
     exact⟨hol',rf,by omega,hKO'⟩
  ·obtain⟨hol',rfl,hesl,hKO'⟩:=hJ
   rw[U8]at hol' hKO'⊢
   obtain⟨g1,g2,g3⟩:=HT (KK hw) (hKO.sub _ hKm) hKO.toKnOk 256 (Nat.le_refl _)
   have:=g1.len
   unfold BQ;dsimp only
   refine Ok.iF (by unfold Qp;rw[BS];omega) (Ok.A4 (by simp;unfold AJ;omega) (hnx _ ⟨(Cn (B_ l (qn:Nat)) kn 256).1,F,hKO',by simp,by simp;omega,by simp;omega,?_⟩ ?_))
   ·rw[←hgo];dsimp only
    conv=>rhs;unfold Ib
    rw[hK];dsimp only
    rw[I5]
   ·dsimp only;omega
 ·have hno:kn[out.length]?=none:=List.getElem?_eq_none (by omega)
  rw[←hgo]
  cases F with
  |zero=>rfl
  |succ F=>unfold Ib;rw[hno]
theorem LB{l:Tb}{n fu:Nat}(hb:YY l)(hs:VW l n)(hn:n<4294967296)(hfu:n+2<fu)(hfu':256<fu):
  Ok (DZ fu l) (fun r=>(FW l→r=(He l,0))∧(¬FW l→r=([],11))):=by
 unfold DZ
 refine Ok.AV (ID hb hs (by omega) hn) fun x hx=>Ok.bif (fun h=>Ok.some ?_) fun h=>?_
 ·have hno:¬FW l:=fun hw=>by have:=hx.2 hw;subst this;cases h
  exact⟨fun hw=>absurd hw hno,fun _=>rfl⟩
 ·have hw:FW l:=hx.1 (by cases x;cases h;rfl)
  refine Ok.ite (fun h=>Ok.some ⟨fun _=>?_,fun hno=>absurd hw hno⟩) fun h=>?_
  ·obtain rfl:l=[]:=List.length_eq_zero_iff.1 (by omega)
   have:live (B_ [] 0)=false:=Hr.2 fun w=>QF 0 w
   unfold He Hx;rw[this];rfl
  ·refine Ok.AV (OU hw hs hn (by omega) hfu') fun x hx=>?_
   obtain⟨cs,hc,hf,rfl⟩:=hx
   refine Ok.AV (Ry hw (by omega) hc hf hs.1 hn hfu hfu') fun x hx=>?_
   obtain⟨c,hk,rfl⟩:=hx
   refine Ok.AV (NI hw (by omega) hc hf hk hs.1 hn hfu hfu') fun x hx=>Ok.some ⟨fun _=>?_,fun hno=>absurd hw hno⟩
   rw[hx]
theorem Sn{l:Tb}{n fu:Nat}(hb:YY l)(hs:VW l n)(hn:n<4294967296)(hfu:n+2<fu)(hfu':256<fu):
  Ok (Fs fu l) (fun r=>r=true↔FW l∧He l=l):=by
 unfold Fs
 refine Ok.AV (LB hb hs hn hfu hfu') fun x hx=>?_
 by_cases hw:FW l
 ·rw[hx.1 hw]
  refine Ok.iT rf (Ok.AV (R7 hs (by omega)) fun r hr=>Ok.some ?_)
  rw[hr]
  exact⟨fun h=>⟨hw,h.symm⟩,fun h=>h.2.symm⟩
 ·rw[hx.2 hw]
  exact Ok.iF (by decide) (Ok.some ⟨fun h=>(by cases h),fun h=>absurd h.1 hw⟩)
end Go.GL
namespace Go.GL
open Go.GK
theorem FW.by{l:Tb}(h:FW l):YY l:=fun s hs e he=>by have:=(h s hs).rg e he;omega
theorem EJ.len{es:List Gp}{m n:Nat}(h:EJ es m n):es.length≤m:=by
 have h1:(es.map fun e=>e.1.toNat).Nodup:=by
  refine List.pairwise_map.2 ?_
  refine List.Pairwise.imp_of_mem (fun{a b} ha hb hab=>?_) h.so
  have:=h.rg a ha;have:=h.rg b hb;omega
 have:=EA (b:=List.range m) h1 (fun x hx=>by
  obtain⟨c,hc,rfl⟩:=List.mem_map.1 hx
  have:=h.rg c hc
  exact List.mem_range.2 (by omega))
 simpa using this
theorem FW.sh{l:Tb}(h:FW l){n:Nat}(hn:l.length≤n)(hn':256≤n):VW l n:=⟨hn,fun s hs=>by have:=(h s hs).len;omega⟩
end Go.GL
namespace Go.GL
open Go.GK
set_option maxRecDepth 100000
theorem Us(n:Nat):DG (n+2000)=some true:=by kernel_rfl
end Go.GL
namespace Go.GL
open Go.GK
theorem Ur{fu:Nat}(h:2000≤fu):Ok (DG fu) (fun r=>r=true):=by
 obtain⟨n,rfl⟩:∃n,fu=n+2000:=⟨fu-2000,by omega⟩
 exact Ok.of_eq (Us n) rf
theorem Ok.alive{fu:Nat}(h:2000≤fu):Ok (GK.AV (DG fu) fun x=>Option.some x) (fun r=>r=true):=Ok.AV (Ur h) fun _ h=>Ok.some h
theorem Zl{b:Bool}(h:(!b)=false):b=true:=by cases b<;>simp at h⊢
end Go.GL
namespace Go.GL
abbrev Tr:=Int→List UInt8→Int→Prop
inductive Cl(T:Tr):Tr
 |refl (s:Int):Cl T s [] s
 |step {s t u:Int} {v w:List UInt8} :T s v t→Cl T t w u→Cl T s (v++w) u
theorem Cl.one{T:Tr}{s t:Int}{v:List UInt8}(h:T s v t):Cl T s v t:=by
 have:=Cl.step h (Cl.refl t)
 rwa [List.append_nil]at this
theorem Cl.trans{T:Tr}{s t u:Int}{v w:List UInt8}(h:Cl T s v t)(k:Cl T t w u):Cl T s (v++w) u:=by
 induction h with
 |refl s=>exact k
 |step h1 _ ih=>rw[List.append_assoc];exact .step h1 (ih k)
theorem Cl.mono{T T':Tr}(h:∀s w u,T s w u→Cl T' s w u){s u:Int}{w:List UInt8}(k:Cl T s w u):Cl T' s w u:=by
 induction k with
 |refl s=>exact .refl s
 |step h1 _ ih=>exact(h _ _ _ h1).trans ih
def Un(T R:Tr):Tr:=fun s w u=>T s w u∨R s w u
def Gn(a:Int)(A:List UInt8→Prop)(b:Int):Tr:=fun s w u=>s=a∧u=b∧A w
inductive KF(B:List UInt8→Prop):List UInt8→Prop
 |nil:KF B []
 |cons {v w} :B v→KF B w→KF B (v++w)
def Jd(priv:Int→Prop)(T T':Tr):Prop:= ∀s w u,¬priv s→¬priv u→(Cl T s w u↔Cl T' s w u)
def Out(priv:Int→Prop)(R:Tr):Prop:= ∀s w u,R s w u→¬priv s∧¬priv u
def EV(priv:Int→Prop)(D:Tr)(a:Int)(A:List UInt8→Prop)(b:Int):Prop:=
 ∀R:Tr,Out priv R→Jd priv (Un R D) (Un R (Gn a A b))
theorem elim{R:Tr}{m a b:Int}{A B C:List UInt8→Prop}(hR:Out (fun s=>s=m) R)(ha:a≠m)(hb:b≠m):
  Jd (fun s=>s=m) (Un (Un (Un R (Gn a A m)) (Gn m B m)) (Gn m C b)) (Un R (Gn a (fun w=> ∃x y z,w=x++(y++z)∧A x∧KF B y∧C z) b)):=by
 intro s w u hs hu
 let T:=Un (Un (Un R (Gn a A m)) (Gn m B m)) (Gn m C b)
 let T':=Un R (Gn a (fun w=> ∃x y z,w=x++(y++z)∧A x∧KF B y∧C z) b)
 constructor
 ·intro h
  have key:∀ {s u:Int} {w:List UInt8},Cl T s w u→u≠m→(s≠m→Cl T' s w u)∧(s=m→∃y z r,w=y++(z++r)∧KF B y∧C z∧Cl T' b r u):=by
   intro s u w h
   induction h with
   |refl s=>exact fun hu=>⟨fun _=> .refl s,fun h=>absurd h hu⟩
   | @step s t u v w h1 h2 ih=>
    intro hu
    obtain⟨i1,i2⟩:=ih hu
    constructor
    ·intro hs
     rcases h1 with((h1|⟨rfl,rfl,h1⟩)|⟨rfl,rfl,h1⟩)|⟨rfl,rfl,h1⟩
     ·exact .step (.inl h1) (i1 (hR _ _ _ h1).2)
     ·obtain⟨y,z,r,rfl,e1,e2,e3⟩:=i2 rfl
      have:Cl T' s (v++(y++z)) b:=Cl.one (.inr ⟨rfl,rfl,v,y,z,rfl,h1,e1,e2⟩)
      have:=this.trans e3
      simpa using this
     ·exact absurd rf hs
     ·exact absurd rf hs
    ·rintro rfl
     rcases h1 with((h1|⟨rfl,_,h1⟩)|⟨_,rfl,h1⟩)|⟨_,rfl,h1⟩
     ·exact absurd rf (hR _ _ _ h1).1
     ·exact absurd rf ha
     ·obtain⟨y,z,r,rfl,e1,e2,e3⟩:=i2 rfl
      exact⟨v++y,z,r,by simp, .cons h1 e1,e2,e3⟩
     ·exact⟨[],v,w,by simp, .nil,h1,i1 hb⟩
  exact(key h hu).1 hs
 ·refine Cl.mono fun s w u h=>?_
  rcases h with h|⟨rfl,rfl,x,y,z,rfl,h1,h2,h3⟩
  ·exact Cl.one (.inl (.inl (.inl h)))
  ·have e1:Cl T s x m:=Cl.one (.inl (.inl (.inr ⟨rfl,rfl,h1⟩)))
   have e2:Cl T m y m:=by
    clear e1 h1 h3
    induction h2 with
    |nil=>exact .refl m
    |cons h4 _ ih=>exact .step (.inl (.inr ⟨rfl,rfl,h4⟩)) ih
   exact e1.trans (e2.trans (Cl.one (.inr ⟨rf,rf,h3⟩)))
theorem Jd.trans{p q:Int→Prop}{T T' T'':Tr}(h:Jd p T T')(k:Jd q T' T''):Jd (fun s=>p s∨q s) T T'':=fun s w u hs hu=>
 (h s w u (fun e=>hs (.inl e)) (fun e=>hu (.inl e))).trans (k s w u (fun e=>hs (.inr e)) (fun e=>hu (.inr e)))
theorem Jd.Rg{p q:Int→Prop}{T T':Tr}(h:Jd p T T')(hq:∀s,p s→q s):Jd q T T':=fun s w u hs hu=>h s w u (fun e=>hs (hq s e)) (fun e=>hu (hq u e))
theorem Jd.congr{p:Int→Prop}{T T' U U':Tr}(h:Jd p T T')(e:∀s w u,T s w u↔U s w u)(e':∀s w u,T' s w u↔U' s w u):Jd p U U':=by
 have h1:T=U:=by funext s w u;exact propext (e s w u)
 have h2:T'=U':=by funext s w u;exact propext (e' s w u)
 subst h1;subst h2;exact h
theorem EV.congr{p:Int→Prop}{D D':Tr}{a b:Int}{A A':List UInt8→Prop}(h:EV p D a A b)(e:∀s w u,D s w u↔D' s w u)(e':∀w,A w↔A' w):EV p D' a A' b:=fun R hR=>
 (h R hR).congr (fun s w u=>by simp only[Un,e]) (fun s w u=>by simp only[Un,Gn,e'])
theorem EV.Rg{p q:Int→Prop}{D:Tr}{a b:Int}{A:List UInt8→Prop}(h:EV p D a A b)(hq:∀s,p s→q s):EV q D a A b:=fun R hR=>
 (h R fun s w u r=>⟨fun e=>(hR s w u r).1 (hq s e),fun e=>(hR s w u r).2 (hq u e)⟩).Rg hq
theorem EV.ZM(a b:Int)(A:List UInt8→Prop)(p:Int→Prop):EV p (Gn a A b) a A b:=fun _ _ _ _ _ _ _=>Iff.rfl
theorem P5(R E M:Tr)(s:Int)(w:List UInt8)(u:Int):Un (Un R E) M s w u↔Un (Un R M) E s w u:=by
 constructor
 ·rintro((h|h)|h)
  ·exact .inl (.inl h)
  ·exact .inr h
  ·exact .inl (.inr h)
 ·rintro((h|h)|h)
  ·exact .inl (.inl h)
  ·exact .inr h
  ·exact .inl (.inr h)
theorem EV.alt{p q:Int→Prop}{D E:Tr}{a b:Int}{A B:List UInt8→Prop}(hD:EV p D a A b)(hE:EV q E a B b)(hpE:Out p E)(hqa:¬q a)(hqb:¬q b):
  EV (fun s=>p s∨q s) (Un D E) a (fun w=>A w∨B w) b:=fun R hR=>by
 have h1:=hD (Un R E) fun s w u h=>by
  rcases h with h|h
  ·exact⟨fun e=>(hR _ _ _ h).1 (.inl e),fun e=>(hR _ _ _ h).2 (.inl e)⟩
  ·exact hpE _ _ _ h
 have h2:=hE (Un R (Gn a A b)) fun s w u h=>by
  rcases h with h|⟨rfl,rfl,_⟩
  ·exact⟨fun e=>(hR _ _ _ h).1 (.inr e),fun e=>(hR _ _ _ h).2 (.inr e)⟩
  ·exact⟨hqa,hqb⟩
 refine((h1.congr (U:=Un R (Un D E)) (U':=Un (Un R (Gn a A b)) E) (fun s w u=>?_) (fun s w u=>?_)).trans h2).congr (fun _ _ _=>Iff.rfl) (fun s w u=>?_)
 ·constructor
  ·rintro((h|h)|h)
   ·exact .inl h
   ·exact .inr (.inr h)
   ·exact .inr (.inl h)
  ·rintro(h|h|h)
   ·exact .inl (.inl h)
   ·exact .inr h
   ·exact .inl (.inr h)
 ·exact P5 _ _ _ s w u
 ·simp only[Un,Gn]
  constructor
  ·rintro((h|⟨h1,h2,h3⟩)|⟨h1,h2,h3⟩)
   ·exact .inl h
   ·exact .inr ⟨h1,h2, .inl h3⟩
   ·exact .inr ⟨h1,h2, .inr h3⟩
  ·rintro(h|⟨h1,h2,h3|h3⟩)
   ·exact .inl (.inl h)
   ·exact .inl (.inr ⟨h1,h2,h3⟩)
   ·exact .inr ⟨h1,h2,h3⟩
theorem Uw{w:List UInt8} :KF (fun _=>False) w↔w=[]:=by
 constructor
 ·intro h
  cases h with
  |nil=>rfl
  |cons h _=>exact h.elim
 ·rintro rfl;exact .nil
theorem EV.seq{p q:Int→Prop}{D E:Tr}{a m b:Int}{A B:List UInt8→Prop}(hD:EV p D a A m)(hE:EV q E m B b)(hpE:Out p E)(hqa:¬q a)(hqm:¬q m)(ham:a≠m)(hbm:b≠m):
  EV (fun s=>p s∨q s∨s=m) (Un D E) a (fun w=> ∃x y,w=x++y∧A x∧B y) b:=fun R hR=>by
 have hRp:Out p R:=fun s w u h=>⟨fun e=>(hR _ _ _ h).1 (.inl e),fun e=>(hR _ _ _ h).2 (.inl e)⟩
 have hRq:Out q R:=fun s w u h=>⟨fun e=>(hR _ _ _ h).1 (.inr (.inl e)),fun e=>(hR _ _ _ h).2 (.inr (.inl e))⟩
 have hRm:Out (fun s=>s=m) R:=fun s w u h=>⟨fun e=>(hR _ _ _ h).1 (.inr (.inr e)),fun e=>(hR _ _ _ h).2 (.inr (.inr e))⟩
 have h1:=hD (Un R E) fun s w u h=>by
  rcases h with h|h
  ·exact hRp _ _ _ h
  ·exact hpE _ _ _ h
 have h2:=hE (Un R (Gn a A m)) fun s w u h=>by
  rcases h with h|⟨rfl,rfl,_⟩
  ·exact hRq _ _ _ h
  ·exact⟨hqa,hqm⟩
 have h3:=elim (R:=R) (m:=m) (a:=a) (b:=b) (A:=A) (B:=fun _=>False) (C:=B) hRm ham hbm
 have e1:Jd p (Un R (Un D E)) (Un (Un R (Gn a A m)) E):=h1.congr (fun s w u=>by
  constructor
  ·rintro((h|h)|h)
   ·exact .inl h
   ·exact .inr (.inr h)
   ·exact .inr (.inl h)
  ·rintro(h|h|h)
   ·exact .inl (.inl h)
   ·exact .inr h
   ·exact .inl (.inr h)) (fun s w u=>P5 _ _ _ s w u)
 have e3:Jd (fun s=>s=m) (Un (Un R (Gn a A m)) (Gn m B b)) (Un R (Gn a (fun w=> ∃x y,w=x++y∧A x∧B y) b)):=h3.congr (fun s w u=>by
  constructor
  ·rintro(((h|h)|⟨_,_,h⟩)|h)
   ·exact .inl (.inl h)
   ·exact .inl (.inr h)
   ·exact h.elim
   ·exact .inr h
  ·rintro((h|h)|h)
   ·exact .inl (.inl (.inl h))
   ·exact .inl (.inl (.inr h))
   ·exact .inr h) (fun s w u=>by
  simp only[Un,Gn,Uw]
  constructor
  ·rintro(h|⟨h1,h2,x,y,z,rfl,h3,rfl,h5⟩)
   ·exact .inl h
   ·exact .inr ⟨h1,h2,x,z,by simp,h3,h5⟩
  ·rintro(h|⟨h1,h2,x,y,rfl,h3,h4⟩)
   ·exact .inl h
   ·exact .inr ⟨h1,h2,x,[],y,by simp,h3,rf,h4⟩)
 exact(e1.trans (h2.trans e3)).Rg fun s h=>by
  rcases h with h|h|h
  ·exact .inl h
  ·exact .inr (.inl h)
  ·exact .inr (.inr h)
theorem EV.star{p:Int→Prop}{D:Tr}{a m b:Int}{B:List UInt8→Prop}(hD:EV p D m B m)(hpa:¬p a)(hpb:¬p b)(hpm:¬p m)(ham:a≠m)(hbm:b≠m):
  EV (fun s=>p s∨s=m) (Un (Un (Gn a (fun w=>w=[]) m) (Gn m (fun w=>w=[]) b)) D) a (KF B) b:=fun R hR=>by
 have hRp:Out p R:=fun s w u h=>⟨fun e=>(hR _ _ _ h).1 (.inl e),fun e=>(hR _ _ _ h).2 (.inl e)⟩
 have hRm:Out (fun s=>s=m) R:=fun s w u h=>⟨fun e=>(hR _ _ _ h).1 (.inr e),fun e=>(hR _ _ _ h).2 (.inr e)⟩
 have h1:=hD (Un R (Un (Gn a (fun w=>w=[]) m) (Gn m (fun w=>w=[]) b))) fun s w u h=>by
  rcases h with h|⟨rfl,rfl,_⟩|⟨rfl,rfl,_⟩
  ·exact hRp _ _ _ h
  ·exact⟨hpa,hpm⟩
  ·exact⟨hpm,hpb⟩
 have h3:=elim (R:=R) (m:=m) (a:=a) (b:=b) (A:=fun w=>w=[]) (B:=B) (C:=fun w=>w=[]) hRm ham hbm
 have e1:Jd p (Un R (Un (Un (Gn a (fun w=>w=[]) m) (Gn m (fun w=>w=[]) b)) D)) (Un (Un (Un R (Gn a (fun w=>w=[]) m)) (Gn m B m)) (Gn m (fun w=>w=[]) b)):=h1.congr (fun s w u=>by
  constructor
  ·rintro((h|h)|h)
   ·exact .inl h
   ·exact .inr (.inl h)
   ·exact .inr (.inr h)
  ·rintro(h|h|h)
   ·exact .inl (.inl h)
   ·exact .inl (.inr h)
   ·exact .inr h) (fun s w u=>by
  constructor
  ·rintro((h|h|h)|h)
   ·exact .inl (.inl (.inl h))
   ·exact .inl (.inl (.inr h))
   ·exact .inr h
   ·exact .inl (.inr h)
  ·rintro(((h|h)|h)|h)
   ·exact .inl (.inl h)
   ·exact .inl (.inr (.inl h))
   ·exact .inr h
   ·exact .inl (.inr (.inr h)))
 have e3:=h3.congr (fun _ _ _=>Iff.rfl) (U':=Un R (Gn a (KF B) b)) (fun s w u=>by
  simp only[Un,Gn]
  constructor
  ·rintro(h|⟨h1,h2,x,y,z,rfl,rfl,h4,rfl⟩)
   ·exact .inl h
   ·exact .inr ⟨h1,h2,by simpa using h4⟩
  ·rintro(h|⟨h1,h2,h3⟩)
   ·exact .inl h
   ·exact .inr ⟨h1,h2,[],w,[],by simp,rf,h3,rf⟩)
 exact e1.trans e3
theorem EV.none(p:Int→Prop)(a b:Int):EV p (fun _ _ _=>False) a (fun _=>False) b:=fun R _ s w u _ _=>by
 have:Un R (fun _ _ _=>False)=Un R (Gn a (fun _=>False) b):=by
  funext s w u;simp[Un,Gn]
 rw[this]
theorem EV.Zp{p:Int→Prop}{D:Tr}{a b:Int}{A:List UInt8→Prop}(h:EV p D a A b)(hab:a≠b)(hpa:¬p a)(hpb:¬p b)(w:List UInt8):Cl D a w b↔A w:=by
 have h1:=h (fun _ _ _=>False) (fun _ _ _ h=>h.elim) a w b hpa hpb
 have e1:Un (fun _ _ _=>False) D=D:=by funext s w u;simp[Un]
 have e2:Un (fun _ _ _=>False) (Gn a A b)=Gn a A b:=by funext s w u;simp[Un]
 rw[e1,e2]at h1
 rw[h1]
 clear h1
 refine⟨fun h=>?_,fun h=>Cl.one ⟨rf,rf,h⟩⟩
 generalize hs:a=s at h
 generalize hu:b=u at h
 cases h with
 |refl=>subst hs;exact absurd hu.symm hab
 |step g1 g2=>
  obtain⟨_,rfl,g1⟩:=g1
  cases g2 with
  |refl=>simpa using g1
  |step g3 _=>subst hs;exact absurd (g3.1.symm.trans hu.symm) hab
end Go.GL
namespace Go.GL
open Go.GK
def UC:AD:=fun _=>false
structure NR(r:Rx):Prop where
 lo:0≤r.kind
 hi:r.kind≤5
 set:r.kind≠2→Mh r.set UC=true
 len:if r.kind=3∨r.kind=4 then 2≤r.Aq.length else if r.kind=5 then r.Aq.length=1 else r.Aq.length=0
def FK:Nat→Rx→Prop
 |0,_=>False
 |d+1,r=>NR r∧∀x∈r.Aq,FK d x
def sz:Nat→Rx→Nat
 |0,_=>1
 |d+1,r=>2+r.Aq.length+(r.Aq.map (sz d)).sum
theorem Wx{l:List Nat}{x:Nat}(h:x∈l):x≤l.sum:=by
 induction l with
 |nil=>cases h
 |cons a l ih=>
  rw[List.sum_cons]
  rcases List.mem_cons.1 h with rfl|h
  ·omega
  ·have:=ih h;omega
theorem Px{d:Nat}{r x:Rx}(h:x∈r.Aq):2+r.Aq.length+sz d x≤sz (d+1) r:=by
 have:=Wx (List.mem_map_of_mem (f:=sz d) h)
 show _≤2+r.Aq.length+(r.Aq.map (sz d)).sum
 omega
theorem Sv(d:Nat)(r:Rx):2+r.Aq.length≤sz (d+1) r:=by
 show _≤2+r.Aq.length+(r.Aq.map (sz d)).sum
 omega
theorem Yb:Ff=DR:=rfl
theorem LY:∀(d:Nat) (lev:Int) (r:Rx) (fu:Nat),lev+d=17→0≤lev→d+sz d r<fu→Ok (DU fu r lev) (fun e=>e=0↔FK d r)
 |_,_,_,0,_,_,h=>absurd h (Nat.not_lt_zero _)
 |0,lev,r,fu+1,h,_,_=>by
  show Ok (DT fu (DU fu) r lev) _
  unfold DT
  exact Ok.iT (by omega) (Ok.some (by simp[FK]))
 |d+1,lev,r,fu+1,h,h0,hf=>by
  have hlen:=Sv d r
  have loop:NR r→Ok (DS fu r lev (DU fu)) (fun e=>e=0↔FK (d+1) r):=fun hK=>by
   unfold DS
   refine Ok.count (fun k=> ∀x∈r.Aq.take k,FK d x) r.Aq.length (by simp) (by omega) (fun k nx hk hJ hn=>?_) (fun nx hJ=>?_)
   ·unfold Eu
    have hm:r.Aq[k]∈r.Aq:=List.getElem_mem hk
    have hs:=Px (d:=d) hm
    refine Ok.iT (by omega) (Ok.C3 hk (Ok.A4 (by unfold Dw;omega) (Ok.AV (LY d (lev+1) _ fu (by omega) (by omega) (by omega)) fun e he=>Ok.ite (fun h1=>Ok.some ⟨fun h2=>absurd h2 h1,fun h2=>absurd (he.2 (h2.2 _ hm)) h1⟩) fun h1=>hn ?_)))
    intro x hx
    rw[←List.take_append_getElem hk]at hx
    rcases List.mem_append.1 hx with hx|hx
    ·exact hJ x hx
    ·simp at hx;subst hx;exact he.1 (by omega)
   ·unfold Eu
    rw[List.take_of_length_le (Nat.le_refl _)]at hJ
    exact Ok.iF (by omega) (Ok.some ⟨fun _=>⟨hK,hJ⟩,fun _=>rfl⟩)
  have no:∀e:Int,e≠0→¬NR r→Ok (some e) (fun e=>e=0↔FK (d+1) r):=fun e he hK=>Ok.some ⟨fun h=>absurd h he,fun h=>absurd h.1 hK⟩
  have j4:∀b:Bool,(b=true↔r.kind=3∨r.kind=4)→0≤r.kind→r.kind≤5→(r.kind≠2→Mh r.set UC=true)→Ok (DR fu r lev (DU fu) b) (fun e=>e=0↔FK (d+1) r):=fun b hb k0 k1 k2=>by
   unfold DR
   refine Ok.bif (fun hb'=>?_) fun hb'=>?_
   ·have hk:=hb.1 hb'
    refine Ok.ite (fun h1=>no _ (by decide) fun hK=>?_) fun h1=>loop ⟨k0,k1,k2,by rw[if_pos hk];omega⟩
    have:=hK.len;rw[if_pos hk]at this;omega
   ·have hk:¬(r.kind=3∨r.kind=4):=fun h=>by rw[hb.2 h]at hb';cases hb'
    refine Ok.ite (fun h5=>Ok.ite (fun h1=>no _ (by decide) fun hK=>?_) fun h1=>loop ⟨k0,k1,k2,by rw[if_neg hk,if_pos h5];omega⟩) fun h5=>Ok.ite (fun h1=>no _ (by decide) fun hK=>?_) fun h1=>loop ⟨k0,k1,k2,by rw[if_neg hk,if_neg h5];omega⟩
    ·have:=hK.len;rw[if_neg hk,if_pos h5]at this;omega
    ·have:=hK.len;rw[if_neg hk,if_neg h5]at this;omega
  show Ok (DT fu (DU fu) r lev) _
  unfold DT
  rw[Yb]
  refine Ok.iF (by omega) (Ok.ite (fun h1=>no _ (by decide) fun hK=>by have:=hK.lo;omega) fun h1=>Ok.ite (fun h2=>no _ (by decide) fun hK=>by have:=hK.hi;omega) fun h2=>Ok.ite (fun h3=>?_) fun h3=>?_)
  ·refine Ok.bif (fun h4=>no _ (by decide) fun hK=>?_) fun h4=>?_
   ·have:=hK.set h3
    rw[show(fun _=>false:AD)=UC from rfl,this]at h4;cases h4
   ·have hset:Mh r.set UC=true:=by
     rw[show(fun _=>false:AD)=UC from rfl]at h4
     cases h5:Mh r.set UC
     ·rw[h5]at h4;cases h4
     ·rfl
    exact Ok.ite (fun h5=>j4 _ (by simp[h5]) (by omega) (by omega) fun _=>hset) fun h5=>j4 _ (by simp[h5]) (by omega) (by omega) fun _=>hset
  ·exact Ok.ite (fun h5=>j4 _ (by simp[h5]) (by omega) (by omega) fun h6=>absurd h6 h3) fun h5=>j4 _ (by simp[h5]) (by omega) (by omega) fun h6=>absurd h6 h3
def Ls:List (List UInt8→Prop)→List UInt8→Prop
 | [],w=>w=[]
 |A::l,w=> ∃x y,w=x++y∧A x∧Ls l y
def mt:Nat→Rx→List UInt8→Prop
 |0,_,_=>False
 |d+1,r,w=>
  if r.kind=1 then w=[]
  else if r.kind=2 then∃c:UInt8,w=[c]∧r.set c.toNat=true
  else if r.kind=4 then∃x∈r.Aq,mt d x w
  else if r.kind=3 then Ls (r.Aq.map (mt d)) w
  else if r.kind=5 then KF (fun v=> ∃x,r.Aq[0]?=some x∧mt d x v) w
  else False
end Go.GL
namespace Go.GL
open Go.GK
abbrev NT:=(List (List Int))×(List (List (AD×Int×Int)))×Int
def Pt(D:List (List Int)):Tr:=fun s w u=>w=[]∧0≤s∧∃l,D[s.toNat]?=some l∧u∈l
def UP(E:List (List (AD×Int×Int))):Tr:=fun s w u=> ∃c:UInt8,w=[c]∧0≤s∧∃l,E[s.toNat]?=some l∧∃e∈l,e.1 c.toNat=true∧e.2.1=u
def K3(N:NT):Tr:=Un (Pt N.1) (UP N.2.1)
structure NB(N:NT)(c:Nat):Prop where
 eq:N.1.length=N.2.1.length
 len:N.1.length≤c
 r1:∀l∈N.1,l.length≤c
 r2:∀l∈N.2.1,l.length≤c
 p0:0≤N.2.2
 p1:N.2.2≤c
 t1:∀l∈N.1,∀u∈l,0≤u∧u<N.1.length
 t2:∀l∈N.2.1,∀e∈l,0≤e.2.1∧e.2.1<N.1.length
 q2:∀l∈N.2.1,∀e∈l,0≤e.2.2∧e.2.2<N.2.2
def Pv(N N':NT)(s:Int):Prop:=(N.1.length:Int)≤s∧s<N'.1.length
structure Add(N N':NT)(a:Int)(A:List UInt8→Prop)(b:Int):Prop where
 len:N.1.length≤N'.1.length
 ex:∃Dl:Tr,(∀s w u,K3 N' s w u↔Un (K3 N) Dl s w u)∧(∀s w u,Dl s w u→(s=a∨Pv N N' s)∧(u=b∨Pv N N' u))∧EV (Pv N N') Dl a A b
theorem NB.mono{N:NT}{c c':Nat}(h:NB N c)(hc:c≤c'):NB N c':=
 ⟨h.eq,by have:=h.len;omega,fun l hl=>by have:=h.r1 l hl;omega,fun l hl=>by have:=h.r2 l hl;omega,h.p0,by have:=h.p1;omega,h.t1,h.t2,h.q2⟩
theorem Add.congr{N N':NT}{a b:Int}{A A':List UInt8→Prop}(h:Add N N' a A b)(e:∀w,A w↔A' w):Add N N' a A' b:=by
 obtain⟨Dl,h1,h2,h3⟩:=h.ex
 exact⟨h.len,Dl,h1,h2,h3.congr (fun _ _ _=>Iff.rfl) e⟩
theorem Add.none(N:NT)(a b:Int):Add N N a (fun _=>False) b:=
 ⟨Nat.le_refl _,fun _ _ _=>False,fun s w u=>by simp[Un],fun _ _ _ h=>h.elim,EV.none _ a b⟩
theorem Add.alt{N N1 N2:NT}{a b:Int}{A B:List UInt8→Prop}(h:Add N N1 a A b)(k:Add N1 N2 a B b)(ha:a<N.1.length)(hb:b<N.1.length):Add N N2 a (fun w=>A w∨B w) b:=by
 obtain⟨D,d1,d2,d3⟩:=h.ex
 obtain⟨E,e1,e2,e3⟩:=k.ex
 have l1:=h.len
 have l2:=k.len
 refine⟨by omega,Un D E,fun s w u=>?_,fun s w u hu=>?_,(EV.alt d3 e3 (fun s w u hu=>?_) ?_ ?_).Rg fun s hs=>?_⟩
 ·rw[e1];unfold Un;rw[d1];unfold Un;exact or_assoc
 ·unfold Pv at*
  rcases hu with hu|hu
  ·have:=d2 s w u hu;omega
  ·have:=e2 s w u hu;omega
 ·have:=e2 s w u hu
  unfold Pv at*;omega
 ·unfold Pv;omega
 ·unfold Pv;omega
 ·unfold Pv at*;omega
theorem Add.seq{N N0 N1 N2:NT}{a m b:Int}{A B:List UInt8→Prop}(h0:∀s w u,K3 N0 s w u↔K3 N s w u)(hl:N0.1.length=N.1.length+1)(hm:m=N.1.length)
  (h:Add N0 N1 a A m) (k:Add N1 N2 m B b) (ha:a<N.1.length) (hb:b<N.1.length):Add N N2 a (fun w=> ∃x y,w=x++y∧A x∧B y) b:=by
 obtain⟨D,d1,d2,d3⟩:=h.ex
 obtain⟨E,e1,e2,e3⟩:=k.ex
 have l1:=h.len
 have l2:=k.len
 refine⟨by omega,Un D E,fun s w u=>?_,fun s w u hu=>?_,(EV.seq d3 e3 (fun s w u hu=>?_) ?_ ?_ ?_ ?_).Rg fun s hs=>?_⟩
 ·rw[e1];unfold Un;rw[d1];unfold Un;rw[h0];exact or_assoc
 ·unfold Pv at*
  rcases hu with hu|hu
  ·have:=d2 s w u hu;omega
  ·have:=e2 s w u hu;omega
 ·have:=e2 s w u hu
  unfold Pv at*;omega
 ·unfold Pv;omega
 ·unfold Pv;omega
 ·omega
 ·omega
 ·unfold Pv at*;omega
theorem Add.star{N N0 N1:NT}{a m b:Int}{B:List UInt8→Prop}(h0:∀s w u,K3 N0 s w u↔Un (K3 N) (Un (Gn a (fun w=>w=[]) m) (Gn m (fun w=>w=[]) b)) s w u)(hl:N0.1.length=N.1.length+1)(hm:m=N.1.length)
  (h:Add N0 N1 m B m) (ha:a<N.1.length) (hb:b<N.1.length):Add N N1 a (KF B) b:=by
 obtain⟨D,d1,d2,d3⟩:=h.ex
 have l1:=h.len
 refine⟨by omega,Un (Un (Gn a (fun w=>w=[]) m) (Gn m (fun w=>w=[]) b)) D,fun s w u=>?_,fun s w u hu=>?_,(EV.star d3 ?_ ?_ ?_ ?_ ?_).Rg fun s hs=>?_⟩
 ·rw[d1];unfold Un;rw[h0];unfold Un;exact or_assoc
 ·unfold Pv at*
  rcases hu with(⟨rfl,rfl,_⟩|⟨rfl,rfl,_⟩)|hu
  ·omega
  ·omega
  ·have:=d2 s w u hu;omega
 ·unfold Pv;omega
 ·unfold Pv;omega
 ·unfold Pv;omega
 ·omega
 ·omega
 ·unfold Pv at*;omega
theorem JG{α:Type}{D:List (List α)}{s:Nat}{l:List α} :(D++[[]])[s]?=some l↔D[s]?=some l∨s=D.length∧l=[]:=by
 rcases Nat.lt_trichotomy s D.length with h|h|h
 ·rw[List.getElem?_append_left h]
  exact⟨.inl,fun h'=>h'.elim id fun h'=>by omega⟩
 ·subst h
  rw[List.getElem?_append_right (Nat.le_refl _),Nat.sub_self]
  simp[eq_comm]
 ·rw[List.getElem?_eq_none (by simp;omega),List.getElem?_eq_none (by omega)]
  simp;omega
theorem N4(D:List (List Int))(s:Int)(w:List UInt8)(u:Int):Pt (D++[[]]) s w u↔Pt D s w u:=by
 unfold Pt
 constructor
 ·rintro⟨h1,h2,l,h3,h4⟩
  rcases JG.1 h3 with h3|⟨_,rfl⟩
  ·exact⟨h1,h2,l,h3,h4⟩
  ·cases h4
 ·rintro⟨h1,h2,l,h3,h4⟩
  exact⟨h1,h2,l,JG.2 (.inl h3),h4⟩
theorem N3(E:List (List (AD×Int×Int)))(s:Int)(w:List UInt8)(u:Int):UP (E++[[]]) s w u↔UP E s w u:=by
 unfold UP
 constructor
 ·rintro⟨c,h1,h2,l,h3,e,h4,h5⟩
  rcases JG.1 h3 with h3|⟨_,rfl⟩
  ·exact⟨c,h1,h2,l,h3,e,h4,h5⟩
  ·cases h4
 ·rintro⟨c,h1,h2,l,h3,h4⟩
  exact⟨c,h1,h2,l,JG.2 (.inl h3),h4⟩
theorem FL{α:Type}{D:List (List α)}{a s:Nat}{x l:List α}{y:α}(hx:D[a]?=some x):(D.set a (x++[y]))[s]?=some l↔(s=a∧l=x++[y])∨(s≠a∧D[s]?=some l):=by
 have hl:=(List.getElem?_eq_some_iff.1 hx).1
 rw[List.getElem?_set]
 by_cases h:a=s
 ·subst h;simp[hl];exact⟨fun h=>h.symm,fun h=>h.symm⟩
 ·rw[if_neg h]
  exact⟨fun h'=> .inr ⟨fun e=>h e.symm,h'⟩,fun h'=>h'.elim (fun e=>absurd e.1.symm h) fun e=>e.2⟩
theorem M5{D:List (List Int)}{a:Int}{x:List Int}{t:Int}(ha:0≤a)(hx:D[a.toNat]?=some x)(s:Int)(w:List UInt8)(u:Int):Pt (D.set a.toNat (x++[t])) s w u↔Un (Pt D) (Gn a (fun w=>w=[]) t) s w u:=by
 unfold Pt Un Gn
 constructor
 ·rintro⟨h1,h2,l,h3,h4⟩
  rcases(FL hx).1 h3 with⟨h5,rfl⟩|⟨_,h5⟩
  ·have:s=a:=by omega
   subst this
   rcases List.mem_append.1 h4 with h4|h4
   ·exact .inl ⟨h1,h2,x,hx,h4⟩
   ·simp at h4;exact .inr ⟨rfl,h4,h1⟩
  ·exact .inl ⟨h1,h2,l,h5,h4⟩
 ·rintro(⟨h1,h2,l,h3,h4⟩|⟨rfl,rfl,h1⟩)
  ·by_cases h:s.toNat=a.toNat
   ·rw[h,hx]at h3;cases h3
    exact⟨h1,h2,x++[t],(FL hx).2 (.inl ⟨h,rf⟩),List.mem_append.2 (.inl h4)⟩
   ·exact⟨h1,h2,l,(FL hx).2 (.inr ⟨h,h3⟩),h4⟩
  ·exact⟨h1,ha,x++[u],(FL hx).2 (.inl ⟨rf,rf⟩),by simp⟩
theorem UO{E:List (List (AD×Int×Int))}{a:Int}{x:List (AD×Int×Int)}{p:AD}{t q:Int}(ha:0≤a)(hx:E[a.toNat]?=some x)(s:Int)(w:List UInt8)(u:Int):
  UP (E.set a.toNat (x++[(p,t,q)])) s w u↔Un (UP E) (Gn a (fun w=> ∃c:UInt8,w=[c]∧p c.toNat=true) t) s w u:=by
 unfold UP Un Gn
 constructor
 ·rintro⟨c,h1,h2,l,h3,e,h4,h6⟩
  rcases(FL hx).1 h3 with⟨h5,rfl⟩|⟨_,h5⟩
  ·have:s=a:=by omega
   subst this
   rcases List.mem_append.1 h4 with h4|h4
   ·exact .inl ⟨c,h1,h2,x,hx,e,h4,h6⟩
   ·simp at h4;subst h4;exact .inr ⟨rfl,h6.2.symm,c,h1,h6.1⟩
  ·exact .inl ⟨c,h1,h2,l,h5,e,h4,h6⟩
 ·rintro(⟨c,h1,h2,l,h3,e,h4,h6⟩|⟨rfl,rfl,c,h1,h6⟩)
  ·by_cases h:s.toNat=a.toNat
   ·rw[h,hx]at h3;cases h3
    exact⟨c,h1,h2,_,(FL hx).2 (.inl ⟨h,rf⟩),e,List.mem_append.2 (.inl h4),h6⟩
   ·exact⟨c,h1,h2,l,(FL hx).2 (.inr ⟨h,h3⟩),e,h4,h6⟩
  ·exact⟨c,h1,ha,_,(FL hx).2 (.inl ⟨rf,rf⟩),(p,u,q),by simp,h6,rf⟩
theorem Ju{α:Type}{D:List (List α)}{a:Nat}{x l:List α}{y:α}(hx:D[a]?=some x)(h:l∈D.set a (x++[y])):l∈D∨l=x++[y]:=by
 obtain⟨s,hs⟩:=List.mem_iff_getElem?.1 h
 rcases(FL hx).1 hs with⟨_,rfl⟩|⟨_,h⟩
 ·exact .inr rf
 ·exact .inl (List.mem_of_getElem? h)
theorem NB.snoc{N:NT}{c:Nat}(h:NB N c):NB (N.1++[[]],N.2.1++[[]],N.2.2) (c+1):=by
 refine⟨by simp[h.eq],by have:=h.len;simp;omega,fun l hl=>?_,fun l hl=>?_,h.p0,by have:=h.p1;simp only;omega,fun l hl u hu=>?_,fun l hl e he=>?_,fun l hl e he=>?_⟩
 ·rcases List.mem_append.1 hl with hl|hl
  ·have:=h.r1 l hl;omega
  ·simp at hl;subst hl;simp
 ·rcases List.mem_append.1 hl with hl|hl
  ·have:=h.r2 l hl;omega
  ·simp at hl;subst hl;simp
 ·rcases List.mem_append.1 hl with hl|hl
  ·have:=h.t1 l hl u hu;simp;omega
  ·simp at hl;subst hl;cases hu
 ·rcases List.mem_append.1 hl with hl|hl
  ·have:=h.t2 l hl e he;simp;omega
  ·simp at hl;subst hl;cases he
 ·rcases List.mem_append.1 hl with hl|hl
  ·exact h.q2 l hl e he
  ·simp at hl;subst hl;cases he
theorem NB.free{N:NT}{c:Nat}(h:NB N c){a:Nat}{x:List Int}{t:Int}(hx:N.1[a]?=some x)(h0:0≤t)(h1:t<N.1.length):NB (N.1.set a (x++[t]),N.2.1,N.2.2) (c+1):=by
 have hm:=List.mem_of_getElem? hx
 refine⟨by simp[h.eq],by have:=h.len;simp;omega,fun l hl=>?_,fun l hl=>by have:=h.r2 l hl;omega,h.p0,by have:=h.p1;simp only;omega,fun l hl u hu=>?_,fun l hl e he=>by have:=h.t2 l hl e he;simp;omega,h.q2⟩
 ·rcases Ju hx hl with hl|rfl
  ·have:=h.r1 l hl;omega
  ·have:=h.r1 x hm;simp;omega
 ·rw[List.length_set]
  rcases Ju hx hl with hl|rfl
  ·exact h.t1 l hl u hu
  ·rcases List.mem_append.1 hu with hu|hu
   ·exact h.t1 x hm u hu
   ·simp at hu;subst hu;exact⟨h0,h1⟩
theorem NB.on{N:NT}{c:Nat}(h:NB N c){a:Nat}{x:List (AD×Int×Int)}{t:Int}{p:AD}(hx:N.2.1[a]?=some x)(h0:0≤t)(h1:t<N.1.length):NB (N.1,N.2.1.set a (x++[(p,t,N.2.2)]),N.2.2+1) (c+1):=by
 have hm:=List.mem_of_getElem? hx
 have hp:=h.p0
 refine⟨by simp[h.eq],by have:=h.len;simp only;omega,fun l hl=>by have:=h.r1 l hl;omega,fun l hl=>?_,by simp only;omega,by have:=h.p1;simp only;omega,h.t1,fun l hl e he=>?_,fun l hl e he=>?_⟩
 ·rcases Ju hx hl with hl|rfl
  ·have:=h.r2 l hl;omega
  ·have:=h.r2 x hm;simp;omega
 ·rcases Ju hx hl with hl|rfl
  ·exact h.t2 l hl e he
  ·rcases List.mem_append.1 he with he|he
   ·exact h.t2 x hm e he
   ·simp at he;subst he;exact⟨h0,h1⟩
 ·dsimp only
  rcases Ju hx hl with hl|rfl
  ·have:=h.q2 l hl e he;omega
  ·rcases List.mem_append.1 he with he|he
   ·have:=h.q2 x hm e he;omega
   ·simp at he;subst he;dsimp only;omega
theorem Add.one{N N':NT}{a b:Int}{A:List UInt8→Prop}(hl:N'.1.length=N.1.length)(h:∀s w u,K3 N' s w u↔Un (K3 N) (Gn a A b) s w u):Add N N' a A b:=
 ⟨by omega,Gn a A b,h,fun s w u h=>⟨.inl h.1, .inl h.2.1⟩,EV.ZM a b A _⟩
def VL(d:Nat)(l:List Rx):Nat:=l.length+2*(l.map (sz d)).sum
theorem O9(d:Nat)(x:Rx)(l:List Rx):VL d (x::l)=1+2*sz d x+VL d l:=by unfold VL;simp;omega
theorem OS{l rest:List Rx}{x:Rx}{k:Nat}(h:l.drop k=x::rest):∃hk:k<l.length,l[k]=x∧l.drop (k+1)=rest:=by
 have hk:k<l.length:=by
  rcases Nat.lt_or_ge k l.length with h1|h1
  ·exact h1
  ·rw[List.drop_eq_nil_of_le h1]at h;cases h
 refine⟨hk,?_⟩
 rw[List.drop_eq_getElem_cons hk]at h
 exact⟨(List.cons.inj h).1,(List.cons.inj h).2⟩
def Xw(d:Nat)(slf:NT→Rx→Int→Int→Option NT)(xs:List Rx):Prop:=
 ∀x∈xs,∀N c (a b:Int),NB N c→0≤a→a<N.1.length→0≤b→b<N.1.length→c+2*sz d x≤8589934592→Ok (slf N x a b) (fun N'=>NB N' (c+2*sz d x)∧Add N N' a (mt d x) b)
theorem Pf{d fu:Nat}{r:Rx}{a b:Int}{slf:NT→Rx→Int→Int→Option NT}(hs:Xw d slf r.Aq)(ha:0≤a)(hb:0≤b):∀(rest:List Rx) (f k c:Nat) (N:NT),r.Aq.drop k=rest→rest.length<f→NB N c→a<N.1.length→b<N.1.length→c+VL d rest≤8589934592→
  Ok (Ax f (fun p nx=>BM fu r a b slf p.1 p.2.1 p.2.2.1 p.2.2.2 nx) (N.1,N.2.1,k,N.2.2)) (fun N'=>NB N' (c+VL d rest)∧Add N N' a (fun w=> ∃x∈rest,mt d x w) b)
 |_,0,_,_,_,_,h,_,_,_,_=>absurd h (Nat.not_lt_zero _)
 | [],f+1,k,c,N,hk,_,hN,h1,h2,hc=>by
  have hk:r.Aq.length≤k:=by
   rcases Nat.lt_or_ge k r.Aq.length with h|h
   ·rw[List.drop_eq_getElem_cons h]at hk;cases hk
   ·exact h
  show Ok (BM fu r a b slf N.1 N.2.1 k N.2.2 _) _
  unfold BM
  exact Ok.iF (by omega) (Ok.some ⟨hN.mono (by omega),(Add.none N a b).congr fun w=>by simp⟩)
 |x::rest,f+1,k,c,N,hk,hf,hN,h1,h2,hc=>by
  obtain⟨hk,hx,hd⟩:=OS hk
  rw[O9]at hc⊢
  show Ok (BM fu r a b slf N.1 N.2.1 k N.2.2 _) _
  unfold BM
  refine Ok.iT (by omega) (Ok.C3 hk ?_)
  rw[hx]
  have hm:x∈r.Aq:=hx▸List.getElem_mem hk
  refine Ok.AV (hs x hm N c a b hN ha h1 hb h2 (by omega)) fun N1 ⟨g1,g2⟩=>?_
  have hl:=g2.len
  refine(Pf (fu:=fu) hs ha hb rest f (k+1) (c+2*sz d x) N1 hd (by simp at hf;omega) g1 (by omega) (by omega) (by omega)).mono fun N2 ⟨g3,g4⟩=>⟨g3.mono (by omega),?_⟩
  exact(Add.alt g2 g4 h1 h2).congr fun w=>by simp
theorem OY{d fu:Nat}{r:Rx}{b:Int}{slf:NT→Rx→Int→Int→Option NT}(hs:Xw d slf r.Aq)(hb:0≤b):∀(rest:List Rx) (f k c:Nat) (N:NT) (a:Int),rest≠ []→r.Aq.drop k=rest→rest.length<f→NB N c→0≤a→a<N.1.length→b<N.1.length→c+VL d rest≤8589934592→
  Ok (Ax f (fun p nx=>BL fu r b slf p.1 p.2.1 p.2.2.1 p.2.2.2.1 p.2.2.2.2 nx) (N.1,N.2.1,a,k,N.2.2)) (fun N'=>NB N' (c+VL d rest)∧Add N N' a (Ls (rest.map (mt d))) b)
 |_,0,_,_,_,_,_,_,h,_,_,_,_,_=>absurd h (Nat.not_lt_zero _)
 | [],_+1,_,_,_,_,h,_,_,_,_,_,_,_=>absurd rfl h
 |x::rest,f+1,k,c,N,a,_,hk,hf,hN,ha,h1,h2,hc=>by
  obtain⟨hk,hx,hd⟩:=OS hk
  have hlr:rest.length=r.Aq.length-(k+1):=by rw[←hd,List.length_drop]
  have hlen:=hN.len
  have heq:=hN.eq
  rw[O9]at hc⊢
  show Ok (BL fu r b slf N.1 N.2.1 a k N.2.2 _) _
  unfold BL
  refine Ok.iT (by omega) (Ok.C3 hk ?_)
  rw[hx]
  have hm:x∈r.Aq:=hx▸List.getElem_mem hk
  have hf':rest.length<f:=by simp at hf;omega
  refine Ok.ite (fun h3=>?_) fun h3=>?_
  ·refine Ok.A4 (by unfold AJ;omega) (Ok.A4 (by unfold AJ;omega) ?_)
   unfold CH
   have hN0:=hN.snoc
   have hl0:(N.1++[[]]).length=N.1.length+1:=by simp
   rw[show((N.2.1.length:Nat):Int)=(N.1.length:Nat) by omega]
   refine Ok.AV (hs x hm (N.1++[[]],N.2.1++[[]],N.2.2) (c+1) a N.1.length hN0 ha (by simp only[hl0];omega) (by omega) (by simp only[hl0];omega) (by omega)) fun N1 ⟨g1,g2⟩=>?_
   have hl:=g2.len
   simp only[hl0]at hl
   refine(OY (fu:=fu) hs hb rest f (k+1) (c+1+2*sz d x) N1 N.1.length (fun h=>by subst h;simp at hlr;omega) hd hf' g1 (by omega) (by omega) (by omega) (by omega)).mono fun N2 ⟨g3,g4⟩=>⟨g3.mono (by omega),?_⟩
   refine Add.seq (m:=N.1.length) (fun s w u=>?_) hl0 rf g2 g4 h1 h2
   unfold K3 Un
   rw[N4,N3]
  ·obtain rfl:rest=[]:=List.length_eq_zero_iff.1 (by omega)
   unfold CH
   refine Ok.AV (hs x hm N c a b hN ha h1 hb h2 (by omega)) fun N1 ⟨g1,g2⟩=>?_
   cases f with
   |zero=>simp at hf'
   |succ f=>
    show Ok (BL fu r b slf N1.1 N1.2.1 b (k+1) N1.2.2 _) _
    unfold BL
    refine Ok.iF (by omega) (Ok.some ⟨g1.mono (by omega),g2.congr fun w=>?_⟩)
    show mt d x w↔∃y z,w=y++z∧mt d x y∧z=[]
    constructor
    ·intro h;exact⟨w,[],by simp,h,rfl⟩
    ·rintro⟨y,z,rfl,h,rfl⟩;simpa using h
theorem P1:∀(d:Nat) (r:Rx) (fu:Nat),FK d r→d+sz d r<fu→∀N c (a b:Int),NB N c→0≤a→a<N.1.length→0≤b→b<N.1.length→c+2*sz d r≤8589934592→
  Ok (Cm fu N r a b) (fun N'=>NB N' (c+2*sz d r)∧Add N N' a (mt d r) b)
 |_,_,0,_,h,_,_,_,_,_,_,_,_,_,_=>absurd h (Nat.not_lt_zero _)
 |0,_,_+1,h,_,_,_,_,_,_,_,_,_,_,_=>h.elim
 |d+1,r,fu+1,hr,hf,N,c,a,b,hN,ha,h1,hb,h2,hc=>by
  have hK:=hr.1
  have hs:Xw d (Cm fu) r.Aq:=fun x hx N c a b hN ha h1 hb h2 hc=>by
   have:=Px (d:=d) hx
   exact P1 d x fu (hr.2 x hx) (by omega) N c a b hN ha h1 hb h2 hc
  have hlen:=hN.len
  have heq:=hN.eq
  have hsl:=Sv d r
  have hbud:VL d r.Aq≤2*sz (d+1) r:=by
   show _≤2*(2+r.Aq.length+(r.Aq.map (sz d)).sum)
   unfold VL;omega
  have g1:N.1[a.toNat]?=some (N.1[a.toNat]'(by omega)):=List.getElem?_eq_getElem (by omega)
  have g2:N.2.1[a.toNat]?=some (N.2.1[a.toNat]'(by omega)):=List.getElem?_eq_getElem (by omega)
  have b1:=hN.r1 _ (List.getElem_mem (by omega:a.toNat<N.1.length))
  have b2:=hN.r2 _ (List.getElem_mem (by omega:a.toNat<N.2.1.length))
  have hp0:=hN.p0
  have hp1:=hN.p1
  show Ok (C7 fu (Cm fu) N r a b) _
  unfold C7
  refine Ok.ite (fun k1=>Ok.HK ha g1 (Ok.A4 (by simp;unfold AJ;omega) (Ok.some ⟨(hN.free g1 hb h2).mono (by omega),?_⟩))) fun k1=>Ok.ite (fun k2=>Ok.HK ha g2 (Ok.A4 (by simp;unfold AJ;omega) (Ok.A4 (by unfold Dw;omega) (Ok.some ⟨(hN.on g2 hb h2).mono (by omega),?_⟩)))) fun k2=>Ok.ite (fun k4=>?_) fun k4=>Ok.ite (fun k3=>?_) fun k3=>Ok.ite (fun k5=>?_) fun k5=>Ok.some ⟨hN.mono (by omega),(Add.none N a b).congr fun w=>?_⟩
  ·refine Add.one (by simp) fun s w u=>?_
   have:mt (d+1) r=fun w=>w=[]:=by funext w;unfold mt;rw[if_pos k1]
   rw[this]
   unfold K3 Un
   rw[M5 ha g1]
   unfold Un
   exact or_right_comm
  ·refine Add.one rf fun s w u=>?_
   have:mt (d+1) r=fun w=> ∃c:UInt8,w=[c]∧r.set c.toNat=true:=by funext w;unfold mt;rw[if_neg k1,if_pos k2]
   rw[this]
   unfold K3 Un
   rw[UO ha g2]
   unfold Un
   exact or_assoc.symm
  ·refine(Pf (fu:=fu) hs ha hb r.Aq fu 0 c N rf (by omega) hN h1 h2 (by omega)).mono fun N' ⟨e1,e2⟩=>⟨e1.mono (by omega),e2.congr fun w=>?_⟩
   conv=>rhs;unfold mt
   rw[if_neg k1,if_neg k2,if_pos k4]
  ·have hl:=hK.len
   rw[if_pos (.inl k3)]at hl
   refine(OY (fu:=fu) hs hb r.Aq fu 0 c N a (fun h=>by rw[h]at hl;simp at hl) rf (by omega) hN ha h1 h2 (by omega)).mono fun N' ⟨e1,e2⟩=>⟨e1.mono (by omega),e2.congr fun w=>?_⟩
   conv=>rhs;unfold mt
   rw[if_neg k1,if_neg k2,if_neg k4,if_pos k3]
  ·have hl:=hK.len
   rw[if_neg (by omega),if_pos k5]at hl
   have g3:(N.1++[[]])[a.toNat]?=some (N.1[a.toNat]'(by omega)):=by rw[List.getElem?_append_left (by omega)];exact g1
   have hN0:=hN.snoc
   have hl0:(N.1++[[]]).length=N.1.length+1:=by simp
   have hN1:=hN0.free (t:=N.1.length) g3 (by omega) (by simp only[hl0];omega)
   have hx:r.Aq[0]?=some (r.Aq[0]'(by omega)):=List.getElem?_eq_getElem (by omega)
   have hxm:r.Aq[0]'(by omega)∈r.Aq:=List.getElem_mem _
   have hss:=Px (d:=d) hxm
   generalize r.Aq[0]'(by omega)=x at hx hxm hss
   rw[show((N.2.1.length:Nat):Int)=(N.1.length:Nat) by omega,show N.2.1.length=N.1.length by omega]
   have g4:((N.1++[[]]).set a.toNat (N.1[a.toNat]'(by omega)++[(N.1.length:Int)]))[N.1.length]?=some []:=by
    rw[List.getElem?_set_ne (by omega)];simp
   have hN2:=hN1.free (t:=b) g4 hb (by simp only[List.length_set,hl0];omega)
   refine Ok.A4 (by unfold AJ;omega) (Ok.A4 (by unfold AJ;omega) (Ok.HK ha g3 (Ok.A4 (by simp;unfold AJ;omega) (Ok.HK (by omega) g4 (Ok.A4 (by simp;unfold AJ;omega) (Ok.HK (by omega) hx ?_))))))
   refine Ok.AV (hs x hxm _ (c+1+1+1) N.1.length N.1.length hN2 (by omega) (by simp only[List.length_set,hl0];omega) (by omega) (by simp only[List.length_set,hl0];omega) (by omega)) fun N' ⟨e1,e2⟩=>Ok.some ⟨e1.mono (by omega),?_⟩
   refine(Add.star (N:=N) (fun s w u=>?_) (by simp) rf e2 h1 h2).congr fun w=>?_
   ·unfold K3 Un
    dsimp only
    have e0:=M5 (a:=(N.1.length:Int)) (t:=b) (by omega) g4 s w u
    rw[Int.toNat_natCast]at e0
    rw[e0]
    unfold Un
    rw[M5 ha g3]
    unfold Un
    rw[N4,N3]
    constructor
    ·rintro(((h|h)|h)|h)
     ·exact .inl (.inl h)
     ·exact .inr (.inl h)
     ·exact .inr (.inr h)
     ·exact .inl (.inr h)
    ·rintro((h|h)|(h|h))
     ·exact .inl (.inl (.inl h))
     ·exact .inr h
     ·exact .inl (.inl (.inr h))
     ·exact .inl (.inr h)
   ·conv=>rhs;unfold mt
    rw[if_neg k1,if_neg k2,if_neg k4,if_neg k3,if_pos k5]
    have:mt d x=fun v=> ∃y,r.Aq[0]?=some y∧mt d y v:=by
     funext v;rw[hx];simp
    rw[this]
  ·unfold mt
   rw[if_neg k1,if_neg k2,if_neg k4,if_neg k3,if_neg k5]
end Go.GL
