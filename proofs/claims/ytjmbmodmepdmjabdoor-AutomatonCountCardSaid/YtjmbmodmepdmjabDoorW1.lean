/- Walks, written by a program. -/
import Derived.Test.YtjmbmodmepdmjabDoorX1
import Derived.Test.YtjmbmodmepdmjabDoorD1
namespace Go.Proofs.YtjmbmodmepdmjabDoor
open Go.GK
variable {H : Hp} {O : List Res}

set_option maxRecDepth 100000 in
set_option maxHeartbeats 4000000 in
theorem w05_few_w {fu : Nat} {a0 : List (Bool × (List (Int × Int × Int)))} {v1 : Value} {r : Bool} (hv1 : SlD (cP cB (cL (cP cU8 (cP cU8 cI64)))) H a0 v1) (hd : w05_few fu a0 = some r) :
    TriV Tryd.prog 5 [v1] H O (.bool r) := by
 intro w hs
 refine wp_of Tryd.func5 rfl rfl rfl ?_ hs
 clear hs w
 unfold w05_few at hd
 refine Wp.sr <| Seg.op (OpT.assign rfl) rfl <| Seg.nilT <| Wp.seq <| Wp.sr <| Seg.op (OpT.move rfl) rfl ?_
 have hb1 := hv1.le
 refine Seg.op (OpT.len u22 rfl hv1.sl) rfl <| Seg.op (OpT.move rfl) rfl <| Seg.nilT <| Wp.block <| Wp.loopF (fun m LL HH OO => ∃ (k1 : Nat), [(0, v1), (5, v1), (6, (.int .i64 (a0.length:Int))), (7, (.int .i64 (k1:Int)))] = LL ∧ O = OO ∧ loopK m (w05_few_b1 fu a0) k1 = some r) fu ⟨0, rfl, rfl, hd⟩ (Sub.of rfl) ?_
 intro m1 L1 H1 O1 hl1 hI1
 obtain ⟨k1, rfl, rfl, hd⟩ := hI1
 replace hd := loopK_some hd; obtain ⟨m2, rfl, hd⟩ := hd
 obtain ⟨nx1, hn1⟩ : ∃ f, f = loopK m2 (w05_few_b1 fu a0) := ⟨_, rfl⟩
 rw [← hn1] at hd
 replace hd : w05_few_b1 fu a0 k1 nx1 = some r := hd
 unfold w05_few_b1 at hd
 refine Wp.sr <| Seg.op (OpT.lss rfl rfl) rfl <| Seg.nilT <| Wp.seq ?_
 refine Wp.cond (b := decide ((k1:Int) < (a0.length:Int))) rfl (fun hb2 => ?_) (fun hb2 => ?_)
 ·
  replace hd := brT hb2 hd
  replace hb2 := of_decide_eq_true hb2
  refine Wp.skip <| At.then_n <| Wp.seq <| Wp.block <| Wp.seq ?_
  obtain ⟨x1, hx1, hd⟩ := bnd_some hd
  have hx1_ := idx_bd hx1
  refine Wp.region ?_
  obtain ⟨_, ⟨_, _, rfl, rfl, ⟨v2, rfl, hv2⟩⟩, hc1⟩ := SlD.get (hv1.mono hl1) hx1
  refine Seg.op (OpT.ixSl u22 ti30 rfl (hv1.mono hl1).sl rfl (idx_bd hx1)) rfl <| Seg.op (OpT.ldHA (vs := [(.bool x1.1), v2]) u30 rfl ti30 rfl rfl (fun j u hj => (hc1 j u hj))) rfl <| Seg.alloc (cs := #[(.bool false), (.slice none 0 0)]) ti30 rfl rfl fun B2 => Seg.stBlkW (i := 0) (cs' := #[(.bool x1.1), v2]) rfl rfl ti30 rfl rfl (onesA (ones_cons rfl (ones_cons hv2.one (ones_nil)))) rfl ?_
  refine Seg.own (O := .blk B2 (.cells #[(.bool x1.1), v2] 30 (0, 0)) :: O) ?_ rfl
  refine Seg.nilT <| Wp.sr <| Seg.op (OpT.fld (o' := 1) fl30_1 rfl rfl) rfl <| Seg.op (OpT.ldBlk (i := 0) (v := v2) u28 rfl rfl rfl rfl) rfl ?_
  have hb3 := hv2.le
  refine Seg.op (OpT.len u28 rfl hv2.sl) rfl <| Seg.op (OpT.gtr rfl rfl) rfl <| Seg.nilT ?_
  refine Wp.cond (b := decide (12 < (x1.2.length:Int))) rfl (fun hb4 => ?_) (fun hb4 => ?_)
  ·
   replace hd := brT hb4 hd
   replace hb4 := of_decide_eq_true hb4
   refine Wp.sr <| Seg.op (OpT.assign rfl) rfl <| Seg.nilT <| Wp.ret <| At.blk_r <| At.then_r <| At.then_r <| At.blk_r ?_
   refine At.then_r ?_
   obtain rfl := Option.some.inj hd
   exact At.res1 rfl (RV.tmp (v := (.bool false)) rfl) (fun w hs => ⟨rfl, (hs.dropN 1).weaken hl1⟩)
  replace hd := brF hb4 hd
  replace hb4 := of_decide_eq_false hb4
  refine Wp.skip <| At.blk_n <| At.then_n <| Wp.region <| Seg.op (OpT.add rfl rfl (fits64 (by omega))) rfl <| Seg.op (OpT.move rfl) rfl <| Seg.nil <| At.permK [] 1 rfl rfl rfl ?_
  refine At.nextF (Hp.le.refl _) ⟨(k1 + 1), rfl, rfl, (by rw [← hn1]; exact hd)⟩ (Sub.of rfl)
 replace hd := brF hb2 hd
 replace hb2 := of_decide_eq_false hb2
 refine Wp.exit <| At.then_x <| At.then_x <| At.blk_hit <| At.then_n <| Wp.sr <| Seg.op (OpT.move rfl) rfl ?_
 have hb5 := hv1.le
 refine Seg.op (OpT.len u22 rfl (hv1.mono hl1).sl) rfl <| Seg.op (OpT.leq rfl rfl) rfl <| Seg.op (OpT.assign rfl) rfl <| Seg.nilT <| Wp.ret ?_
 obtain rfl := Option.some.inj hd
 exact At.res1 rfl (RV.tmp (v := (.bool (decide ((a0.length:Int) ≤ 10)))) rfl) (fun w hs => ⟨rfl, (hs.dropN 0).weaken hl1⟩)

set_option maxRecDepth 100000 in
set_option maxHeartbeats 4000000 in
theorem au_wellFormed_w {fu : Nat} {a0 : List (Bool × (List (Int × Int × Int)))} {v1 : Value} {r : Bool} (hv1 : SlD (cP cB (cL (cP cU8 (cP cU8 cI64)))) H a0 v1) (hd : au_wellFormed fu a0 = some r) :
    TriV Tryd.prog 18 [v1] H O (.bool r) := by
 intro w hs
 refine wp_of Tryd.func18 rfl rfl rfl ?_ hs
 clear hs w
 unfold au_wellFormed at hd
 refine Wp.sr <| Seg.op (OpT.assign rfl) rfl <| Seg.nilT <| Wp.seq <| Wp.sr <| Seg.op (OpT.move rfl) rfl ?_
 have hb1 := hv1.le
 refine Seg.op (OpT.len u22 rfl hv1.sl) rfl <| Seg.op (OpT.move rfl) rfl <| Seg.nilT <| Wp.block <| Wp.loopF (fun m LL HH OO => ∃ (k1 : Nat), [(0, v1), (7, v1), (8, (.int .i64 (a0.length:Int))), (9, (.int .i64 (k1:Int)))] = LL ∧ O = OO ∧ loopK m (au_wellFormed_b1 fu a0) k1 = some r) fu ⟨0, rfl, rfl, hd⟩ (Sub.of rfl) ?_
 intro m1 L1 H1 O1 hl1 hI1
 obtain ⟨k1, rfl, rfl, hd⟩ := hI1
 replace hd := loopK_some hd; obtain ⟨m2, rfl, hd⟩ := hd
 obtain ⟨nx1, hn1⟩ : ∃ f, f = loopK m2 (au_wellFormed_b1 fu a0) := ⟨_, rfl⟩
 rw [← hn1] at hd
 replace hd : au_wellFormed_b1 fu a0 k1 nx1 = some r := hd
 unfold au_wellFormed_b1 at hd
 refine Wp.sr <| Seg.op (OpT.lss rfl rfl) rfl <| Seg.nilT <| Wp.seq ?_
 refine Wp.cond (b := decide ((k1:Int) < (a0.length:Int))) rfl (fun hb2 => ?_) (fun hb2 => ?_)
 ·
  replace hd := brT hb2 hd
  replace hb2 := of_decide_eq_true hb2
  refine Wp.skip <| At.then_n <| Wp.seq <| Wp.block <| Wp.seq ?_
  obtain ⟨x1, hx1, hd⟩ := bnd_some hd
  have hx1_ := idx_bd hx1
  refine Wp.region ?_
  obtain ⟨_, ⟨_, _, rfl, rfl, ⟨v2, rfl, hv2⟩⟩, hc1⟩ := SlD.get (hv1.mono hl1) hx1
  refine Seg.op (OpT.ixSl u22 ti30 rfl (hv1.mono hl1).sl rfl (idx_bd hx1)) rfl <| Seg.op (OpT.ldHA (vs := [(.bool x1.1), v2]) u30 rfl ti30 rfl rfl (fun j u hj => (hc1 j u hj))) rfl <| Seg.alloc (cs := #[(.bool false), (.slice none 0 0)]) ti30 rfl rfl fun B2 => Seg.stBlkW (i := 0) (cs' := #[(.bool x1.1), v2]) rfl rfl ti30 rfl rfl (onesA (ones_cons rfl (ones_cons hv2.one (ones_nil)))) rfl ?_
  refine Seg.own (O := .blk B2 (.cells #[(.bool x1.1), v2] 30 (0, 0)) :: O) ?_ rfl
  refine Seg.nilT <| Wp.sr <| Seg.op (OpT.fld (o' := 1) fl30_1 rfl rfl) rfl <| Seg.op (OpT.ldBlk (i := 0) (v := v2) u28 rfl rfl rfl rfl) rfl ?_
  have hb3 := hv2.le
  refine Seg.op (OpT.len u28 rfl hv2.sl) rfl <| Seg.op (OpT.move rfl) rfl <| Seg.nilT <| Wp.block <| Wp.loopF (fun m LL HH OO => ∃ (k2 : Nat), [(0, v1), (4, (ptr B2 0)), (7, v1), (8, (.int .i64 (a0.length:Int))), (9, (.int .i64 (k1:Int))), (14, v2), (15, (.int .i64 (x1.2.length:Int))), (16, (.int .i64 (k2:Int)))] = LL ∧ .blk B2 (.cells #[(.bool x1.1), v2] 30 (0, 0)) :: O = OO ∧ loopK m (au_wellFormed_b2 fu a0 k1 nx1 x1) k2 = some r) fu ⟨0, rfl, rfl, hd⟩ (Sub.of rfl) ?_
  intro m3 L2 H2 O2 hl2 hI2
  obtain ⟨k2, rfl, rfl, hd⟩ := hI2
  replace hd := loopK_some hd; obtain ⟨m4, rfl, hd⟩ := hd
  obtain ⟨nx2, hn2⟩ : ∃ f, f = loopK m4 (au_wellFormed_b2 fu a0 k1 nx1 x1) := ⟨_, rfl⟩
  rw [← hn2] at hd
  replace hd : au_wellFormed_b2 fu a0 k1 nx1 x1 k2 nx2 = some r := hd
  unfold au_wellFormed_b2 at hd
  refine Wp.sr <| Seg.op (OpT.lss rfl rfl) rfl <| Seg.nilT <| Wp.seq ?_
  refine Wp.cond (b := decide ((k2:Int) < (x1.2.length:Int))) rfl (fun hb4 => ?_) (fun hb4 => ?_)
  ·
   replace hd := brT hb4 hd
   replace hb4 := of_decide_eq_true hb4
   refine Wp.skip <| At.then_n <| Wp.seq <| Wp.block <| Wp.seq ?_
   obtain ⟨x2, hx2, hd⟩ := bnd_some hd
   have hx2_ := idx_bd hx2
   refine Wp.region <| Seg.op (OpT.move rfl) rfl ?_
   obtain ⟨_, ⟨_, _, rfl, ⟨rfl, hr1, hr2⟩, ⟨_, _, rfl, ⟨rfl, hr3, hr4⟩, rfl⟩⟩, hc2⟩ := SlD.get (hv2.mono hl2) hx2
   refine Seg.op (OpT.ixSl u28 ti27 rfl (hv2.mono hl2).sl rfl (idx_bd hx2)) rfl <| Seg.op (OpT.ldHA (vs := [(.int .u8 x2.1), (.int .u8 x2.2.1), (.int .i64 x2.2.2)]) u27 rfl ti27 rfl rfl (fun j u hj => (hc2 j u hj))) rfl <| Seg.alloc (cs := #[(.int .u8 0), (.int .u8 0), (.int .i64 0)]) ti27 rfl rfl fun B3 => Seg.op (OpT.assign rfl) rfl <| Seg.stBlkW (i := 0) (cs' := #[(.int .u8 x2.1), (.int .u8 x2.2.1), (.int .i64 x2.2.2)]) rfl rfl ti27 rfl rfl (onesA (ones_cons rfl (ones_cons rfl (ones_cons rfl (ones_nil))))) rfl ?_
   refine Seg.own (O := .blk B3 (.cells #[(.int .u8 x2.1), (.int .u8 x2.2.1), (.int .i64 x2.2.2)] 27 (0, 0)) :: .blk B2 (.cells #[(.bool x1.1), v2] 30 (0, 0)) :: O) ?_ rfl
   refine Seg.nilT <| Wp.seq ?_
   rcases Bool.eq_false_or_eq_true (decide (x2.2.1 < x2.1)) with hg1 | hg1
   ·
    replace hd := brT hg1 hd
    have hg1_ := of_decide_eq_true hg1
    refine Wp.drawE 33 follows rfl (by kernel_rfl) <| SegL.opE (OpT.fld (o' := 0) fl27_0 rfl rfl) rfl <| SegL.opE (OpT.ldBlk (i := 0) (v := (.int .u8 x2.1)) u5 rfl rfl rfl rfl) rfl <| SegL.opE (OpT.fld (o' := 1) fl27_1 rfl rfl) rfl <| SegL.opE (OpT.ldBlk (i := 0) (v := (.int .u8 x2.2.1)) u5 rfl rfl rfl rfl) rfl <| SegL.opE (OpT.asB (b := decide (x2.2.1 < x2.1)) (c := true) (OpT.gtr rfl rfl) hg1) rfl <| SegL.opE (OpT.move rfl) rfl <| SegL.skipGE rfl rfl rfl rfl ?_
    refine SegL.skipGE rfl rfl rfl rfl <| SegL.skipGE rfl rfl rfl rfl <| SegL.opE (OpT.pickT rfl rfl) rfl <| SegL.opE (OpT.move rfl) rfl <| SegL.skipGE rfl rfl rfl rfl <| SegL.skipGE rfl rfl rfl rfl <| SegL.skipGE rfl rfl rfl rfl <| SegL.skipGE rfl rfl rfl rfl ?_
    refine SegL.skipGE rfl rfl rfl rfl <| SegL.opE (OpT.pickT rfl rfl) rfl <| SegL.opE (OpT.move rfl) rfl <| SegL.skipGE rfl rfl rfl rfl <| SegL.skipGE rfl rfl rfl rfl <| SegL.skipGE rfl rfl rfl rfl <| SegL.skipUE rfl rfl rfl <| SegL.skipUE rfl rfl rfl ?_
    refine SegL.skipUE rfl rfl rfl <| SegL.skipUE rfl rfl rfl <| SegL.skipUE rfl rfl rfl <| SegL.skipUE rfl rfl rfl <| SegL.skipUE rfl rfl rfl <| SegL.skipUE rfl rfl rfl <| SegL.skipUE rfl rfl rfl <| SegL.skipUE rfl rfl rfl ?_
    refine SegL.skipGE rfl rfl rfl rfl <| SegL.opE (OpT.pickT rfl rfl) rfl <| SegL.doneE <| EndL.is (t := 0) rfl <| EndL.is (t := 4) rfl <| EndL.is (t := 7) rfl <| EndL.is (t := 8) rfl <| EndL.is (t := 9) rfl ?_
    refine EndL.is (t := 14) rfl <| EndL.is (t := 15) rfl <| EndL.is (t := 16) rfl <| EndL.is (t := 53) rfl <| EndL.seg <| Seg.nilT <| Wp.condT rfl <| Wp.sr ?_
    refine Seg.op (OpT.assign rfl) rfl <| Seg.nilT <| Wp.ret <| At.blk_r <| At.then_r <| At.then_r <| At.blk_r <| At.blk_r ?_
    refine At.then_r <| At.then_r <| At.blk_r <| At.then_r ?_
    obtain rfl := Option.some.inj hd
    exact At.res1 rfl (RV.tmp (v := (.bool false)) rfl) (fun w hs => ⟨rfl, (hs.dropN 2).weaken (hl1.trans hl2)⟩)
   replace hd := brF hg1 hd
   have hg1_ := of_decide_eq_false hg1
   rcases Bool.eq_false_or_eq_true (decide (x2.2.2 < 0)) with hg2 | hg2
   ·
    replace hd := brT hg2 hd
    have hg2_ := of_decide_eq_true hg2
    refine Wp.drawE 33 follows rfl (by kernel_rfl) <| SegL.opE (OpT.fld (o' := 0) fl27_0 rfl rfl) rfl <| SegL.opE (OpT.ldBlk (i := 0) (v := (.int .u8 x2.1)) u5 rfl rfl rfl rfl) rfl <| SegL.opE (OpT.fld (o' := 1) fl27_1 rfl rfl) rfl <| SegL.opE (OpT.ldBlk (i := 0) (v := (.int .u8 x2.2.1)) u5 rfl rfl rfl rfl) rfl <| SegL.opE (OpT.asB (b := decide (x2.2.1 < x2.1)) (c := false) (OpT.gtr rfl rfl) hg1) rfl <| SegL.opE (OpT.move rfl) rfl <| SegL.opGE rfl rfl (OpT.fld (o' := 2) fl27_2 rfl rfl) rfl ?_
    refine SegL.opGE rfl rfl (OpT.ldBlk (i := 0) (v := (.int .i64 x2.2.2)) u3 rfl rfl rfl rfl) rfl <| SegL.opGE rfl rfl (OpT.asB (b := decide (x2.2.2 < 0)) (c := true) (OpT.lss rfl rfl) hg2) rfl <| SegL.opE (OpT.pickF rfl rfl) rfl <| SegL.opE (OpT.move rfl) rfl <| SegL.skipGE rfl rfl rfl rfl <| SegL.skipGE rfl rfl rfl rfl <| SegL.skipGE rfl rfl rfl rfl <| SegL.skipGE rfl rfl rfl rfl ?_
    refine SegL.skipGE rfl rfl rfl rfl <| SegL.opE (OpT.pickT rfl rfl) rfl <| SegL.opE (OpT.move rfl) rfl <| SegL.skipGE rfl rfl rfl rfl <| SegL.skipGE rfl rfl rfl rfl <| SegL.skipGE rfl rfl rfl rfl <| SegL.skipUE rfl rfl rfl <| SegL.skipUE rfl rfl rfl ?_
    refine SegL.skipUE rfl rfl rfl <| SegL.skipUE rfl rfl rfl <| SegL.skipUE rfl rfl rfl <| SegL.skipUE rfl rfl rfl <| SegL.skipUE rfl rfl rfl <| SegL.skipUE rfl rfl rfl <| SegL.skipUE rfl rfl rfl <| SegL.skipUE rfl rfl rfl ?_
    refine SegL.skipGE rfl rfl rfl rfl <| SegL.opE (OpT.pickT rfl rfl) rfl <| SegL.doneE <| EndL.is (t := 0) rfl <| EndL.is (t := 4) rfl <| EndL.is (t := 7) rfl <| EndL.is (t := 8) rfl <| EndL.is (t := 9) rfl ?_
    refine EndL.is (t := 14) rfl <| EndL.is (t := 15) rfl <| EndL.is (t := 16) rfl <| EndL.is (t := 53) rfl <| EndL.seg <| Seg.nilT <| Wp.condT rfl <| Wp.sr ?_
    refine Seg.op (OpT.assign rfl) rfl <| Seg.nilT <| Wp.ret <| At.blk_r <| At.then_r <| At.then_r <| At.blk_r <| At.blk_r ?_
    refine At.then_r <| At.then_r <| At.blk_r <| At.then_r ?_
    obtain rfl := Option.some.inj hd
    exact At.res1 rfl (RV.tmp (v := (.bool false)) rfl) (fun w hs => ⟨rfl, (hs.dropN 2).weaken (hl1.trans hl2)⟩)
   replace hd := brF hg2 hd
   have hg2_ := of_decide_eq_false hg2
   rcases Bool.eq_false_or_eq_true (decide ((a0.length:Int) ≤ x2.2.2)) with hg3 | hg3
   ·
    replace hd := brT hg3 hd
    have hg3_ := of_decide_eq_true hg3
    have hb5 := hv1.le
    refine Wp.drawE 33 follows rfl (by kernel_rfl) <| SegL.opE (OpT.fld (o' := 0) fl27_0 rfl rfl) rfl <| SegL.opE (OpT.ldBlk (i := 0) (v := (.int .u8 x2.1)) u5 rfl rfl rfl rfl) rfl <| SegL.opE (OpT.fld (o' := 1) fl27_1 rfl rfl) rfl <| SegL.opE (OpT.ldBlk (i := 0) (v := (.int .u8 x2.2.1)) u5 rfl rfl rfl rfl) rfl <| SegL.opE (OpT.asB (b := decide (x2.2.1 < x2.1)) (c := false) (OpT.gtr rfl rfl) hg1) rfl <| SegL.opE (OpT.move rfl) rfl <| SegL.opGE rfl rfl (OpT.fld (o' := 2) fl27_2 rfl rfl) rfl ?_
    refine SegL.opGE rfl rfl (OpT.ldBlk (i := 0) (v := (.int .i64 x2.2.2)) u3 rfl rfl rfl rfl) rfl <| SegL.opGE rfl rfl (OpT.asB (b := decide (x2.2.2 < 0)) (c := false) (OpT.lss rfl rfl) hg2) rfl <| SegL.opE (OpT.pickF rfl rfl) rfl <| SegL.opE (OpT.move rfl) rfl <| SegL.opGE rfl rfl (OpT.fld (o' := 2) fl27_2 rfl rfl) rfl <| SegL.opGE rfl rfl (OpT.ldBlk (i := 0) (v := (.int .i64 x2.2.2)) u3 rfl rfl rfl rfl) rfl <| SegL.opGE rfl rfl (OpT.move rfl) rfl <| SegL.opGE rfl rfl (OpT.len u22 rfl (hv1.mono (hl1.trans hl2)).sl) rfl ?_
    refine SegL.opGE rfl rfl (OpT.asB (b := decide ((a0.length:Int) ≤ x2.2.2)) (c := true) (OpT.geq rfl rfl) hg3) rfl <| SegL.opE (OpT.pickF rfl rfl) rfl <| SegL.opE (OpT.move rfl) rfl <| SegL.skipGE rfl rfl rfl rfl <| SegL.skipGE rfl rfl rfl rfl <| SegL.skipGE rfl rfl rfl rfl <| SegL.skipUE rfl rfl rfl <| SegL.skipUE rfl rfl rfl ?_
    refine SegL.skipUE rfl rfl rfl <| SegL.skipUE rfl rfl rfl <| SegL.skipUE rfl rfl rfl <| SegL.skipUE rfl rfl rfl <| SegL.skipUE rfl rfl rfl <| SegL.skipUE rfl rfl rfl <| SegL.skipUE rfl rfl rfl <| SegL.skipUE rfl rfl rfl ?_
    refine SegL.skipGE rfl rfl rfl rfl <| SegL.opE (OpT.pickT rfl rfl) rfl <| SegL.doneE <| EndL.is (t := 0) rfl <| EndL.is (t := 4) rfl <| EndL.is (t := 7) rfl <| EndL.is (t := 8) rfl <| EndL.is (t := 9) rfl ?_
    refine EndL.is (t := 14) rfl <| EndL.is (t := 15) rfl <| EndL.is (t := 16) rfl <| EndL.is (t := 53) rfl <| EndL.seg <| Seg.nilT <| Wp.condT rfl <| Wp.sr ?_
    refine Seg.op (OpT.assign rfl) rfl <| Seg.nilT <| Wp.ret <| At.blk_r <| At.then_r <| At.then_r <| At.blk_r <| At.blk_r ?_
    refine At.then_r <| At.then_r <| At.blk_r <| At.then_r ?_
    obtain rfl := Option.some.inj hd
    exact At.res1 rfl (RV.tmp (v := (.bool false)) rfl) (fun w hs => ⟨rfl, (hs.dropN 2).weaken (hl1.trans hl2)⟩)
   replace hd := brF hg3 hd
   have hg3_ := of_decide_eq_false hg3
   rcases Bool.eq_false_or_eq_true (decide (0 < (k2:Int))) with hg4 | hg4
   ·
    replace hd := brT hg4 hd
    have hg4_ := of_decide_eq_true hg4
    obtain ⟨ha1, hd⟩ := chk_some hd
    obtain ⟨x3, hx3, hd⟩ := bnd_some hd
    have hx3_ := idx_bd hx3
    have hb5 := hv1.le
    obtain ⟨_, ⟨_, _, rfl, ⟨rfl, hr5, hr6⟩, ⟨_, _, rfl, ⟨rfl, hr7, hr8⟩, rfl⟩⟩, hc3⟩ := SlD.get (hv2.mono hl2) hx3
    refine Wp.drawE 33 follows rfl (by kernel_rfl) <| SegL.opE (OpT.fld (o' := 0) fl27_0 rfl rfl) rfl <| SegL.opE (OpT.ldBlk (i := 0) (v := (.int .u8 x2.1)) u5 rfl rfl rfl rfl) rfl <| SegL.opE (OpT.fld (o' := 1) fl27_1 rfl rfl) rfl <| SegL.opE (OpT.ldBlk (i := 0) (v := (.int .u8 x2.2.1)) u5 rfl rfl rfl rfl) rfl <| SegL.opE (OpT.asB (b := decide (x2.2.1 < x2.1)) (c := false) (OpT.gtr rfl rfl) hg1) rfl <| SegL.opE (OpT.move rfl) rfl <| SegL.opGE rfl rfl (OpT.fld (o' := 2) fl27_2 rfl rfl) rfl ?_
    refine SegL.opGE rfl rfl (OpT.ldBlk (i := 0) (v := (.int .i64 x2.2.2)) u3 rfl rfl rfl rfl) rfl <| SegL.opGE rfl rfl (OpT.asB (b := decide (x2.2.2 < 0)) (c := false) (OpT.lss rfl rfl) hg2) rfl <| SegL.opE (OpT.pickF rfl rfl) rfl <| SegL.opE (OpT.move rfl) rfl <| SegL.opGE rfl rfl (OpT.fld (o' := 2) fl27_2 rfl rfl) rfl <| SegL.opGE rfl rfl (OpT.ldBlk (i := 0) (v := (.int .i64 x2.2.2)) u3 rfl rfl rfl rfl) rfl <| SegL.opGE rfl rfl (OpT.move rfl) rfl <| SegL.opGE rfl rfl (OpT.len u22 rfl (hv1.mono (hl1.trans hl2)).sl) rfl ?_
    refine SegL.opGE rfl rfl (OpT.asB (b := decide ((a0.length:Int) ≤ x2.2.2)) (c := false) (OpT.geq rfl rfl) hg3) rfl <| SegL.opE (OpT.pickF rfl rfl) rfl <| SegL.opE (OpT.move rfl) rfl <| SegL.opGE rfl rfl (OpT.move rfl) rfl <| SegL.opGE rfl rfl (OpT.asB (b := decide (0 < (k2:Int))) (c := true) (OpT.gtr rfl rfl) hg4) rfl <| SegL.opGE rfl rfl (OpT.move rfl) rfl <| SegL.opGE rfl rfl (OpT.fld (o' := 1) fl30_1 rfl rfl) rfl <| SegL.opGE rfl rfl (OpT.ldBlk (i := 1) (v := v2) u28 rfl rfl rfl rfl) rfl ?_
    refine SegL.opGE rfl rfl (OpT.move rfl) rfl <| SegL.opGE rfl rfl (OpT.sub rfl rfl (fits64 ha1)) rfl <| SegL.opGE rfl rfl (OpT.ixSl u28 ti27 rfl (hv2.mono hl2).sl rfl (idx_bd hx3)) rfl <| SegL.opGE rfl rfl (OpT.fldE fl27_1 rfl (hv2.mono hl2).sl (by omega)) rfl <| SegL.opGE rfl rfl (OpT.ldH u5 rfl rfl (hc3 1 _ rfl)) rfl <| SegL.opGE rfl rfl (OpT.fld (o' := 0) fl27_0 rfl rfl) rfl <| SegL.opGE rfl rfl (OpT.ldBlk (i := 0) (v := (.int .u8 x2.1)) u5 rfl rfl rfl rfl) rfl <| SegL.opGE rfl rfl (OpT.geq rfl rfl) rfl ?_
    refine SegL.opGE rfl rfl (OpT.pickT rfl rfl) rfl <| SegL.opE (OpT.pickF rfl rfl) rfl <| SegL.doneE <| EndL.is (t := 0) rfl <| EndL.is (t := 4) rfl <| EndL.is (t := 7) rfl <| EndL.is (t := 8) rfl <| EndL.is (t := 9) rfl ?_
    refine EndL.is (t := 14) rfl <| EndL.is (t := 15) rfl <| EndL.is (t := 16) rfl <| EndL.is (t := 53) rfl <| EndL.seg <| Seg.nilT ?_
    refine Wp.cond (b := decide (x2.1 ≤ x3.2.1)) rfl (fun hb6 => ?_) (fun hb6 => ?_)
    ·
     replace hd := brT hb6 hd
     replace hb6 := of_decide_eq_true hb6
     refine Wp.sr <| Seg.op (OpT.assign rfl) rfl <| Seg.nilT <| Wp.ret <| At.blk_r <| At.then_r <| At.then_r <| At.blk_r ?_
     refine At.blk_r <| At.then_r <| At.then_r <| At.blk_r <| At.then_r ?_
     obtain rfl := Option.some.inj hd
     exact At.res1 rfl (RV.tmp (v := (.bool false)) rfl) (fun w hs => ⟨rfl, (hs.dropN 2).weaken (hl1.trans hl2)⟩)
    replace hd := brF hb6 hd
    replace hb6 := of_decide_eq_false hb6
    refine Wp.skip <| At.blk_n <| At.then_n <| Wp.region <| Seg.op (OpT.add rfl rfl (fits64 (by omega))) rfl <| Seg.op (OpT.move rfl) rfl <| Seg.nil <| At.permK [1] 2 rfl rfl rfl ?_
    refine At.nextF (Hp.le.refl _) ⟨(k2 + 1), rfl, rfl, (by rw [← hn2]; exact hd)⟩ (Sub.of rfl)
   replace hd := brF hg4 hd
   have hg4_ := of_decide_eq_false hg4
   have hb5 := hv1.le
   refine Wp.drawE 33 follows rfl (by kernel_rfl) <| SegL.opE (OpT.fld (o' := 0) fl27_0 rfl rfl) rfl <| SegL.opE (OpT.ldBlk (i := 0) (v := (.int .u8 x2.1)) u5 rfl rfl rfl rfl) rfl <| SegL.opE (OpT.fld (o' := 1) fl27_1 rfl rfl) rfl <| SegL.opE (OpT.ldBlk (i := 0) (v := (.int .u8 x2.2.1)) u5 rfl rfl rfl rfl) rfl <| SegL.opE (OpT.asB (b := decide (x2.2.1 < x2.1)) (c := false) (OpT.gtr rfl rfl) hg1) rfl <| SegL.opE (OpT.move rfl) rfl <| SegL.opGE rfl rfl (OpT.fld (o' := 2) fl27_2 rfl rfl) rfl ?_
   refine SegL.opGE rfl rfl (OpT.ldBlk (i := 0) (v := (.int .i64 x2.2.2)) u3 rfl rfl rfl rfl) rfl <| SegL.opGE rfl rfl (OpT.asB (b := decide (x2.2.2 < 0)) (c := false) (OpT.lss rfl rfl) hg2) rfl <| SegL.opE (OpT.pickF rfl rfl) rfl <| SegL.opE (OpT.move rfl) rfl <| SegL.opGE rfl rfl (OpT.fld (o' := 2) fl27_2 rfl rfl) rfl <| SegL.opGE rfl rfl (OpT.ldBlk (i := 0) (v := (.int .i64 x2.2.2)) u3 rfl rfl rfl rfl) rfl <| SegL.opGE rfl rfl (OpT.move rfl) rfl <| SegL.opGE rfl rfl (OpT.len u22 rfl (hv1.mono (hl1.trans hl2)).sl) rfl ?_
   refine SegL.opGE rfl rfl (OpT.asB (b := decide ((a0.length:Int) ≤ x2.2.2)) (c := false) (OpT.geq rfl rfl) hg3) rfl <| SegL.opE (OpT.pickF rfl rfl) rfl <| SegL.opE (OpT.move rfl) rfl <| SegL.opGE rfl rfl (OpT.move rfl) rfl <| SegL.opGE rfl rfl (OpT.asB (b := decide (0 < (k2:Int))) (c := false) (OpT.gtr rfl rfl) hg4) rfl <| SegL.opGE rfl rfl (OpT.move rfl) rfl <| SegL.skipGE rfl rfl rfl rfl <| SegL.skipGE rfl rfl rfl rfl ?_
   refine SegL.skipGE rfl rfl rfl rfl <| SegL.skipGE rfl rfl rfl rfl <| SegL.skipGE rfl rfl rfl rfl <| SegL.skipGE rfl rfl rfl rfl <| SegL.skipGE rfl rfl rfl rfl <| SegL.skipGE rfl rfl rfl rfl <| SegL.skipGE rfl rfl rfl rfl <| SegL.skipGE rfl rfl rfl rfl ?_
   refine SegL.opGE rfl rfl (OpT.pickF rfl rfl) rfl <| SegL.opE (OpT.pickF rfl rfl) rfl <| SegL.doneE <| EndL.is (t := 0) rfl <| EndL.is (t := 4) rfl <| EndL.is (t := 7) rfl <| EndL.is (t := 8) rfl <| EndL.is (t := 9) rfl ?_
   refine EndL.is (t := 14) rfl <| EndL.is (t := 15) rfl <| EndL.is (t := 16) rfl <| EndL.is (t := 53) rfl <| EndL.seg <| Seg.nilT <| Wp.condF rfl <| Wp.skip ?_
   refine At.blk_n <| At.then_n <| Wp.region <| Seg.op (OpT.add rfl rfl (fits64 (by omega))) rfl <| Seg.op (OpT.move rfl) rfl <| Seg.nil <| At.permK [1] 2 rfl rfl rfl ?_
   refine At.nextF (Hp.le.refl _) ⟨(k2 + 1), rfl, rfl, (by rw [← hn2]; exact hd)⟩ (Sub.of rfl)
  replace hd := brF hb4 hd
  replace hb4 := of_decide_eq_false hb4
  refine Wp.exit <| At.then_x <| At.then_x <| At.blk_hit <| At.blk_n <| At.then_n <| Wp.region <| Seg.op (OpT.add rfl rfl (fits64 (by omega))) rfl ?_
  refine Seg.op (OpT.move rfl) rfl <| Seg.nil <| At.permK [] 1 rfl rfl rfl ?_
  refine At.nextF hl2 ⟨(k1 + 1), rfl, rfl, (by rw [← hn1]; exact hd)⟩ (Sub.of rfl)
 replace hd := brF hb2 hd
 replace hb2 := of_decide_eq_false hb2
 refine Wp.exit <| At.then_x <| At.then_x <| At.blk_hit <| At.then_n <| Wp.sr <| Seg.op (OpT.assign rfl) rfl <| Seg.nilT ?_
 refine Wp.ret ?_
 obtain rfl := Option.some.inj hd
 exact At.res1 rfl (RV.tmp (v := (.bool true)) rfl) (fun w hs => ⟨rfl, (hs.dropN 0).weaken hl1⟩)

set_option maxRecDepth 100000 in
set_option maxHeartbeats 4000000 in
theorem au_Accepts_w {fu : Nat} {a0 : List (Bool × (List (Int × Int × Int)))} {a1 : Str} {v1 : Value} {r : Bool} (hv1 : SlD (cP cB (cL (cP cU8 (cP cU8 cI64)))) H a0 v1) (hd : au_Accepts fu a0 a1 = some r) :
    TriV Tryd.prog 16 [(.agg #[v1]), (sv a1)] H O (.bool r) := by
 intro w hs
 refine wp_of Tryd.func16 rfl rfl rfl ?_ hs
 clear hs w
 unfold au_Accepts at hd
 refine Wp.sr <| Seg.box (cs := #[v1]) rfl rfl rfl fun B2 => Seg.op (OpT.assign rfl) rfl <| Seg.nilT <| Wp.scope <| Wp.seq <| Wp.seq ?_
 rcases Bool.eq_false_or_eq_true (decide ((a0.length:Int) = 0)) with hg1 | hg1
 ·
  replace hd := brT hg1 hd
  have hg1_ := of_decide_eq_true hg1
  refine Wp.region <| Seg.op (OpT.fld (o' := 0) fl32_0 rfl rfl) rfl <| Seg.op (OpT.ldBlk (i := 0) (v := v1) u22 rfl rfl rfl rfl) rfl ?_
  have hb1 := hv1.le
  refine Seg.op (OpT.len u22 rfl hv1.sl) rfl <| Seg.op (OpT.asB (b := decide ((a0.length:Int) = 0)) (c := true) (OpT.eql rfl rfl) hg1) rfl <| Seg.op (OpT.move rfl) rfl <| Seg.skipG rfl rfl rfl rfl <| Seg.skipG rfl rfl rfl rfl <| Seg.skipG rfl rfl rfl rfl <| Seg.skipG rfl rfl rfl rfl <| Seg.op (OpT.pickT rfl rfl) rfl ?_
  refine Seg.nilT <| Wp.condT rfl <| Wp.sr <| Seg.op (OpT.assign rfl) rfl <| Seg.nilT <| Wp.ret <| At.then_r <| At.ng_r ?_
  obtain rfl := Option.some.inj hd
  exact At.res1 rfl (RV.tmp (v := (.bool false)) rfl) (fun w hs => ⟨rfl, (hs.dropN 1).weaken (Hp.le.refl _)⟩)
 replace hd := brF hg1 hd
 have hg1_ := of_decide_eq_false hg1
 obtain ⟨x1, hx1, hd⟩ := bnd_some hd
 refine Wp.region <| Seg.op (OpT.fld (o' := 0) fl32_0 rfl rfl) rfl <| Seg.op (OpT.ldBlk (i := 0) (v := v1) u22 rfl rfl rfl rfl) rfl ?_
 have hb1 := hv1.le
 refine Seg.op (OpT.len u22 rfl hv1.sl) rfl <| Seg.op (OpT.asB (b := decide ((a0.length:Int) = 0)) (c := false) (OpT.eql rfl rfl) hg1) rfl <| Seg.op (OpT.move rfl) rfl <| Seg.opG rfl rfl (OpT.fld (o' := 0) fl32_0 rfl rfl) rfl <| Seg.opG rfl rfl (OpT.ldBlk (i := 0) (v := v1) u22 rfl rfl rfl rfl) rfl <| Seg.opG rfl rfl (OpT.call ent18 rfl (au_wellFormed_w hv1 hx1)) rfl <| Seg.opG rfl rfl (OpT.not rfl) rfl <| Seg.op (OpT.pickF rfl rfl) rfl ?_
 refine Seg.nilT ?_
 refine Wp.cond (b := !x1) rfl (fun hb2 => ?_) (fun hb2 => ?_)
 ·
  replace hd := brT hb2 hd
  refine Wp.sr <| Seg.op (OpT.assign rfl) rfl <| Seg.nilT <| Wp.ret <| At.then_r <| At.ng_r ?_
  obtain rfl := Option.some.inj hd
  exact At.res1 rfl (RV.tmp (v := (.bool false)) rfl) (fun w hs => ⟨rfl, (hs.dropN 1).weaken (Hp.le.refl _)⟩)
 replace hd := brF hb2 hd
 refine Wp.skip <| At.then_n <| Wp.sr <| Seg.op (OpT.assign rfl) rfl <| Seg.nilT <| Wp.seq <| Wp.label <| At.then_n ?_
 refine Wp.seq <| Wp.sr <| Seg.op (OpT.move rfl) rfl <| Seg.op (OpT.lenS u9 rfl) rfl <| Seg.op (OpT.move rfl) rfl <| Seg.nilT <| Wp.block <| Wp.loopF (fun m LL HH OO => ∃ (i1 : Int), ∃ (i2 : Int), [(1, (sv a1)), (2, (ptr B2 0)), (5, (.int .i64 i1)), (20, (.int .i64 (a1.length:Int))), (21, (.int .i64 i2))] = LL ∧ .blk B2 (.cells #[v1] 32 (0, 0)) :: O = OO ∧ loopK m (fun p nx => au_Accepts_b1 fu a0 a1 p.1 p.2 nx) (i1, i2) = some r) fu ⟨0, 0, rfl, rfl, hd⟩ (Sub.of rfl) ?_
 intro m1 L1 H1 O1 hl1 hI1
 obtain ⟨i1, i2, rfl, rfl, hd⟩ := hI1
 replace hd := loopK_some hd; obtain ⟨m2, rfl, hd⟩ := hd
 obtain ⟨nx1, hn1⟩ : ∃ f, f = loopK m2 (fun p nx => au_Accepts_b1 fu a0 a1 p.1 p.2 nx) := ⟨_, rfl⟩
 rw [← hn1] at hd
 replace hd : au_Accepts_b1 fu a0 a1 i1 i2 nx1 = some r := hd
 unfold au_Accepts_b1 at hd
 refine Wp.sr <| Seg.op (OpT.lss rfl rfl) rfl <| Seg.nilT <| Wp.seq ?_
 refine Wp.cond (b := decide (i2 < (a1.length:Int))) rfl (fun hb3 => ?_) (fun hb3 => ?_)
 ·
  replace hd := brT hb3 hd
  replace hb3 := of_decide_eq_true hb3
  refine Wp.skip <| At.then_n <| Wp.seq <| Wp.block <| Wp.sr <| Seg.op (OpT.move rfl) rfl <| Seg.op (OpT.assign rfl) rfl <| Seg.nilT ?_
  refine Wp.seq <| Wp.seq ?_
  obtain ⟨x2, hx2, hd⟩ := bnd_some hd
  have hx2_ := idx_bd hx2
  refine Wp.region <| Seg.op (OpT.fld (o' := 0) fl32_0 rfl rfl) rfl <| Seg.op (OpT.ldBlk (i := 0) (v := v1) u22 rfl rfl rfl rfl) rfl <| Seg.op (OpT.move rfl) rfl ?_
  obtain ⟨_, ⟨_, _, rfl, rfl, ⟨v2, rfl, hv2⟩⟩, hc1⟩ := SlD.get (hv1.mono hl1) hx2
  refine Seg.op (OpT.ixSl u22 ti30 rfl (hv1.mono hl1).sl rfl (idx_bd hx2)) rfl <| Seg.op (OpT.fldE fl30_1 rfl (hv1.mono hl1).sl (by omega)) rfl <| Seg.op (OpT.ldH u28 rfl rfl (hc1 1 _ rfl)) rfl ?_
  have hb4 := hv2.le
  refine Seg.op (OpT.len u28 rfl hv2.sl) rfl <| Seg.op (OpT.move rfl) rfl <| Seg.nilT <| Wp.block <| Wp.loopF (fun m LL HH OO => ∃ (k1 : Nat), [(1, (sv a1)), (2, (ptr B2 0)), (6, (.int .i64 i2)), (20, (.int .i64 (a1.length:Int))), (21, (.int .i64 i2)), (29, v2), (30, (.int .i64 (x2.2.length:Int))), (31, (.int .i64 (k1:Int)))] = LL ∧ .blk B2 (.cells #[v1] 32 (0, 0)) :: O = OO ∧ loopK m (au_Accepts_b2 fu a1 i2 nx1 x2) k1 = some r) fu ⟨0, rfl, rfl, hd⟩ (Sub.of rfl) ?_
  intro m3 L2 H2 O2 hl2 hI2
  obtain ⟨k1, rfl, rfl, hd⟩ := hI2
  replace hd := loopK_some hd; obtain ⟨m4, rfl, hd⟩ := hd
  obtain ⟨nx2, hn2⟩ : ∃ f, f = loopK m4 (au_Accepts_b2 fu a1 i2 nx1 x2) := ⟨_, rfl⟩
  rw [← hn2] at hd
  replace hd : au_Accepts_b2 fu a1 i2 nx1 x2 k1 nx2 = some r := hd
  unfold au_Accepts_b2 at hd
  refine Wp.sr <| Seg.op (OpT.lss rfl rfl) rfl <| Seg.nilT <| Wp.seq ?_
  refine Wp.cond (b := decide ((k1:Int) < (x2.2.length:Int))) rfl (fun hb5 => ?_) (fun hb5 => ?_)
  ·
   replace hd := brT hb5 hd
   replace hb5 := of_decide_eq_true hb5
   refine Wp.skip <| At.then_n <| Wp.seq <| Wp.block <| Wp.seq ?_
   obtain ⟨x3, hx3, hd⟩ := bnd_some hd
   have hx3_ := idx_bd hx3
   refine Wp.region ?_
   obtain ⟨_, ⟨_, _, rfl, ⟨rfl, hr1, hr2⟩, ⟨_, _, rfl, ⟨rfl, hr3, hr4⟩, rfl⟩⟩, hc2⟩ := SlD.get (hv2.mono hl2) hx3
   refine Seg.op (OpT.ixSl u28 ti27 rfl (hv2.mono hl2).sl rfl (idx_bd hx3)) rfl <| Seg.op (OpT.ldHA (vs := [(.int .u8 x3.1), (.int .u8 x3.2.1), (.int .i64 x3.2.2)]) u27 rfl ti27 rfl rfl (fun j u hj => (hc2 j u hj))) rfl <| Seg.alloc (cs := #[(.int .u8 0), (.int .u8 0), (.int .i64 0)]) ti27 rfl rfl fun B3 => Seg.stBlkW (i := 0) (cs' := #[(.int .u8 x3.1), (.int .u8 x3.2.1), (.int .i64 x3.2.2)]) rfl rfl ti27 rfl rfl (onesA (ones_cons rfl (ones_cons rfl (ones_cons rfl (ones_nil))))) rfl ?_
   refine Seg.own (O := .blk B3 (.cells #[(.int .u8 x3.1), (.int .u8 x3.2.1), (.int .i64 x3.2.2)] 27 (0, 0)) :: .blk B2 (.cells #[v1] 32 (0, 0)) :: O) ?_ rfl
   refine Seg.nilT <| Wp.seq ?_
   obtain ⟨x4, hx4, hd⟩ := bnd_some hd
   have hx4_ := idxS_bd hx4
   rcases Bool.eq_false_or_eq_true (decide (x3.1 ≤ x4)) with hg2 | hg2
   ·
    replace hd := brT hg2 hd
    have hg2_ := of_decide_eq_true hg2
    obtain ⟨x5, hx5, hd⟩ := bnd_some hd
    have hx5_ := idxS_bd hx5
    refine Wp.drawE 14 follows rfl (by kernel_rfl) <| SegL.opE (OpT.fld (o' := 0) fl27_0 rfl rfl) rfl <| SegL.opE (OpT.ldBlk (i := 0) (v := (.int .u8 x3.1)) u5 rfl rfl rfl rfl) rfl <| SegL.opE (OpT.move rfl) rfl <| SegL.opE (OpT.move rfl) rfl <| SegL.opE (OpT.byteS u9 rfl rfl hx4) rfl <| SegL.opE (OpT.asB (b := decide (x3.1 ≤ x4)) (c := true) (OpT.leq rfl rfl) hg2) rfl <| SegL.opE (OpT.move rfl) rfl ?_
    refine SegL.opGE rfl rfl (OpT.move rfl) rfl <| SegL.opGE rfl rfl (OpT.move rfl) rfl <| SegL.opGE rfl rfl (OpT.byteS u9 rfl rfl hx5) rfl <| SegL.opGE rfl rfl (OpT.fld (o' := 1) fl27_1 rfl rfl) rfl <| SegL.opGE rfl rfl (OpT.ldBlk (i := 0) (v := (.int .u8 x3.2.1)) u5 rfl rfl rfl rfl) rfl <| SegL.opGE rfl rfl (OpT.leq rfl rfl) rfl <| SegL.opE (OpT.pickT rfl rfl) rfl <| SegL.doneE ?_
    refine EndL.is (t := 1) rfl <| EndL.is (t := 2) rfl <| EndL.is (t := 6) rfl <| EndL.is (t := 8) rfl <| EndL.is (t := 20) rfl <| EndL.is (t := 21) rfl <| EndL.is (t := 29) rfl <| EndL.is (t := 30) rfl ?_
    refine EndL.is (t := 31) rfl <| EndL.is (t := 48) rfl <| EndL.seg <| Seg.nilT ?_
    refine Wp.cond (b := decide (x5 ≤ x3.2.1)) rfl (fun hb6 => ?_) (fun hb6 => ?_)
    ·
     replace hd := brT hb6 hd
     replace hb6 := of_decide_eq_true hb6
     refine Wp.sr <| Seg.op (OpT.fld (o' := 2) fl27_2 rfl rfl) rfl <| Seg.op (OpT.ldBlk (i := 0) (v := (.int .i64 x3.2.2)) u3 rfl rfl rfl rfl) rfl <| Seg.op (OpT.assign rfl) rfl <| Seg.nilT <| Wp.exit <| At.blk_miss rfl <| At.then_x ?_
     refine At.then_x <| At.blk_miss rfl <| At.then_x <| At.blk_hit <| At.then_n ?_
     obtain ⟨ha1, hd⟩ := chk_some hd
     refine Wp.region <| Seg.op (OpT.add rfl rfl (fits64 ha1)) rfl <| Seg.op (OpT.move rfl) rfl <| Seg.nil <| At.permK [1] 2 rfl rfl rfl ?_
     refine At.nextF hl2 ⟨x3.2.2, (i2 + 1), rfl, rfl, (by rw [← hn1]; exact hd)⟩ (Sub.of rfl)
    replace hd := brF hb6 hd
    replace hb6 := of_decide_eq_false hb6
    refine Wp.skip <| At.blk_n <| At.then_n <| Wp.region <| Seg.op (OpT.add rfl rfl (fits64 (by omega))) rfl <| Seg.op (OpT.move rfl) rfl <| Seg.nil <| At.permK [1] 2 rfl rfl rfl ?_
    refine At.nextF (Hp.le.refl _) ⟨(k1 + 1), rfl, rfl, (by rw [← hn2]; exact hd)⟩ (Sub.of rfl)
   replace hd := brF hg2 hd
   have hg2_ := of_decide_eq_false hg2
   refine Wp.drawE 14 follows rfl (by kernel_rfl) <| SegL.opE (OpT.fld (o' := 0) fl27_0 rfl rfl) rfl <| SegL.opE (OpT.ldBlk (i := 0) (v := (.int .u8 x3.1)) u5 rfl rfl rfl rfl) rfl <| SegL.opE (OpT.move rfl) rfl <| SegL.opE (OpT.move rfl) rfl <| SegL.opE (OpT.byteS u9 rfl rfl hx4) rfl <| SegL.opE (OpT.asB (b := decide (x3.1 ≤ x4)) (c := false) (OpT.leq rfl rfl) hg2) rfl <| SegL.opE (OpT.move rfl) rfl ?_
   refine SegL.skipGE rfl rfl rfl rfl <| SegL.skipGE rfl rfl rfl rfl <| SegL.skipGE rfl rfl rfl rfl <| SegL.skipGE rfl rfl rfl rfl <| SegL.skipGE rfl rfl rfl rfl <| SegL.skipGE rfl rfl rfl rfl <| SegL.opE (OpT.pickF rfl rfl) rfl <| SegL.doneE ?_
   refine EndL.is (t := 1) rfl <| EndL.is (t := 2) rfl <| EndL.is (t := 6) rfl <| EndL.is (t := 8) rfl <| EndL.is (t := 20) rfl <| EndL.is (t := 21) rfl <| EndL.is (t := 29) rfl <| EndL.is (t := 30) rfl ?_
   refine EndL.is (t := 31) rfl <| EndL.is (t := 48) rfl <| EndL.seg <| Seg.nilT <| Wp.condF rfl <| Wp.skip <| At.blk_n <| At.then_n ?_
   refine Wp.region <| Seg.op (OpT.add rfl rfl (fits64 (by omega))) rfl <| Seg.op (OpT.move rfl) rfl <| Seg.nil <| At.permK [1] 2 rfl rfl rfl ?_
   refine At.nextF (Hp.le.refl _) ⟨(k1 + 1), rfl, rfl, (by rw [← hn2]; exact hd)⟩ (Sub.of rfl)
  replace hd := brF hb5 hd
  replace hb5 := of_decide_eq_false hb5
  refine Wp.exit <| At.then_x <| At.then_x <| At.blk_hit <| At.then_n <| Wp.sr <| Seg.op (OpT.assign rfl) rfl <| Seg.nilT ?_
  refine Wp.ret <| At.blk_r <| At.then_r <| At.then_r <| At.blk_r <| At.then_r <| At.ng_r ?_
  obtain rfl := Option.some.inj hd
  exact At.res1 rfl (RV.tmp (v := (.bool false)) rfl) (fun w hs => ⟨rfl, (hs.dropN 1).weaken (hl1.trans hl2)⟩)
 replace hd := brF hb3 hd
 replace hb3 := of_decide_eq_false hb3
 refine Wp.exit <| At.then_x <| At.then_x <| At.blk_hit <| At.then_n <| Wp.seq ?_
 obtain ⟨x6, hx6, hd⟩ := bnd_some hd
 have hx6_ := idx_bd hx6
 refine Wp.region <| Seg.op (OpT.fld (o' := 0) fl32_0 rfl rfl) rfl <| Seg.op (OpT.ldBlk (i := 0) (v := v1) u22 rfl rfl rfl rfl) rfl <| Seg.op (OpT.move rfl) rfl ?_
 obtain ⟨_, ⟨_, _, rfl, rfl, ⟨v3, rfl, hv3⟩⟩, hc3⟩ := SlD.get (hv1.mono hl1) hx6
 refine Seg.op (OpT.ixSl u22 ti30 rfl (hv1.mono hl1).sl rfl (idx_bd hx6)) rfl <| Seg.op (OpT.fldE fl30_0 rfl (hv1.mono hl1).sl (by omega)) rfl <| Seg.op (OpT.ldH u4 rfl rfl (hc3 0 _ rfl)) rfl <| Seg.op (OpT.assign rfl) rfl <| Seg.nilT <| Wp.ret <| At.ng_r ?_
 obtain rfl := Option.some.inj hd
 exact At.res1 rfl (RV.tmp (v := (.bool x6.1)) rfl) (fun w hs => ⟨rfl, (hs.dropN 1).weaken hl1⟩)

set_option maxRecDepth 100000 in
set_option maxHeartbeats 4000000 in
theorem slices_Equal_w {fu : Nat} {a0 : List (Int × Int × Int)} {a1 : List (Int × Int × Int)} {v1 v2 : Value} {r : Bool} (hv1 : SlD (cP cU8 (cP cU8 cI64)) H a0 v1) (hv2 : SlD (cP cU8 (cP cU8 cI64)) H a1 v2) (hd : slices_Equal fu a0 a1 = some r) :
    TriV Tryd.prog 24 [v1, v2] H O (.bool r) := by
 intro w hs
 refine wp_of Tryd.func24 rfl rfl rfl ?_ hs
 clear hs w
 unfold slices_Equal at hd
 refine Wp.sr <| Seg.op (OpT.assign rfl) rfl <| Seg.nilT <| Wp.seq <| Wp.sr <| Seg.op (OpT.move rfl) rfl ?_
 have hb1 := hv1.le
 refine Seg.op (OpT.len u28 rfl hv1.sl) rfl <| Seg.op (OpT.move rfl) rfl ?_
 have hb2 := hv2.le
 refine Seg.op (OpT.len u28 rfl hv2.sl) rfl <| Seg.op (OpT.neq rfl rfl) rfl <| Seg.nilT ?_
 refine Wp.cond (b := decide ((a0.length:Int) ≠ (a1.length:Int))) rfl (fun hb3 => ?_) (fun hb3 => ?_)
 ·
  replace hd := brT hb3 hd
  replace hb3 := of_decide_eq_true hb3
  refine Wp.sr <| Seg.op (OpT.assign rfl) rfl <| Seg.nilT <| Wp.ret <| At.then_r ?_
  obtain rfl := Option.some.inj hd
  exact At.res1 rfl (RV.tmp (v := (.bool false)) rfl) (fun w hs => ⟨rfl, (hs.dropN 0).weaken (Hp.le.refl _)⟩)
 replace hd := brF hb3 hd
 replace hb3 := of_decide_eq_false hb3
 refine Wp.skip <| At.then_n <| Wp.seq <| Wp.sr <| Seg.op (OpT.move rfl) rfl ?_
 have hb4 := hv1.le
 refine Seg.op (OpT.len u28 rfl hv1.sl) rfl <| Seg.op (OpT.move rfl) rfl <| Seg.nilT <| Wp.block <| Wp.loopF (fun m LL HH OO => ∃ (k1 : Nat), [(0, v1), (1, v2), (12, (.int .i64 (a0.length:Int))), (13, (.int .i64 (k1:Int)))] = LL ∧ O = OO ∧ loopK m (slices_Equal_b1 fu a0 a1) k1 = some r) fu ⟨0, rfl, rfl, hd⟩ (Sub.of rfl) ?_
 intro m1 L1 H1 O1 hl1 hI1
 obtain ⟨k1, rfl, rfl, hd⟩ := hI1
 replace hd := loopK_some hd; obtain ⟨m2, rfl, hd⟩ := hd
 obtain ⟨nx1, hn1⟩ : ∃ f, f = loopK m2 (slices_Equal_b1 fu a0 a1) := ⟨_, rfl⟩
 rw [← hn1] at hd
 replace hd : slices_Equal_b1 fu a0 a1 k1 nx1 = some r := hd
 unfold slices_Equal_b1 at hd
 refine Wp.sr <| Seg.op (OpT.lss rfl rfl) rfl <| Seg.nilT <| Wp.seq ?_
 refine Wp.cond (b := decide ((k1:Int) < (a0.length:Int))) rfl (fun hb5 => ?_) (fun hb5 => ?_)
 ·
  replace hd := brT hb5 hd
  replace hb5 := of_decide_eq_true hb5
  refine Wp.skip <| At.then_n <| Wp.seq <| Wp.block <| Wp.sr <| Seg.op (OpT.move rfl) rfl <| Seg.op (OpT.assign rfl) rfl <| Seg.nilT ?_
  refine Wp.seq ?_
  obtain ⟨x1, hx1, hd⟩ := bnd_some hd
  have hx1_ := idx_bd hx1
  obtain ⟨x2, hx2, hd⟩ := bnd_some hd
  have hx2_ := idx_bd hx2
  obtain ⟨_, ⟨_, _, rfl, ⟨rfl, hr1, hr2⟩, ⟨_, _, rfl, ⟨rfl, hr3, hr4⟩, rfl⟩⟩, hc1⟩ := SlD.get (hv1.mono hl1) hx1
  obtain ⟨_, ⟨_, _, rfl, ⟨rfl, hr5, hr6⟩, ⟨_, _, rfl, ⟨rfl, hr7, hr8⟩, rfl⟩⟩, hc2⟩ := SlD.get (hv2.mono hl1) hx2
  refine Wp.drawE 9 follows rfl (by kernel_rfl) <| SegL.opE (OpT.move rfl) rfl <| SegL.opE (OpT.move rfl) rfl <| SegL.opE (OpT.ixSl u28 ti27 rfl (hv1.mono hl1).sl rfl (idx_bd hx1)) rfl <| SegL.opE (OpT.ldHA (vs := [(.int .u8 x1.1), (.int .u8 x1.2.1), (.int .i64 x1.2.2)]) u27 rfl ti27 rfl rfl (fun j u hj => (hc1 j u hj))) rfl <| SegL.opE (OpT.move rfl) rfl <| SegL.opE (OpT.move rfl) rfl <| SegL.opE (OpT.ixSl u28 ti27 rfl (hv2.mono hl1).sl rfl (idx_bd hx2)) rfl ?_
  refine SegL.opE (OpT.ldHA (vs := [(.int .u8 x2.1), (.int .u8 x2.2.1), (.int .i64 x2.2.2)]) u27 rfl ti27 rfl rfl (fun j u hj => (hc2 j u hj))) rfl <| SegL.opE (OpT.neInts (xs := [x1.1, x1.2.1, x1.2.2]) (ys := [x2.1, x2.2.1, x2.2.2]) ints27 rfl rfl rfl rfl) rfl <| SegL.doneE <| EndL.is (t := 0) rfl <| EndL.is (t := 1) rfl <| EndL.is (t := 12) rfl <| EndL.is (t := 13) rfl <| EndL.is (t := 24) rfl ?_
  refine EndL.seg <| Seg.nilT ?_
  refine Wp.cond (b := !(decide (([x1.1, x1.2.1, x1.2.2] : List Int) = [x2.1, x2.2.1, x2.2.2]))) rfl (fun hb6 => ?_) (fun hb6 => ?_)
  ·
   replace hd := brT hb6 hd
   refine Wp.sr <| Seg.op (OpT.assign rfl) rfl <| Seg.nilT <| Wp.ret <| At.blk_r <| At.then_r <| At.then_r <| At.blk_r ?_
   refine At.then_r ?_
   obtain rfl := Option.some.inj hd
   exact At.res1 rfl (RV.tmp (v := (.bool false)) rfl) (fun w hs => ⟨rfl, (hs.dropN 0).weaken hl1⟩)
  replace hd := brF hb6 hd
  refine Wp.skip <| At.blk_n <| At.then_n <| Wp.region <| Seg.op (OpT.add rfl rfl (fits64 (by omega))) rfl <| Seg.op (OpT.move rfl) rfl <| Seg.nil ?_
  refine At.nextF (Hp.le.refl _) ⟨(k1 + 1), rfl, rfl, (by rw [← hn1]; exact hd)⟩ (Sub.of rfl)
 replace hd := brF hb5 hd
 replace hb5 := of_decide_eq_false hb5
 refine Wp.exit <| At.then_x <| At.then_x <| At.blk_hit <| At.then_n <| Wp.sr <| Seg.op (OpT.assign rfl) rfl <| Seg.nilT ?_
 refine Wp.ret ?_
 obtain rfl := Option.some.inj hd
 exact At.res1 rfl (RV.tmp (v := (.bool true)) rfl) (fun w hs => ⟨rfl, (hs.dropN 0).weaken hl1⟩)

set_option maxRecDepth 100000 in
set_option maxHeartbeats 4000000 in
theorem r05_Same_w {fu : Nat} {a0 : List (Bool × (List (Int × Int × Int)))} {a1 : List (Bool × (List (Int × Int × Int)))} {v1 v2 : Value} {r : Bool} (hv1 : SlD (cP cB (cL (cP cU8 (cP cU8 cI64)))) H a0 v1) (hv2 : SlD (cP cB (cL (cP cU8 (cP cU8 cI64)))) H a1 v2) (hd : r05_Same fu a0 a1 = some r) :
    TriV Tryd.prog 13 [(.agg #[v1]), (.agg #[v2])] H O (.bool r) := by
 intro w hs
 refine wp_of Tryd.func13 rfl rfl rfl ?_ hs
 clear hs w
 unfold r05_Same at hd
 refine Wp.sr <| Seg.box (cs := #[v1]) rfl rfl rfl fun B2 => Seg.box (cs := #[v2]) rfl rfl rfl fun B3 => Seg.op (OpT.assign rfl) rfl <| Seg.nilT <| Wp.seq <| Wp.sr <| Seg.op (OpT.fld (o' := 0) fl32_0 rfl rfl) rfl ?_
 refine Seg.op (OpT.ldBlk (i := 1) (v := v1) u22 rfl rfl rfl rfl) rfl ?_
 have hb1 := hv1.le
 refine Seg.op (OpT.len u22 rfl hv1.sl) rfl <| Seg.op (OpT.fld (o' := 0) fl32_0 rfl rfl) rfl <| Seg.op (OpT.ldBlk (i := 0) (v := v2) u22 rfl rfl rfl rfl) rfl ?_
 have hb2 := hv2.le
 refine Seg.op (OpT.len u22 rfl hv2.sl) rfl <| Seg.op (OpT.neq rfl rfl) rfl <| Seg.nilT ?_
 refine Wp.cond (b := decide ((a0.length:Int) ≠ (a1.length:Int))) rfl (fun hb3 => ?_) (fun hb3 => ?_)
 ·
  replace hd := brT hb3 hd
  replace hb3 := of_decide_eq_true hb3
  refine Wp.sr <| Seg.op (OpT.assign rfl) rfl <| Seg.nilT <| Wp.ret <| At.then_r ?_
  obtain rfl := Option.some.inj hd
  exact At.res1 rfl (RV.tmp (v := (.bool false)) rfl) (fun w hs => ⟨rfl, (hs.dropN 2).weaken (Hp.le.refl _)⟩)
 replace hd := brF hb3 hd
 replace hb3 := of_decide_eq_false hb3
 refine Wp.skip <| At.then_n <| Wp.seq <| Wp.sr <| Seg.op (OpT.fld (o' := 0) fl32_0 rfl rfl) rfl <| Seg.op (OpT.ldBlk (i := 1) (v := v1) u22 rfl rfl rfl rfl) rfl ?_
 have hb4 := hv1.le
 refine Seg.op (OpT.len u22 rfl hv1.sl) rfl <| Seg.op (OpT.move rfl) rfl <| Seg.nilT <| Wp.block <| Wp.loopF (fun m LL HH OO => ∃ (k1 : Nat), [(2, (ptr B2 0)), (3, (ptr B3 0)), (18, (.int .i64 (a0.length:Int))), (19, (.int .i64 (k1:Int)))] = LL ∧ .blk B3 (.cells #[v2] 32 (0, 0)) :: .blk B2 (.cells #[v1] 32 (0, 0)) :: O = OO ∧ loopK m (r05_Same_b1 fu a0 a1) k1 = some r) fu ⟨0, rfl, rfl, hd⟩ (Sub.of rfl) ?_
 intro m1 L1 H1 O1 hl1 hI1
 obtain ⟨k1, rfl, rfl, hd⟩ := hI1
 replace hd := loopK_some hd; obtain ⟨m2, rfl, hd⟩ := hd
 obtain ⟨nx1, hn1⟩ : ∃ f, f = loopK m2 (r05_Same_b1 fu a0 a1) := ⟨_, rfl⟩
 rw [← hn1] at hd
 replace hd : r05_Same_b1 fu a0 a1 k1 nx1 = some r := hd
 unfold r05_Same_b1 at hd
 refine Wp.sr <| Seg.op (OpT.lss rfl rfl) rfl <| Seg.nilT <| Wp.seq ?_
 refine Wp.cond (b := decide ((k1:Int) < (a0.length:Int))) rfl (fun hb5 => ?_) (fun hb5 => ?_)
 ·
  replace hd := brT hb5 hd
  replace hb5 := of_decide_eq_true hb5
  refine Wp.skip <| At.then_n <| Wp.seq <| Wp.block <| Wp.sr <| Seg.op (OpT.move rfl) rfl <| Seg.op (OpT.assign rfl) rfl <| Seg.nilT ?_
  refine Wp.seq ?_
  obtain ⟨x1, hx1, hd⟩ := bnd_some hd
  have hx1_ := idx_bd hx1
  obtain ⟨x2, hx2, hd⟩ := bnd_some hd
  have hx2_ := idx_bd hx2
  obtain ⟨_, ⟨_, _, rfl, rfl, ⟨v3, rfl, hv3⟩⟩, hc1⟩ := SlD.get (hv1.mono hl1) hx1
  obtain ⟨_, ⟨_, _, rfl, rfl, ⟨v4, rfl, hv4⟩⟩, hc2⟩ := SlD.get (hv2.mono hl1) hx2
  refine Wp.emp <| Wp.emp <| SegO.runK 4 [an0, ⟨[3], [], []⟩, an0, an0, an0, an0, ⟨[2], [], []⟩, an0, an0, an0, ⟨[0], [0], [10]⟩, ⟨[1], [1], [11]⟩, ⟨[0], [0], [10]⟩, ⟨[1], [1], [11]⟩] follows rfl (by kernel_rfl) <| SegO.op (val := fun p1 => (ptr B2 0)) rfl rfl (fun _ => rfl) (fun _ p1 _ hx hf hy => OpT.fld (o' := 0) fl32_0 rfl rfl) rfl <| SegO.op (val := fun p1 => v1) rfl rfl (fun _ => rfl) (fun _ p1 _ hx hf hy => OpT.ldBlk (i := 3) (v := v1) u22 rfl rfl (hy 3 _ rfl rfl) rfl) rfl <| SegO.op (val := fun p1 => (.int .i64 (k1:Int))) rfl rfl (fun _ => rfl) (fun _ p1 _ hx hf hy => OpT.move rfl) rfl <| SegO.op (val := fun p1 => (elemPtr v1 (k1 * 2))) rfl rfl (fun _ => rfl) (fun _ p1 _ hx hf hy => OpT.ixSl u22 ti30 rfl (hv1.mono (hl1.trans hx)).sl rfl (idx_bd hx1)) rfl <| SegO.op (val := fun p1 => (.agg #[(.bool x1.1), v3])) rfl rfl (fun _ => rfl) (fun _ p1 _ hx hf hy => OpT.ldHA (vs := [(.bool x1.1), v3]) u30 rfl ti30 rfl rfl (fun j u hj => ((hc1 j u hj).mono hx))) rfl ?_
  refine SegO.op (val := fun p1 => (ptr B3 0)) rfl rfl (fun _ => rfl) (fun _ p1 _ hx hf hy => OpT.fld (o' := 0) fl32_0 rfl rfl) rfl <| SegO.op (val := fun p1 => v2) rfl rfl (fun _ => rfl) (fun _ p1 _ hx hf hy => OpT.ldBlk (i := 2) (v := v2) u22 rfl rfl (hy 2 _ rfl rfl) rfl) rfl <| SegO.op (val := fun p1 => (.int .i64 (k1:Int))) rfl rfl (fun _ => rfl) (fun _ p1 _ hx hf hy => OpT.move rfl) rfl <| SegO.op (val := fun p1 => (elemPtr v2 (k1 * 2))) rfl rfl (fun _ => rfl) (fun _ p1 _ hx hf hy => OpT.ixSl u22 ti30 rfl (hv2.mono (hl1.trans hx)).sl rfl (idx_bd hx2)) rfl <| SegO.op (val := fun p1 => (.agg #[(.bool x2.1), v4])) rfl rfl (fun _ => rfl) (fun _ p1 _ hx hf hy => OpT.ldHA (vs := [(.bool x2.1), v4]) u30 rfl ti30 rfl rfl (fun j u hj => ((hc2 j u hj).mono hx))) rfl <| SegO.op1 (val := fun p1 => ptr (blkOf (p1 10)) 0) (res := fun p1 => .blk (blkOf (p1 10)) (.cells #[(.bool false), (.slice none 0 0)] 30 (0, 0))) 0 rfl rfl (fun _ => rfl) (fun _ => rfl) (fun _ p1 _ hx hf hy => OpS.allocR 0 ti30 rfl (hy 0 _ rfl rfl)) rfl <| SegO.op1 (val := fun p1 => ptr (blkOf (p1 11)) 0) (res := fun p1 => .blk (blkOf (p1 11)) (.cells #[(.bool false), (.slice none 0 0)] 30 (0, 0))) 1 rfl rfl (fun _ => rfl) (fun _ => rfl) (fun _ p1 _ hx hf hy => OpS.allocR 1 ti30 rfl (hy 1 _ rfl rfl)) rfl <| SegO.op1n (res := fun p1 => .blk (blkOf (p1 10)) (.cells #[(.bool x1.1), v3] 30 (0, 0))) 0 rfl rfl rfl (fun _ => rfl) (fun _ p1 _ hx hf hy => OpS.stR (vs := [(.bool x1.1), v3]) rfl rfl rfl ti30 rfl (ones_cons rfl (ones_cons hv3.one (ones_nil))) (hy 0 _ rfl rfl) rfl rfl) ?_
  refine SegO.op1n (res := fun p1 => .blk (blkOf (p1 11)) (.cells #[(.bool x2.1), v4] 30 (0, 0))) 1 rfl rfl rfl (fun _ => rfl) (fun _ p1 _ hx hf hy => OpS.stR (vs := [(.bool x2.1), v4]) rfl rfl rfl ti30 rfl (ones_cons rfl (ones_cons hv4.one (ones_nil))) (hy 1 _ rfl rfl) rfl rfl) <| SegO.done fun H2 p1 hl2 hF1 => At.sub (L' := [(2, (ptr B2 0)), (3, (ptr B3 0)), (6, (ptr (blkOf (p1 10)) 0)), (7, (ptr (blkOf (p1 11)) 0)), (18, (.int .i64 (a0.length:Int))), (19, (.int .i64 (k1:Int)))]) (Sub.of rfl) ?_
  refine At.own (O := .blk (blkOf (p1 10)) (.cells #[(.bool x1.1), v3] 30 (0, 0)) :: .blk (blkOf (p1 11)) (.cells #[(.bool x2.1), v4] 30 (0, 0)) :: .blk B3 (.cells #[v2] 32 (0, 0)) :: .blk B2 (.cells #[v1] 32 (0, 0)) :: O) ?_ (by first | rfl | (simp only [List.length_append, List.length_set]; rfl) | simp)
  refine At.then_n <| Wp.seq <| Wp.seq ?_
  rcases Bool.eq_false_or_eq_true (!(x1.1 == x2.1)) with hg1 | hg1
  ·
   replace hd := brT hg1 hd
   refine Wp.region <| Seg.op (OpT.fld (o' := 0) fl30_0 rfl rfl) rfl <| Seg.op (OpT.ldBlk (i := 0) (v := (.bool x1.1)) u4 rfl rfl rfl rfl) rfl <| Seg.op (OpT.fld (o' := 0) fl30_0 rfl rfl) rfl <| Seg.op (OpT.ldBlk (i := 1) (v := (.bool x2.1)) u4 rfl rfl rfl rfl) rfl <| Seg.op (OpT.asB (b := !(x1.1 == x2.1)) (c := true) (OpT.neB u4 rfl rfl) hg1) rfl <| Seg.op (OpT.move rfl) rfl <| Seg.skipG rfl rfl rfl rfl ?_
   refine Seg.skipG rfl rfl rfl rfl <| Seg.skipG rfl rfl rfl rfl <| Seg.skipG rfl rfl rfl rfl <| Seg.skipG rfl rfl rfl rfl <| Seg.skipG rfl rfl rfl rfl <| Seg.skipG rfl rfl rfl rfl <| Seg.op (OpT.pickT rfl rfl) rfl <| Seg.nilT ?_
   refine Wp.condT rfl <| Wp.sr <| Seg.op (OpT.assign rfl) rfl <| Seg.nilT <| Wp.ret <| At.then_r <| At.blk_r <| At.then_r ?_
   refine At.then_r <| At.blk_r <| At.then_r ?_
   obtain rfl := Option.some.inj hd
   exact At.res1 rfl (RV.tmp (v := (.bool false)) rfl) (fun w hs => ⟨rfl, (hs.dropN 4).weaken (hl1.trans hl2)⟩)
  replace hd := brF hg1 hd
  refine Wp.region <| Seg.op (OpT.fld (o' := 0) fl30_0 rfl rfl) rfl <| Seg.op (OpT.ldBlk (i := 0) (v := (.bool x1.1)) u4 rfl rfl rfl rfl) rfl <| Seg.op (OpT.fld (o' := 0) fl30_0 rfl rfl) rfl <| Seg.op (OpT.ldBlk (i := 1) (v := (.bool x2.1)) u4 rfl rfl rfl rfl) rfl <| Seg.op (OpT.asB (b := !(x1.1 == x2.1)) (c := false) (OpT.neB u4 rfl rfl) hg1) rfl <| Seg.op (OpT.move rfl) rfl <| Seg.opG rfl rfl (OpT.fld (o' := 1) fl30_1 rfl rfl) rfl ?_
  refine Seg.opG rfl rfl (OpT.ldBlk (i := 0) (v := v3) u28 rfl rfl rfl rfl) rfl ?_
  have hb6 := hv3.le
  refine Seg.opG rfl rfl (OpT.len u28 rfl (hv3.mono hl2).sl) rfl <| Seg.opG rfl rfl (OpT.fld (o' := 1) fl30_1 rfl rfl) rfl <| Seg.opG rfl rfl (OpT.ldBlk (i := 1) (v := v4) u28 rfl rfl rfl rfl) rfl ?_
  have hb7 := hv4.le
  refine Seg.opG rfl rfl (OpT.len u28 rfl (hv4.mono hl2).sl) rfl <| Seg.opG rfl rfl (OpT.neq rfl rfl) rfl <| Seg.op (OpT.pickF rfl rfl) rfl <| Seg.nilT ?_
  refine Wp.cond (b := decide ((x1.2.length:Int) ≠ (x2.2.length:Int))) rfl (fun hb8 => ?_) (fun hb8 => ?_)
  ·
   replace hd := brT hb8 hd
   replace hb8 := of_decide_eq_true hb8
   refine Wp.sr <| Seg.op (OpT.assign rfl) rfl <| Seg.nilT <| Wp.ret <| At.then_r <| At.blk_r <| At.then_r <| At.then_r ?_
   refine At.blk_r <| At.then_r ?_
   obtain rfl := Option.some.inj hd
   exact At.res1 rfl (RV.tmp (v := (.bool false)) rfl) (fun w hs => ⟨rfl, (hs.dropN 4).weaken (hl1.trans hl2)⟩)
  replace hd := brF hb8 hd
  replace hb8 := of_decide_eq_false hb8
  refine Wp.skip <| At.then_n <| Wp.sr <| Seg.op (OpT.fld (o' := 1) fl30_1 rfl rfl) rfl <| Seg.op (OpT.ldBlk (i := 0) (v := v3) u28 rfl rfl rfl rfl) rfl ?_
  have hb9 := hv3.le
  refine Seg.op (OpT.len u28 rfl (hv3.mono hl2).sl) rfl <| Seg.op (OpT.move rfl) rfl <| Seg.nilT <| Wp.block <| Wp.loopF (fun m LL HH OO => ∃ (k2 : Nat), [(2, (ptr B2 0)), (3, (ptr B3 0)), (6, (ptr (blkOf (p1 10)) 0)), (7, (ptr (blkOf (p1 11)) 0)), (18, (.int .i64 (a0.length:Int))), (19, (.int .i64 (k1:Int))), (48, (.int .i64 (x1.2.length:Int))), (49, (.int .i64 (k2:Int)))] = LL ∧ .blk (blkOf (p1 10)) (.cells #[(.bool x1.1), v3] 30 (0, 0)) :: .blk (blkOf (p1 11)) (.cells #[(.bool x2.1), v4] 30 (0, 0)) :: .blk B3 (.cells #[v2] 32 (0, 0)) :: .blk B2 (.cells #[v1] 32 (0, 0)) :: O = OO ∧ loopK m (r05_Same_b2 fu k1 nx1 x1 x2) k2 = some r) fu ⟨0, rfl, rfl, hd⟩ (Sub.of rfl) ?_
  intro m3 L2 H3 O2 hl3 hI2
  obtain ⟨k2, rfl, rfl, hd⟩ := hI2
  replace hd := loopK_some hd; obtain ⟨m4, rfl, hd⟩ := hd
  obtain ⟨nx2, hn2⟩ : ∃ f, f = loopK m4 (r05_Same_b2 fu k1 nx1 x1 x2) := ⟨_, rfl⟩
  rw [← hn2] at hd
  replace hd : r05_Same_b2 fu k1 nx1 x1 x2 k2 nx2 = some r := hd
  unfold r05_Same_b2 at hd
  refine Wp.sr <| Seg.op (OpT.lss rfl rfl) rfl <| Seg.nilT <| Wp.seq ?_
  refine Wp.cond (b := decide ((k2:Int) < (x1.2.length:Int))) rfl (fun hb10 => ?_) (fun hb10 => ?_)
  ·
   replace hd := brT hb10 hd
   replace hb10 := of_decide_eq_true hb10
   refine Wp.skip <| At.then_n <| Wp.seq <| Wp.block <| Wp.sr <| Seg.op (OpT.move rfl) rfl <| Seg.op (OpT.assign rfl) rfl <| Seg.nilT ?_
   refine Wp.seq ?_
   obtain ⟨x3, hx3, hd⟩ := bnd_some hd
   have hx3_ := idx_bd hx3
   obtain ⟨x4, hx4, hd⟩ := bnd_some hd
   have hx4_ := idx_bd hx4
   obtain ⟨_, ⟨_, _, rfl, ⟨rfl, hr1, hr2⟩, ⟨_, _, rfl, ⟨rfl, hr3, hr4⟩, rfl⟩⟩, hc3⟩ := SlD.get (hv3.mono (hl2.trans hl3)) hx3
   obtain ⟨_, ⟨_, _, rfl, ⟨rfl, hr5, hr6⟩, ⟨_, _, rfl, ⟨rfl, hr7, hr8⟩, rfl⟩⟩, hc4⟩ := SlD.get (hv4.mono (hl2.trans hl3)) hx4
   refine Wp.drawE 11 follows rfl (by kernel_rfl) <| SegL.opE (OpT.fld (o' := 1) fl30_1 rfl rfl) rfl <| SegL.opE (OpT.ldBlk (i := 0) (v := v3) u28 rfl rfl rfl rfl) rfl <| SegL.opE (OpT.move rfl) rfl <| SegL.opE (OpT.ixSl u28 ti27 rfl (hv3.mono (hl2.trans hl3)).sl rfl (idx_bd hx3)) rfl <| SegL.opE (OpT.ldHA (vs := [(.int .u8 x3.1), (.int .u8 x3.2.1), (.int .i64 x3.2.2)]) u27 rfl ti27 rfl rfl (fun j u hj => (hc3 j u hj))) rfl <| SegL.opE (OpT.fld (o' := 1) fl30_1 rfl rfl) rfl <| SegL.opE (OpT.ldBlk (i := 1) (v := v4) u28 rfl rfl rfl rfl) rfl ?_
   refine SegL.opE (OpT.move rfl) rfl <| SegL.opE (OpT.ixSl u28 ti27 rfl (hv4.mono (hl2.trans hl3)).sl rfl (idx_bd hx4)) rfl <| SegL.opE (OpT.ldHA (vs := [(.int .u8 x4.1), (.int .u8 x4.2.1), (.int .i64 x4.2.2)]) u27 rfl ti27 rfl rfl (fun j u hj => (hc4 j u hj))) rfl <| SegL.opE (OpT.neInts (xs := [x3.1, x3.2.1, x3.2.2]) (ys := [x4.1, x4.2.1, x4.2.2]) ints27 rfl rfl rfl rfl) rfl <| SegL.doneE <| EndL.is (t := 2) rfl <| EndL.is (t := 3) rfl <| EndL.is (t := 6) rfl ?_
   refine EndL.is (t := 7) rfl <| EndL.is (t := 18) rfl <| EndL.is (t := 19) rfl <| EndL.is (t := 48) rfl <| EndL.is (t := 49) rfl <| EndL.is (t := 62) rfl <| EndL.seg <| Seg.nilT ?_
   refine Wp.cond (b := !(decide (([x3.1, x3.2.1, x3.2.2] : List Int) = [x4.1, x4.2.1, x4.2.2]))) rfl (fun hb11 => ?_) (fun hb11 => ?_)
   ·
    replace hd := brT hb11 hd
    refine Wp.sr <| Seg.op (OpT.assign rfl) rfl <| Seg.nilT <| Wp.ret <| At.blk_r <| At.then_r <| At.then_r <| At.blk_r ?_
    refine At.blk_r <| At.then_r <| At.then_r <| At.blk_r <| At.then_r ?_
    obtain rfl := Option.some.inj hd
    exact At.res1 rfl (RV.tmp (v := (.bool false)) rfl) (fun w hs => ⟨rfl, (hs.dropN 4).weaken ((hl1.trans hl2).trans hl3)⟩)
   replace hd := brF hb11 hd
   refine Wp.skip <| At.blk_n <| At.then_n <| Wp.region <| Seg.op (OpT.add rfl rfl (fits64 (by omega))) rfl <| Seg.op (OpT.move rfl) rfl <| Seg.nil ?_
   refine At.nextF (Hp.le.refl _) ⟨(k2 + 1), rfl, rfl, (by rw [← hn2]; exact hd)⟩ (Sub.of rfl)
  replace hd := brF hb10 hd
  replace hb10 := of_decide_eq_false hb10
  refine Wp.exit <| At.then_x <| At.then_x <| At.blk_hit <| At.blk_n <| At.then_n <| Wp.region <| Seg.op (OpT.add rfl rfl (fits64 (by omega))) rfl ?_
  refine Seg.op (OpT.move rfl) rfl <| Seg.nil <| At.permK [2, 3] 4 rfl rfl rfl ?_
  refine At.nextF (hl2.trans hl3) ⟨(k1 + 1), rfl, rfl, (by rw [← hn1]; exact hd)⟩ (Sub.of rfl)
 replace hd := brF hb5 hd
 replace hb5 := of_decide_eq_false hb5
 refine Wp.exit <| At.then_x <| At.then_x <| At.blk_hit <| At.then_n <| Wp.sr <| Seg.op (OpT.assign rfl) rfl <| Seg.nilT ?_
 refine Wp.ret ?_
 obtain rfl := Option.some.inj hd
 exact At.res1 rfl (RV.tmp (v := (.bool true)) rfl) (fun w hs => ⟨rfl, (hs.dropN 2).weaken hl1⟩)

set_option maxRecDepth 100000 in
set_option maxHeartbeats 4000000 in
theorem au_Same_1_w {fu : Nat} {a0 : Bool × (List (Int × Int × Int))} {a1 : Bool × (List (Int × Int × Int))} {v1 v2 : Value} {r : Bool} (hv1 : SlD (cP cU8 (cP cU8 cI64)) H a0.2 v1) (hv2 : SlD (cP cU8 (cP cU8 cI64)) H a1.2 v2) (hd : au_Same_1 fu a0 a1 = some r) :
    TriV Tryd.prog 23 [(.agg #[(.bool a0.1), v1]), (.agg #[(.bool a1.1), v2])] H O (.bool r) := by
 intro w hs
 refine wp_of Tryd.func23 rfl rfl rfl ?_ hs
 clear hs w
 unfold au_Same_1 at hd
 refine Wp.sr <| Seg.box (cs := #[(.bool a0.1), v1]) rfl rfl rfl fun B2 => Seg.box (cs := #[(.bool a1.1), v2]) rfl rfl rfl fun B3 => Seg.op (OpT.assign rfl) rfl <| Seg.nilT <| Wp.seq ?_
 rcases Bool.eq_false_or_eq_true (a0.1 == a1.1) with hg1 | hg1
 ·
  replace hd := brT hg1 hd
  obtain ⟨x1, hx1, hd⟩ := bnd_some hd
  refine Wp.region <| Seg.op (OpT.fld (o' := 0) fl30_0 rfl rfl) rfl <| Seg.op (OpT.ldBlk (i := 1) (v := (.bool a0.1)) u4 rfl rfl rfl rfl) rfl <| Seg.op (OpT.fld (o' := 0) fl30_0 rfl rfl) rfl <| Seg.op (OpT.ldBlk (i := 0) (v := (.bool a1.1)) u4 rfl rfl rfl rfl) rfl <| Seg.op (OpT.asB (b := a0.1 == a1.1) (c := true) (OpT.eqB u4 rfl rfl) hg1) rfl <| Seg.op (OpT.move rfl) rfl <| Seg.opG rfl rfl (OpT.fld (o' := 1) fl30_1 rfl rfl) rfl ?_
  refine Seg.opG rfl rfl (OpT.ldBlk (i := 1) (v := v1) u28 rfl rfl rfl rfl) rfl <| Seg.opG rfl rfl (OpT.fld (o' := 1) fl30_1 rfl rfl) rfl <| Seg.opG rfl rfl (OpT.ldBlk (i := 0) (v := v2) u28 rfl rfl rfl rfl) rfl <| Seg.opG rfl rfl (OpT.call ent24 rfl (slices_Equal_w hv1 hv2 hx1)) rfl <| Seg.op (OpT.pickT rfl rfl) rfl <| Seg.op (OpT.assign rfl) rfl <| Seg.nilT <| Wp.ret ?_
  obtain rfl := Option.some.inj hd
  exact At.res1 rfl (RV.tmp (v := (.bool x1)) rfl) (fun w hs => ⟨rfl, (hs.dropN 2).weaken (Hp.le.refl _)⟩)
 replace hd := brF hg1 hd
 refine Wp.region <| Seg.op (OpT.fld (o' := 0) fl30_0 rfl rfl) rfl <| Seg.op (OpT.ldBlk (i := 1) (v := (.bool a0.1)) u4 rfl rfl rfl rfl) rfl <| Seg.op (OpT.fld (o' := 0) fl30_0 rfl rfl) rfl <| Seg.op (OpT.ldBlk (i := 0) (v := (.bool a1.1)) u4 rfl rfl rfl rfl) rfl <| Seg.op (OpT.asB (b := a0.1 == a1.1) (c := false) (OpT.eqB u4 rfl rfl) hg1) rfl <| Seg.op (OpT.move rfl) rfl <| Seg.skipG rfl rfl rfl rfl ?_
 refine Seg.skipG rfl rfl rfl rfl <| Seg.skipG rfl rfl rfl rfl <| Seg.skipG rfl rfl rfl rfl <| Seg.skipG rfl rfl rfl rfl <| Seg.op (OpT.pickF rfl rfl) rfl <| Seg.op (OpT.assign rfl) rfl <| Seg.nilT <| Wp.ret ?_
 obtain rfl := Option.some.inj hd
 exact At.res1 rfl (RV.tmp (v := (.bool false)) rfl) (fun w hs => ⟨rfl, (hs.dropN 2).weaken (Hp.le.refl _)⟩)

set_option maxRecDepth 100000 in
set_option maxHeartbeats 4000000 in
theorem slices_EqualFunc_au_Same_1_w {fu : Nat} {a0 : List (Bool × (List (Int × Int × Int)))} {a1 : List (Bool × (List (Int × Int × Int)))} {v1 v2 : Value} {r : Bool} (hv1 : SlD (cP cB (cL (cP cU8 (cP cU8 cI64)))) H a0 v1) (hv2 : SlD (cP cB (cL (cP cU8 (cP cU8 cI64)))) H a1 v2) (hd : slices_EqualFunc_au_Same_1 fu a0 a1 = some r) :
    TriV Tryd.prog 22 [v1, v2, (.func (.func 23) #[] #[])] H O (.bool r) := by
 intro w hs
 refine wp_of Tryd.func22 rfl rfl rfl ?_ hs
 clear hs w
 unfold slices_EqualFunc_au_Same_1 at hd
 refine Wp.sr <| Seg.op (OpT.assign rfl) rfl <| Seg.nilT <| Wp.seq <| Wp.sr <| Seg.op (OpT.move rfl) rfl ?_
 have hb1 := hv1.le
 refine Seg.op (OpT.len u22 rfl hv1.sl) rfl <| Seg.op (OpT.move rfl) rfl ?_
 have hb2 := hv2.le
 refine Seg.op (OpT.len u22 rfl hv2.sl) rfl <| Seg.op (OpT.neq rfl rfl) rfl <| Seg.nilT ?_
 refine Wp.cond (b := decide ((a0.length:Int) ≠ (a1.length:Int))) rfl (fun hb3 => ?_) (fun hb3 => ?_)
 ·
  replace hd := brT hb3 hd
  replace hb3 := of_decide_eq_true hb3
  refine Wp.sr <| Seg.op (OpT.assign rfl) rfl <| Seg.nilT <| Wp.ret <| At.then_r ?_
  obtain rfl := Option.some.inj hd
  exact At.res1 rfl (RV.tmp (v := (.bool false)) rfl) (fun w hs => ⟨rfl, (hs.dropN 0).weaken (Hp.le.refl _)⟩)
 replace hd := brF hb3 hd
 replace hb3 := of_decide_eq_false hb3
 refine Wp.skip <| At.then_n <| Wp.seq <| Wp.sr <| Seg.op (OpT.move rfl) rfl ?_
 have hb4 := hv1.le
 refine Seg.op (OpT.len u22 rfl hv1.sl) rfl <| Seg.op (OpT.move rfl) rfl <| Seg.nilT <| Wp.block <| Wp.loopF (fun m LL HH OO => ∃ (k1 : Nat), [(1, v2), (2, (.func (.func 23) #[] #[])), (15, v1), (16, (.int .i64 (a0.length:Int))), (17, (.int .i64 (k1:Int)))] = LL ∧ O = OO ∧ loopK m (slices_EqualFunc_au_Same_1_b1 fu a0 a1) k1 = some r) fu ⟨0, rfl, rfl, hd⟩ (Sub.of rfl) ?_
 intro m1 L1 H1 O1 hl1 hI1
 obtain ⟨k1, rfl, rfl, hd⟩ := hI1
 replace hd := loopK_some hd; obtain ⟨m2, rfl, hd⟩ := hd
 obtain ⟨nx1, hn1⟩ : ∃ f, f = loopK m2 (slices_EqualFunc_au_Same_1_b1 fu a0 a1) := ⟨_, rfl⟩
 rw [← hn1] at hd
 replace hd : slices_EqualFunc_au_Same_1_b1 fu a0 a1 k1 nx1 = some r := hd
 unfold slices_EqualFunc_au_Same_1_b1 at hd
 refine Wp.sr <| Seg.op (OpT.lss rfl rfl) rfl <| Seg.nilT <| Wp.seq ?_
 refine Wp.cond (b := decide ((k1:Int) < (a0.length:Int))) rfl (fun hb5 => ?_) (fun hb5 => ?_)
 ·
  replace hd := brT hb5 hd
  replace hb5 := of_decide_eq_true hb5
  refine Wp.skip <| At.then_n <| Wp.seq <| Wp.block <| Wp.seq ?_
  obtain ⟨x1, hx1, hd⟩ := bnd_some hd
  have hx1_ := idx_bd hx1
  refine Wp.region <| Seg.op (OpT.move rfl) rfl ?_
  obtain ⟨_, ⟨_, _, rfl, rfl, ⟨v3, rfl, hv3⟩⟩, hc1⟩ := SlD.get (hv1.mono hl1) hx1
  refine Seg.op (OpT.ixSl u22 ti30 rfl (hv1.mono hl1).sl rfl (idx_bd hx1)) rfl <| Seg.op (OpT.ldHA (vs := [(.bool x1.1), v3]) u30 rfl ti30 rfl rfl (fun j u hj => (hc1 j u hj))) rfl <| Seg.alloc (cs := #[(.bool false), (.slice none 0 0)]) ti30 rfl rfl fun B2 => Seg.op (OpT.assign rfl) rfl <| Seg.stBlkW (i := 0) (cs' := #[(.bool x1.1), v3]) rfl rfl ti30 rfl rfl (onesA (ones_cons rfl (ones_cons hv3.one (ones_nil)))) rfl ?_
  refine Seg.own (O := .blk B2 (.cells #[(.bool x1.1), v3] 30 (0, 0)) :: O) ?_ rfl
  refine Seg.nilT <| Wp.seq ?_
  obtain ⟨x2, hx2, hd⟩ := bnd_some hd
  have hx2_ := idx_bd hx2
  refine Wp.region <| Seg.op (OpT.move rfl) rfl <| Seg.op (OpT.move rfl) rfl ?_
  obtain ⟨_, ⟨_, _, rfl, rfl, ⟨v4, rfl, hv4⟩⟩, hc2⟩ := SlD.get (hv2.mono hl1) hx2
  refine Seg.op (OpT.ixSl u22 ti30 rfl (hv2.mono hl1).sl rfl (idx_bd hx2)) rfl <| Seg.op (OpT.ldHA (vs := [(.bool x2.1), v4]) u30 rfl ti30 rfl rfl (fun j u hj => (hc2 j u hj))) rfl <| Seg.alloc (cs := #[(.bool false), (.slice none 0 0)]) ti30 rfl rfl fun B3 => Seg.stBlkW (i := 0) (cs' := #[(.bool x2.1), v4]) rfl rfl ti30 rfl rfl (onesA (ones_cons rfl (ones_cons hv4.one (ones_nil)))) rfl ?_
  refine Seg.own (O := .blk B3 (.cells #[(.bool x2.1), v4] 30 (0, 0)) :: .blk B2 (.cells #[(.bool x1.1), v3] 30 (0, 0)) :: O) ?_ rfl
  refine Seg.nilT <| Wp.seq ?_
  obtain ⟨x3, hx3, hd⟩ := bnd_some hd
  refine Wp.region <| Seg.op (OpT.move rfl) rfl <| Seg.op (OpT.ldBlkW (i := 1) u30 rfl ti30 rfl rfl rfl) rfl <| Seg.op (OpT.ldBlkW (i := 0) u30 rfl ti30 rfl rfl rfl) rfl <| Seg.op (OpT.callC (first := []) ent23 rfl rfl (au_Same_1_w hv3 hv4 hx3)) rfl <| Seg.op (OpT.not rfl) rfl <| Seg.nilT ?_
  refine Wp.cond (b := !x3) rfl (fun hb6 => ?_) (fun hb6 => ?_)
  ·
   replace hd := brT hb6 hd
   refine Wp.sr <| Seg.op (OpT.assign rfl) rfl <| Seg.nilT <| Wp.ret <| At.blk_r <| At.then_r <| At.then_r <| At.blk_r ?_
   refine At.then_r ?_
   obtain rfl := Option.some.inj hd
   exact At.res1 rfl (RV.tmp (v := (.bool false)) rfl) (fun w hs => ⟨rfl, (hs.dropN 2).weaken hl1⟩)
  replace hd := brF hb6 hd
  refine Wp.skip <| At.blk_n <| At.then_n <| Wp.region <| Seg.op (OpT.add rfl rfl (fits64 (by omega))) rfl <| Seg.op (OpT.move rfl) rfl <| Seg.nil <| At.permK [] 2 rfl rfl rfl ?_
  refine At.nextF (Hp.le.refl _) ⟨(k1 + 1), rfl, rfl, (by rw [← hn1]; exact hd)⟩ (Sub.of rfl)
 replace hd := brF hb5 hd
 replace hb5 := of_decide_eq_false hb5
 refine Wp.exit <| At.then_x <| At.then_x <| At.blk_hit <| At.then_n <| Wp.sr <| Seg.op (OpT.assign rfl) rfl <| Seg.nilT ?_
 refine Wp.ret ?_
 obtain rfl := Option.some.inj hd
 exact At.res1 rfl (RV.tmp (v := (.bool true)) rfl) (fun w hs => ⟨rfl, (hs.dropN 0).weaken hl1⟩)

set_option maxRecDepth 100000 in
set_option maxHeartbeats 4000000 in
theorem au_Same_w {fu : Nat} {a0 : List (Bool × (List (Int × Int × Int)))} {a1 : List (Bool × (List (Int × Int × Int)))} {v1 v2 : Value} {r : Bool} (hv1 : SlD (cP cB (cL (cP cU8 (cP cU8 cI64)))) H a0 v1) (hv2 : SlD (cP cB (cL (cP cU8 (cP cU8 cI64)))) H a1 v2) (hd : au_Same fu a0 a1 = some r) :
    TriV Tryd.prog 10 [(.agg #[v1]), (.agg #[v2])] H O (.bool r) := by
 intro w hs
 refine wp_of Tryd.func10 rfl rfl rfl ?_ hs
 clear hs w
 unfold au_Same at hd
 refine Wp.sr <| Seg.box (cs := #[v1]) rfl rfl rfl fun B2 => Seg.box (cs := #[v2]) rfl rfl rfl fun B3 => Seg.op (OpT.assign rfl) rfl <| Seg.nilT <| Wp.seq ?_
 obtain ⟨x1, hx1, hd⟩ := bnd_some hd
 refine Wp.region <| Seg.op (OpT.fld (o' := 0) fl32_0 rfl rfl) rfl <| Seg.op (OpT.ldBlk (i := 1) (v := v1) u22 rfl rfl rfl rfl) rfl <| Seg.op (OpT.fld (o' := 0) fl32_0 rfl rfl) rfl <| Seg.op (OpT.ldBlk (i := 0) (v := v2) u22 rfl rfl rfl rfl) rfl <| Seg.op (OpT.call ent22 rfl (slices_EqualFunc_au_Same_1_w hv1 hv2 hx1)) rfl <| Seg.op (OpT.assign rfl) rfl <| Seg.nilT ?_
 refine Wp.ret ?_
 obtain rfl := Option.some.inj hd
 exact At.res1 rfl (RV.tmp (v := (.bool x1)) rfl) (fun w hs => ⟨rfl, (hs.dropN 2).weaken (Hp.le.refl _)⟩)

set_option maxRecDepth 100000 in
set_option maxHeartbeats 4000000 in
theorem au_Word_w {fu : Nat} {a0 : Str} {r : List (Bool × (List (Int × Int × Int)))} (hd : au_Word fu a0 = some r) :
    Tri Tryd.prog 15 [(sv a0)] H O (fun v H' O' => (∃ v1 : Value, (.agg #[v1]) = v ∧ SlD (cP cB (cL (cP cU8 (cP cU8 cI64)))) H' r v1) ∧ O = O') := by
 intro w hs
 refine wp_of Tryd.func15 rfl rfl rfl ?_ hs
 clear hs w
 unfold au_Word at hd
 refine Wp.sr <| Seg.alloc (cs := #[(.slice none 0 0)]) ti32 rfl rfl fun B1 => Seg.nilT <| Wp.sr <| Seg.alloc (cs := #[(.slice none 0 0)]) ti32 rfl rfl fun B2 => Seg.nilT <| Wp.seq <| Wp.sr ?_
 refine Seg.op (OpT.move rfl) rfl <| Seg.op (OpT.lenS u9 rfl) rfl <| Seg.op (OpT.move rfl) rfl <| Seg.nilT <| Wp.block <| Wp.nilRow 30 2 <| Wp.loopF (fun m LL HH OO => ∃ (l1 : List (Bool × (List (Int × Int × Int)))), ∃ (i1 : Int), ∃ (v2 : Value), ∃ (xs1 : List Value), [(0, (sv a0)), (2, (ptr B1 0)), (3, (ptr B2 0)), (6, (.int .i64 (a0.length:Int))), (7, (.int .i64 i1))] = LL ∧ .row v2 30 2 l1.length xs1 :: .blk B2 (.cells #[v2] 32 (0, 0)) :: .blk B1 (.cells #[(.slice none 0 0)] 32 (0, 0)) :: O = OO ∧ loopK m (fun p nx => au_Word_b1 fu a0 p.1 p.2 nx) (l1, i1) = some r ∧ LayL (cP cB (cL (cP cU8 (cP cU8 cI64)))) HH l1 xs1) fu ⟨([] : List (Bool × (List (Int × Int × Int)))), 0, (.slice none 0 0), [], rfl, rfl, hd, (LayL.nil (c := (cP cB (cL (cP cU8 (cP cU8 cI64))))) (H := H))⟩ (Sub.of rfl) ?_
 intro m1 L1 H1 O1 hl1 hI1
 obtain ⟨l1, i1, v2, xs1, rfl, rfl, hd, hq1⟩ := hI1
 replace hd := loopK_some hd; obtain ⟨m2, rfl, hd⟩ := hd
 obtain ⟨nx1, hn1⟩ : ∃ f, f = loopK m2 (fun p nx => au_Word_b1 fu a0 p.1 p.2 nx) := ⟨_, rfl⟩
 rw [← hn1] at hd
 replace hd : au_Word_b1 fu a0 l1 i1 nx1 = some r := hd
 unfold au_Word_b1 at hd
 refine Wp.sr <| Seg.op (OpT.lss rfl rfl) rfl <| Seg.nilT <| Wp.seq ?_
 refine Wp.cond (b := decide (i1 < (a0.length:Int))) rfl (fun hb1 => ?_) (fun hb1 => ?_)
 ·
  replace hd := brT hb1 hd
  replace hb1 := of_decide_eq_true hb1
  refine Wp.skip <| At.then_n <| Wp.seq <| Wp.block <| Wp.sr <| Seg.op (OpT.move rfl) rfl <| Seg.op (OpT.assign rfl) rfl <| Seg.nilT ?_
  obtain ⟨x1, hx1, hd⟩ := bnd_some hd
  have hx1_ := idxS_bd hx1
  obtain ⟨x2, hx2, hd⟩ := bnd_some hd
  have hx2_ := idxS_bd hx2
  obtain ⟨ha1, hd⟩ := chk_some hd
  obtain ⟨ha2, hd⟩ := chk_some hd
  refine Wp.emp <| Wp.emp <| SegO.runK 5 [an0, ⟨[3], [], []⟩, an0, an0, an0, an0, an0, an0, an0, an0, an0, ⟨[0], [0], [11]⟩, ⟨[], [], [11]⟩, ⟨[1], [1], [11, 13]⟩, ⟨[1, 2], [2], [11, 14]⟩, an0, ⟨[3], [3], [14]⟩] follows rfl (by kernel_rfl) <| SegO.op (val := fun p1 => (ptr B2 0)) rfl rfl (fun _ => rfl) (fun _ p1 _ hx hf hy => OpT.fld (o' := 0) fl32_0 rfl rfl) rfl <| SegO.op (val := fun p1 => v2) rfl rfl (fun _ => rfl) (fun _ p1 _ hx hf hy => OpT.ldBlk (i := 3) (v := v2) u22 rfl rfl (hy 3 _ rfl rfl) rfl) rfl <| SegO.op (val := fun p1 => (sv a0)) rfl rfl (fun _ => rfl) (fun _ p1 _ hx hf hy => OpT.move rfl) rfl <| SegO.op (val := fun p1 => (.int .i64 i1)) rfl rfl (fun _ => rfl) (fun _ p1 _ hx hf hy => OpT.move rfl) rfl <| SegO.op (val := fun p1 => (.int .u8 x1)) rfl rfl (fun _ => rfl) (fun _ p1 _ hx hf hy => OpT.byteS u9 rfl rfl hx1) rfl ?_
  refine SegO.op (val := fun p1 => (sv a0)) rfl rfl (fun _ => rfl) (fun _ p1 _ hx hf hy => OpT.move rfl) rfl <| SegO.op (val := fun p1 => (.int .i64 i1)) rfl rfl (fun _ => rfl) (fun _ p1 _ hx hf hy => OpT.move rfl) rfl <| SegO.op (val := fun p1 => (.int .u8 x2)) rfl rfl (fun _ => rfl) (fun _ p1 _ hx hf hy => OpT.byteS u9 rfl rfl hx2) rfl <| SegO.op (val := fun p1 => (.int .i64 i1)) rfl rfl (fun _ => rfl) (fun _ p1 _ hx hf hy => OpT.move rfl) rfl <| SegO.op (val := fun p1 => (.int .i64 (i1 + 1))) rfl rfl (fun _ => rfl) (fun _ p1 _ hx hf hy => OpT.add rfl rfl (fits64 ha1)) rfl <| SegO.op (val := fun p1 => (.agg #[(.int .u8 x1), (.int .u8 x2), (.int .i64 (i1 + 1))])) rfl rfl (fun _ => rfl) (fun _ p1 _ hx hf hy => OpT.buildS (vs := [(0, (.int .u8 x1)), (1, (.int .u8 x2)), (2, (.int .i64 (i1 + 1)))]) (cs := #[(.int .u8 x1), (.int .u8 x2), (.int .i64 (i1 + 1))]) plf27 ti27 rfl rfl (vc_cons rfl (vc_cons rfl (vc_cons rfl (vc_nil)))) rfl) rfl <| SegO.op1s (res := fun p1 => .row (p1 11) 27 3 1 [(.int .u8 x1), (.int .u8 x2), (.int .i64 (i1 + 1))]) 0 rfl rfl rfl (fun _ => rfl) (fun _ p1 _ hx hf hy => OpS.buildR1 (v := (.agg #[(.int .u8 x1), (.int .u8 x2), (.int .i64 (i1 + 1))])) (cs := [(.int .u8 x1), (.int .u8 x2), (.int .i64 (i1 + 1))]) 0 u28 ti27 rfl rfl rfl rfl rfl (hy 0 _ rfl rfl)) rfl (fun _ => ⟨_, _, _, _, rfl⟩) <| SegO.op (val := fun p1 => (.agg #[(.bool false), (p1 11)])) rfl rfl (fun _ => rfl) (fun _ p1 _ hx hf hy => OpT.buildS (vs := [(1, (p1 11))]) (cs := #[(.bool false), (p1 11)]) plf30 ti30 rfl rfl (vc_cons (cells1 (hf 11 rfl rfl)) (vc_nil)) rfl) rfl ?_
  refine SegO.op1s (res := fun p1 => .row (p1 13) 30 2 1 [(.bool false), (p1 11)]) 1 rfl rfl rfl (fun _ => rfl) (fun _ p1 _ hx hf hy => OpS.buildR1 (v := (.agg #[(.bool false), (p1 11)])) (cs := [(.bool false), (p1 11)]) 1 u22 ti30 rfl rfl rfl rfl rfl (hy 1 _ rfl rfl)) rfl (fun _ => ⟨_, _, _, _, rfl⟩) <| SegO.op1s (res := fun p1 => .row (p1 14) 30 2 (l1.length + 1) (xs1 ++ [(.bool false), (p1 11)])) 2 rfl rfl rfl (fun _ => rfl) (fun _ p1 _ hx hf hy => OpS.appR 2 1 u22 ti30 rfl rfl rfl rfl (hy 2 _ rfl rfl) (hy 1 _ rfl rfl) (ones_cons rfl (ones_cons (hf 11 rfl rfl) (ones_nil))) rfl ha2) rfl (fun _ => ⟨_, _, _, _, rfl⟩) <| SegO.op (val := fun p1 => (ptr B2 0)) rfl rfl (fun _ => rfl) (fun _ p1 _ hx hf hy => OpT.fld (o' := 0) fl32_0 rfl rfl) rfl <| SegO.op1n (res := fun p1 => .blk B2 (.cells #[(p1 14)] 32 (0, 0))) 3 rfl rfl rfl (fun _ => rfl) (fun _ p1 _ hx hf hy => OpS.stR (vs := [(p1 14)]) rfl rfl (cellsL (hf 14 rfl rfl)) ti22 rfl (ones_cons (hf 14 rfl rfl) (ones_nil)) (hy 3 _ rfl rfl) rfl rfl) <| SegO.done fun H2 p1 hl2 hF1 => At.sub (L' := [(0, (sv a0)), (2, (ptr B1 0)), (3, (ptr B2 0)), (6, (.int .i64 (a0.length:Int))), (7, (.int .i64 i1))]) (Sub.of rfl) ?_
  refine At.own (O := .row (p1 11) 27 3 ([(x1, x2, i1 + 1)] : List (Int × Int × Int)).length [(.int .u8 x1), (.int .u8 x2), (.int .i64 (i1 + 1))] :: .row (p1 13) 30 2 ([(false, ([(x1, x2, i1 + 1)] : List (Int × Int × Int)))] : List (Bool × (List (Int × Int × Int)))).length [(.bool false), (p1 11)] :: .row (p1 14) 30 2 (l1 ++ ([(false, ([(x1, x2, i1 + 1)] : List (Int × Int × Int)))] : List (Bool × (List (Int × Int × Int))))).length (xs1 ++ [(.bool false), (p1 11)]) :: .blk B2 (.cells #[(p1 14)] 32 (0, 0)) :: .blk B1 (.cells #[(.slice none 0 0)] 32 (0, 0)) :: O) ?_ (by first | rfl | (simp only [List.length_append, List.length_set]; rfl) | simp)
  have hq2 : LayL (cP cU8 (cP cU8 cI64)) H2 ([(x1, x2, i1 + 1)] : List (Int × Int × Int)) [(.int .u8 x1), (.int .u8 x2), (.int .i64 (i1 + 1))] := (LayL.sing (c := (cP cU8 (cP cU8 cI64))) (a := (x1, x2, i1 + 1)) (cs := [(.int .u8 x1), (.int .u8 x2), (.int .i64 (i1 + 1))]) (⟨[(.int .u8 x1)], [(.int .u8 x2), (.int .i64 (i1 + 1))], rfl, ⟨rfl, (show (0 : Int) ≤ x1 by omega), (show x1 ≤ (255 : Int) by omega)⟩, ⟨[(.int .u8 x2)], [(.int .i64 (i1 + 1))], rfl, ⟨rfl, (show (0 : Int) ≤ x2 by omega), (show x2 ≤ (255 : Int) by omega)⟩, rfl⟩⟩))
  refine At.rowLe (i := 0) rfl fun hb2 => ?_
  refine At.freeze (i := 0) rfl fun H3 hl3 hs1 => ?_
  have hv1 := SlD.of (c := (cP cU8 (cP cU8 cI64))) hs1 rfl (hq2.mono hl3) hb2
  have hq3 : LayL (cP cB (cL (cP cU8 (cP cU8 cI64)))) H3 (l1 ++ ([(false, ([(x1, x2, i1 + 1)] : List (Int × Int × Int)))] : List (Bool × (List (Int × Int × Int))))) (xs1 ++ [(.bool false), (p1 11)]) := (LayL.app (hq1.mono (hl2.trans hl3)) (LayL.sing (c := (cP cB (cL (cP cU8 (cP cU8 cI64))))) (a := (false, ([(x1, x2, i1 + 1)] : List (Int × Int × Int)))) (cs := [(.bool false), (p1 11)]) (⟨[(.bool false)], [(p1 11)], rfl, rfl, ⟨_, rfl, hv1⟩⟩)))
  refine At.permK [1, 2, 3] 4 rfl rfl rfl <| At.blk_n <| At.then_n ?_
  obtain ⟨ha3, hd⟩ := chk_some hd
  refine Wp.region <| Seg.op (OpT.add rfl rfl (fits64 ha3)) rfl <| Seg.op (OpT.move rfl) rfl <| Seg.nil ?_
  refine At.nextF (hl2.trans hl3) ⟨(l1 ++ ([(false, ([(x1, x2, i1 + 1)] : List (Int × Int × Int)))] : List (Bool × (List (Int × Int × Int))))), (i1 + 1), (p1 14), xs1 ++ [(.bool false), (p1 11)], rfl, rfl, (by rw [← hn1]; exact hd), hq3⟩ (Sub.of rfl)
 replace hd := brF hb1 hd
 replace hb1 := of_decide_eq_false hb1
 refine Wp.exit <| At.then_x <| At.then_x <| At.blk_hit <| At.then_n <| Wp.seq ?_
 obtain ⟨ha4, hd⟩ := chk_some hd
 refine Wp.region <| Seg.op (OpT.fld (o' := 0) fl32_0 rfl rfl) rfl <| Seg.op (OpT.ldBlk (i := 1) (v := v2) u22 rfl rfl rfl rfl) rfl <| Seg.op (OpT.buildS (vs := [(0, (.bool true))]) (cs := #[(.bool true), (.slice none 0 0)]) plf30 ti30 rfl rfl (vc_cons rfl (vc_nil)) rfl) rfl <| Seg.buildD1 (c := (cP cB (cL (cP cU8 (cP cU8 cI64))))) (y := (true, ([] : List (Int × Int × Int)))) (cs := [(.bool true), (.slice none 0 0)]) u22 ti30 rfl rfl rfl rfl (⟨[(.bool true)], [(.slice none 0 0)], rfl, rfl, ⟨_, rfl, SlD.nil⟩⟩) rfl fun v3 xs2 hq4 => Seg.appD (i := 1) (j := 0) hq1 hq4 u22 ti30 rfl (by decide) rfl rfl rfl rfl (by decide) ha4 rfl fun v4 xs3 hq5 => Seg.drop (i := 0) <| Seg.op (OpT.fld (o' := 0) fl32_0 rfl rfl) rfl ?_
 refine Seg.rowOne (i := 0) rfl fun ho1 => Seg.stBlk1 (i := 1) rfl rfl ho1 ti22 rfl (Nat.le_of_ble_eq_true rfl) ?_
 refine Seg.own (O := .row v4 30 2 (l1 ++ ([(true, ([] : List (Int × Int × Int)))] : List (Bool × (List (Int × Int × Int))))).length xs3 :: .blk B2 (.cells #[v4] 32 (0, 0)) :: .blk B1 (.cells #[(.slice none 0 0)] 32 (0, 0)) :: O) ?_ rfl
 refine Seg.nilT <| Wp.sr <| Seg.op (OpT.ldBlkW (i := 1) u32 rfl ti32 rfl rfl rfl) rfl <| Seg.rowOne (i := 0) rfl fun ho2 => Seg.stBlkW (i := 2) (cs' := #[v4]) rfl rfl ti32 rfl rfl (onesA (ones_cons ho2 (ones_nil))) rfl ?_
 refine Seg.own (O := .row v4 30 2 (l1 ++ ([(true, ([] : List (Int × Int × Int)))] : List (Bool × (List (Int × Int × Int))))).length xs3 :: .blk B2 (.cells #[v4] 32 (0, 0)) :: .blk B1 (.cells #[v4] 32 (0, 0)) :: O) ?_ rfl
 refine Seg.nilT <| Wp.ret ?_
 refine At.rowLe (i := 0) rfl fun hb3 => ?_
 refine At.freeze (i := 0) rfl fun H4 hl4 hs2 => ?_
 have hv2 := SlD.of (c := (cP cB (cL (cP cU8 (cP cU8 cI64))))) hs2 rfl (hq5.mono hl4) hb3
 obtain rfl := Option.some.inj hd
 exact At.res1 rfl (RV.cellA (i := 1) rfl u32 rfl ti32 rfl rfl) (fun w hs => ⟨_, _, _, rfl, (hl1.trans hl4), (hs.dropN 2), ⟨⟨v4, rfl, hv2⟩, rfl⟩⟩)

set_option maxRecDepth 100000 in
set_option maxHeartbeats 4000000 in
theorem au_All_w {fu : Nat} {r : List (Bool × (List (Int × Int × Int)))} (hd : au_All fu = some r) :
    Tri Tryd.prog 14 [] H O (fun v H' O' => (∃ v1 : Value, (.agg #[v1]) = v ∧ SlD (cP cB (cL (cP cU8 (cP cU8 cI64)))) H' r v1) ∧ O = O') := by
 intro w hs
 refine wp_of Tryd.func14 rfl rfl rfl ?_ hs
 clear hs w
 unfold au_All at hd
 refine Wp.sr <| Seg.alloc (cs := #[(.slice none 0 0)]) ti32 rfl rfl fun B1 => Seg.nilT <| Wp.sr <| Seg.op (OpT.buildS (vs := [(0, (.int .u8 0)), (1, (.int .u8 255)), (2, (.int .i64 0))]) (cs := #[(.int .u8 0), (.int .u8 255), (.int .i64 0)]) plf27 ti27 rfl rfl (vc_cons rfl (vc_cons rfl (vc_cons rfl (vc_nil)))) rfl) rfl <| Seg.buildD1 (c := (cP cU8 (cP cU8 cI64))) (y := (0, 255, 0)) (cs := [(.int .u8 0), (.int .u8 255), (.int .i64 0)]) u28 ti27 rfl rfl rfl rfl (⟨[(.int .u8 0)], [(.int .u8 255), (.int .i64 0)], rfl, ⟨rfl, (show (0 : Int) ≤ 0 by omega), (show 0 ≤ (255 : Int) by omega)⟩, ⟨[(.int .u8 255)], [(.int .i64 0)], rfl, ⟨rfl, (show (0 : Int) ≤ 255 by omega), (show 255 ≤ (255 : Int) by omega)⟩, rfl⟩⟩) rfl fun v2 xs1 hq1 => Seg.rowOne (i := 0) rfl fun ho1 => Seg.op (OpT.buildS (vs := [(0, (.bool true)), (1, v2)]) (cs := #[(.bool true), v2]) plf30 ti30 rfl rfl (vc_cons rfl (vc_cons (cells1 ho1) (vc_nil))) rfl) rfl ?_
 refine Seg.rowLe (i := 0) rfl fun hb1 => ?_
 refine Seg.freeze (i := 0) rfl fun H1 hl1 hs1 => ?_
 have hv1 := SlD.of (c := (cP cU8 (cP cU8 cI64))) hs1 rfl (hq1.mono hl1) hb1
 refine Seg.buildD1 (c := (cP cB (cL (cP cU8 (cP cU8 cI64))))) (y := (true, ([(0, 255, 0)] : List (Int × Int × Int)))) (cs := [(.bool true), v2]) u22 ti30 rfl rfl rfl rfl (⟨[(.bool true)], [v2], rfl, rfl, ⟨_, rfl, hv1⟩⟩) rfl fun v3 xs2 hq2 => Seg.rowOne (i := 0) rfl fun ho2 => Seg.op (OpT.buildS (vs := [(0, v3)]) (cs := #[v3]) plf32 ti32 rfl rfl (vc_cons (cells1 ho2) (vc_nil)) rfl) rfl <| Seg.rowOne (i := 0) rfl fun ho3 => Seg.stBlkW (i := 1) (cs' := #[v3]) rfl rfl ti32 rfl rfl (onesA (ones_cons ho3 (ones_nil))) rfl ?_
 refine Seg.own (O := .row v3 30 2 ([(true, ([(0, 255, 0)] : List (Int × Int × Int)))] : List (Bool × (List (Int × Int × Int)))).length xs2 :: .blk B1 (.cells #[v3] 32 (0, 0)) :: O) ?_ rfl
 refine Seg.nilT <| Wp.ret ?_
 refine At.rowLe (i := 0) rfl fun hb2 => ?_
 refine At.freeze (i := 0) rfl fun H2 hl2 hs2 => ?_
 have hv2 := SlD.of (c := (cP cB (cL (cP cU8 (cP cU8 cI64))))) hs2 rfl (hq2.mono hl2) hb2
 obtain rfl := Option.some.inj hd
 exact At.res1 rfl (RV.cellA (i := 0) rfl u32 rfl ti32 rfl rfl) (fun w hs => ⟨_, _, _, rfl, (hl1.trans hl2), (hs.dropN 1), ⟨⟨v3, rfl, hv2⟩, rfl⟩⟩)

set_option maxRecDepth 100000 in
set_option maxHeartbeats 4000000 in
theorem au_cut_w {fu : Nat} {a0 : List (Bool × (List (Int × Int × Int)))} {v1 : Value} {r : List Int} (hv1 : SlD (cP cB (cL (cP cU8 (cP cU8 cI64)))) H a0 v1) (hd : au_cut fu a0 = some r) :
    Tri Tryd.prog 30 [v1] H O (fun v H' O' => (∃ v2 : Value, v2 = v ∧ SlD cI64 H' r v2) ∧ O = O') := by
 intro w hs
 refine wp_of Tryd.func30 rfl rfl rfl ?_ hs
 clear hs w
 unfold au_cut at hd
 refine Wp.sr <| Seg.op (OpT.assign rfl) rfl <| Seg.nilT <| Wp.sr <| Seg.alloc (cs := (List.replicate 257 (.bool false)).toArray) ti100 rfl rfl fun B2 => ?_
 have hq1 : LayL cB H (List.replicate 257 false : List Bool) ((List.replicate 257 (.bool false)).toArray).toList := LayL.repl rfl 257
 refine Seg.nilT <| Wp.seq ?_
 obtain ⟨x1, hx1, hd⟩ := bnd_some hd
 refine Wp.region ?_
 obtain ⟨_, rfl, hc1, hc1_⟩ := LayL.get hq1 (idx_some hx1).2
 have hn1 := LayL.lenA hq1 (szRep 257 _)
 refine Seg.op (OpT.ixArr (off' := 0 * 1) u100 ti4 rfl rfl (by have := idx_bd hx1; simp only [cB, cI64, cU8] at hn1; omega) (by simp)) rfl ?_
 refine Seg.stA (q := 0) (y := true) (i := 0) hq1 (szRep 257 _) (idx_bd hx1) rfl rfl rfl ti4 rfl (rfl) (fun cs1 hq2 => ?_)
 refine Seg.nilT <| Wp.seq <| Wp.sr <| Seg.op (OpT.move rfl) rfl ?_
 have hb1 := hv1.le
 refine Seg.op (OpT.len u22 rfl hv1.sl) rfl <| Seg.op (OpT.move rfl) rfl <| Seg.nilT <| Wp.block <| Wp.loopF (fun m LL HH OO => ∃ (l1 : List Bool), ∃ (k1 : Nat), ∃ (cs2 : Array Value), [(3, (ptr B2 0)), (11, v1), (12, (.int .i64 (a0.length:Int))), (13, (.int .i64 (k1:Int)))] = LL ∧ .blk B2 (.cells cs2 100 (0, 0)) :: O = OO ∧ loopK m (fun p nx => au_cut_b1 fu a0 p.1 p.2 nx) (l1, k1) = some r ∧ LayL cB HH l1 cs2.toList ∧ cs2.size = 257) fu ⟨((List.replicate 257 false : List Bool).set 0 true), 0, cs1, rfl, rfl, hd, ⟨hq2.1, hq2.2⟩⟩ (Sub.of rfl) ?_
 intro m1 L1 H1 O1 hl1 hI1
 obtain ⟨l1, k1, cs2, rfl, rfl, hd, hq3⟩ := hI1
 replace hd := loopK_some hd; obtain ⟨m2, rfl, hd⟩ := hd
 obtain ⟨nx1, hn2⟩ : ∃ f, f = loopK m2 (fun p nx => au_cut_b1 fu a0 p.1 p.2 nx) := ⟨_, rfl⟩
 rw [← hn2] at hd
 replace hd : au_cut_b1 fu a0 l1 k1 nx1 = some r := hd
 unfold au_cut_b1 at hd
 refine Wp.sr <| Seg.op (OpT.lss rfl rfl) rfl <| Seg.nilT <| Wp.seq ?_
 refine Wp.cond (b := decide ((k1:Int) < (a0.length:Int))) rfl (fun hb2 => ?_) (fun hb2 => ?_)
 ·
  replace hd := brT hb2 hd
  replace hb2 := of_decide_eq_true hb2
  refine Wp.skip <| At.then_n <| Wp.seq <| Wp.block <| Wp.seq ?_
  obtain ⟨x2, hx2, hd⟩ := bnd_some hd
  have hx2_ := idx_bd hx2
  refine Wp.region ?_
  obtain ⟨_, ⟨_, _, rfl, rfl, ⟨v3, rfl, hv2⟩⟩, hc2⟩ := SlD.get (hv1.mono hl1) hx2
  refine Seg.op (OpT.ixSl u22 ti30 rfl (hv1.mono hl1).sl rfl (idx_bd hx2)) rfl <| Seg.op (OpT.ldHA (vs := [(.bool x2.1), v3]) u30 rfl ti30 rfl rfl (fun j u hj => (hc2 j u hj))) rfl <| Seg.alloc (cs := #[(.bool false), (.slice none 0 0)]) ti30 rfl rfl fun B3 => Seg.stBlkW (i := 0) (cs' := #[(.bool x2.1), v3]) rfl rfl ti30 rfl rfl (onesA (ones_cons rfl (ones_cons hv2.one (ones_nil)))) rfl ?_
  refine Seg.own (O := .blk B3 (.cells #[(.bool x2.1), v3] 30 (0, 0)) :: .blk B2 (.cells cs2 100 (0, 0)) :: O) ?_ rfl
  refine Seg.nilT <| Wp.sr <| Seg.op (OpT.fld (o' := 1) fl30_1 rfl rfl) rfl <| Seg.op (OpT.ldBlk (i := 0) (v := v3) u28 rfl rfl rfl rfl) rfl ?_
  have hb3 := hv2.le
  refine Seg.op (OpT.len u28 rfl hv2.sl) rfl <| Seg.op (OpT.move rfl) rfl <| Seg.nilT <| Wp.block <| Wp.loopF (fun m LL HH OO => ∃ (l2 : List Bool), ∃ (k2 : Nat), ∃ (cs3 : Array Value), [(3, (ptr B2 0)), (11, v1), (12, (.int .i64 (a0.length:Int))), (13, (.int .i64 (k1:Int))), (18, v3), (19, (.int .i64 (x2.2.length:Int))), (20, (.int .i64 (k2:Int)))] = LL ∧ .blk B3 (.cells #[(.bool x2.1), v3] 30 (0, 0)) :: .blk B2 (.cells cs3 100 (0, 0)) :: O = OO ∧ loopK m (fun p nx => au_cut_b2 fu k1 nx1 x2 p.1 p.2 nx) (l2, k2) = some r ∧ LayL cB HH l2 cs3.toList ∧ cs3.size = 257) fu ⟨l1, 0, cs2, rfl, rfl, hd, ⟨hq3.1, hq3.2⟩⟩ (Sub.of rfl) ?_
  intro m3 L2 H2 O2 hl2 hI2
  obtain ⟨l2, k2, cs3, rfl, rfl, hd, hq4⟩ := hI2
  replace hd := loopK_some hd; obtain ⟨m4, rfl, hd⟩ := hd
  obtain ⟨nx2, hn3⟩ : ∃ f, f = loopK m4 (fun p nx => au_cut_b2 fu k1 nx1 x2 p.1 p.2 nx) := ⟨_, rfl⟩
  rw [← hn3] at hd
  replace hd : au_cut_b2 fu k1 nx1 x2 l2 k2 nx2 = some r := hd
  unfold au_cut_b2 at hd
  refine Wp.sr <| Seg.op (OpT.lss rfl rfl) rfl <| Seg.nilT <| Wp.seq ?_
  refine Wp.cond (b := decide ((k2:Int) < (x2.2.length:Int))) rfl (fun hb4 => ?_) (fun hb4 => ?_)
  ·
   replace hd := brT hb4 hd
   replace hb4 := of_decide_eq_true hb4
   refine Wp.skip <| At.then_n <| Wp.seq <| Wp.block <| Wp.seq ?_
   obtain ⟨x3, hx3, hd⟩ := bnd_some hd
   have hx3_ := idx_bd hx3
   refine Wp.region ?_
   obtain ⟨_, ⟨_, _, rfl, ⟨rfl, hr1, hr2⟩, ⟨_, _, rfl, ⟨rfl, hr3, hr4⟩, rfl⟩⟩, hc3⟩ := SlD.get (hv2.mono hl2) hx3
   refine Seg.op (OpT.ixSl u28 ti27 rfl (hv2.mono hl2).sl rfl (idx_bd hx3)) rfl <| Seg.op (OpT.ldHA (vs := [(.int .u8 x3.1), (.int .u8 x3.2.1), (.int .i64 x3.2.2)]) u27 rfl ti27 rfl rfl (fun j u hj => (hc3 j u hj))) rfl <| Seg.alloc (cs := #[(.int .u8 0), (.int .u8 0), (.int .i64 0)]) ti27 rfl rfl fun B4 => Seg.stBlkW (i := 0) (cs' := #[(.int .u8 x3.1), (.int .u8 x3.2.1), (.int .i64 x3.2.2)]) rfl rfl ti27 rfl rfl (onesA (ones_cons rfl (ones_cons rfl (ones_cons rfl (ones_nil))))) rfl ?_
   refine Seg.own (O := .blk B4 (.cells #[(.int .u8 x3.1), (.int .u8 x3.2.1), (.int .i64 x3.2.2)] 27 (0, 0)) :: .blk B3 (.cells #[(.bool x2.1), v3] 30 (0, 0)) :: .blk B2 (.cells cs3 100 (0, 0)) :: O) ?_ rfl
   refine Seg.nilT <| Wp.seq ?_
   obtain ⟨x4, hx4, hd⟩ := bnd_some hd
   refine Wp.region <| Seg.op (OpT.fld (o' := 0) fl27_0 rfl rfl) rfl <| Seg.op (OpT.ldBlk (i := 0) (v := (.int .u8 x3.1)) u5 rfl rfl rfl rfl) rfl ?_
   obtain ⟨_, rfl, hc4, hc4_⟩ := LayL.get hq4.1 (idx_some hx4).2
   have hn4 := LayL.lenA hq4.1 hq4.2
   refine Seg.op (OpT.ixArr (off' := x3.1.toNat * 1) u100 ti4 rfl rfl (by have := idx_bd hx4; simp only [cB, cI64, cU8] at hn4; omega) (by simp)) rfl ?_
   refine Seg.stA (q := 2) (y := true) (i := x3.1) hq4.1 hq4.2 (idx_bd hx4) rfl rfl rfl ti4 rfl (rfl) (fun cs4 hq5 => ?_)
   refine Seg.nilT ?_
   obtain ⟨ha1, hd⟩ := chk_some hd
   obtain ⟨x5, hx5, hd⟩ := bnd_some hd
   refine Wp.region <| Seg.op (OpT.fld (o' := 1) fl27_1 rfl rfl) rfl <| Seg.op (OpT.ldBlk (i := 0) (v := (.int .u8 x3.2.1)) u5 rfl rfl rfl rfl) rfl <| Seg.op (OpT.conv u5 u3 rfl (fits64 (by omega))) rfl <| Seg.op (OpT.add rfl rfl (fits64 ha1)) rfl ?_
   obtain ⟨_, rfl, hc5, hc5_⟩ := LayL.get hq5.1 (idx_some hx5).2
   have hn5 := LayL.lenA hq5.1 hq5.2
   refine Seg.op (OpT.ixArr (off' := ((x3.2.1 + 1).toNat) * 1) u100 ti4 rfl rfl (by have := idx_bd hx5; simp only [cB, cI64, cU8] at hn5; omega) (by simp)) rfl ?_
   refine Seg.stA (q := 2) (y := true) (i := (x3.2.1 + 1)) hq5.1 hq5.2 (idx_bd hx5) rfl rfl rfl ti4 rfl (rfl) (fun cs5 hq6 => ?_)
   refine Seg.nil <| At.blk_n <| At.then_n <| Wp.region <| Seg.op (OpT.add rfl rfl (fits64 (by omega))) rfl <| Seg.op (OpT.move rfl) rfl <| Seg.nil <| At.permK [1, 2] 3 rfl rfl rfl ?_
   refine At.nextF (Hp.le.refl _) ⟨((l2.set x3.1.toNat true).set ((x3.2.1 + 1).toNat) true), (k2 + 1), cs5, rfl, rfl, (by rw [← hn3]; exact hd), ⟨hq6.1, hq6.2⟩⟩ (Sub.of rfl)
  replace hd := brF hb4 hd
  replace hb4 := of_decide_eq_false hb4
  refine Wp.exit <| At.then_x <| At.then_x <| At.blk_hit <| At.blk_n <| At.then_n <| Wp.region <| Seg.op (OpT.add rfl rfl (fits64 (by omega))) rfl ?_
  refine Seg.op (OpT.move rfl) rfl <| Seg.nil <| At.permK [1] 2 rfl rfl rfl ?_
  refine At.nextF hl2 ⟨l2, (k1 + 1), cs3, rfl, rfl, (by rw [← hn2]; exact hd), ⟨hq4.1, hq4.2⟩⟩ (Sub.of rfl)
 replace hd := brF hb2 hd
 replace hb2 := of_decide_eq_false hb2
 refine Wp.exit <| At.then_x <| At.then_x <| At.blk_hit <| At.then_n <| Wp.sr <| Seg.op (OpT.assign rfl) rfl <| Seg.nilT ?_
 refine Wp.seq <| Wp.sr <| Seg.op (OpT.move rfl) rfl <| Seg.nilT <| Wp.block <| Wp.nilRow 3 1 <| Wp.loopF (fun m LL HH OO => ∃ (l3 : List Int), ∃ (k3 : Nat), ∃ (v4 : Value), ∃ (xs1 : List Value), [(3, (ptr B2 0)), (8, v4), (34, (.int .i64 (k3:Int)))] = LL ∧ .row v4 3 1 l3.length xs1 :: .blk B2 (.cells cs2 100 (0, 0)) :: O = OO ∧ loopK m (fun p nx => au_cut_b3 fu l1 p.1 p.2 nx) (l3, k3) = some r ∧ LayL cI64 HH l3 xs1) fu ⟨([] : List Int), 0, (.slice none 0 0), [], rfl, rfl, hd, (LayL.nil (c := cI64) (H := H1))⟩ (Sub.of rfl) ?_
 intro m5 L3 H3 O3 hl3 hI3
 obtain ⟨l3, k3, v4, xs1, rfl, rfl, hd, hq7⟩ := hI3
 replace hd := loopK_some hd; obtain ⟨m6, rfl, hd⟩ := hd
 obtain ⟨nx3, hn6⟩ : ∃ f, f = loopK m6 (fun p nx => au_cut_b3 fu l1 p.1 p.2 nx) := ⟨_, rfl⟩
 rw [← hn6] at hd
 replace hd : au_cut_b3 fu l1 l3 k3 nx3 = some r := hd
 unfold au_cut_b3 at hd
 refine Wp.sr <| Seg.op (OpT.lss rfl rfl) rfl <| Seg.nilT <| Wp.seq ?_
 refine Wp.cond (b := decide ((k3:Int) < 256)) rfl (fun hb5 => ?_) (fun hb5 => ?_)
 ·
  replace hd := brT hb5 hd
  replace hb5 := of_decide_eq_true hb5
  refine Wp.skip <| At.then_n <| Wp.seq <| Wp.block <| Wp.sr <| Seg.op (OpT.move rfl) rfl <| Seg.op (OpT.assign rfl) rfl <| Seg.nilT ?_
  refine Wp.seq ?_
  obtain ⟨x6, hx6, hd⟩ := bnd_some hd
  refine Wp.region <| Seg.op (OpT.move rfl) rfl ?_
  obtain ⟨_, rfl, hc6, hc6_⟩ := LayL.get (hq3.1.mono hl3) (idx_some hx6).2
  have hn7 := LayL.lenA (hq3.1.mono hl3) hq3.2
  refine Seg.op (OpT.ixArr (off' := k3 * 1) u100 ti4 rfl rfl (by have := idx_bd hx6; simp only [cB, cI64, cU8] at hn7; omega) (by simp)) rfl <| Seg.op (OpT.ldBlk (i := 1) (v := (.bool x6)) u4 rfl rfl rfl (by have := hc6 0 _ rfl; simpa [cB, cI64, cU8] using this)) rfl <| Seg.nilT ?_
  refine Wp.cond (b := x6) rfl (fun hb6 => ?_) (fun hb6 => ?_)
  ·
   replace hd := brT hb6 hd
   obtain ⟨ha2, hd⟩ := chk_some hd
   refine Wp.region <| Seg.op (OpT.move rfl) rfl <| Seg.op (OpT.move rfl) rfl <| Seg.buildD1 (c := cI64) (y := (k3:Int)) (cs := [(.int .i64 (k3:Int))]) u66 ti3 rfl rfl rfl rfl (rfl) rfl fun v5 xs2 hq8 => Seg.appD (i := 1) (j := 0) hq7 hq8 u66 ti3 rfl (by decide) rfl rfl rfl rfl (by decide) ha2 rfl fun v6 xs3 hq9 => Seg.drop (i := 0) <| Seg.op (OpT.assign rfl) rfl <| Seg.nil ?_
   refine At.blk_n <| At.then_n <| Wp.region <| Seg.op (OpT.add rfl rfl (fits64 (by omega))) rfl <| Seg.op (OpT.move rfl) rfl <| Seg.nil ?_
   refine At.nextF (Hp.le.refl _) ⟨(l3 ++ ([(k3:Int)] : List Int)), (k3 + 1), v6, xs3, rfl, rfl, (by rw [← hn6]; exact hd), hq9⟩ (Sub.of rfl)
  replace hd := brF hb6 hd
  refine Wp.skip <| At.blk_n <| At.then_n <| Wp.region <| Seg.op (OpT.add rfl rfl (fits64 (by omega))) rfl <| Seg.op (OpT.move rfl) rfl <| Seg.nil ?_
  refine At.nextF (Hp.le.refl _) ⟨l3, (k3 + 1), v4, xs1, rfl, rfl, (by rw [← hn6]; exact hd), hq7⟩ (Sub.of rfl)
 replace hd := brF hb5 hd
 replace hb5 := of_decide_eq_false hb5
 refine Wp.exit <| At.then_x <| At.then_x <| At.blk_hit <| At.then_n <| Wp.sr <| Seg.op (OpT.move rfl) rfl <| Seg.op (OpT.assign rfl) rfl ?_
 refine Seg.nilT <| Wp.ret ?_
 refine At.rowLe (i := 0) rfl fun hb7 => ?_
 refine At.freeze (i := 0) rfl fun H4 hl4 hs1 => ?_
 have hv3 := SlD.of (c := cI64) hs1 rfl (hq7.mono hl4) hb7
 obtain rfl := Option.some.inj hd
 exact At.res1 rfl (RV.tmp (v := v4) rfl) (fun w hs => ⟨_, _, _, rfl, ((hl1.trans hl3).trans hl4), (hs.dropN 1), ⟨⟨v4, rfl, hv3⟩, rfl⟩⟩)

set_option maxRecDepth 100000 in
set_option maxHeartbeats 4000000 in
theorem au_complete_w {fu : Nat} {a0 : List (Bool × (List (Int × Int × Int)))} {v1 : Value} {r : (List Int) × (List (List Int)) × (List Bool) × (List Int)} (hv1 : SlD (cP cB (cL (cP cU8 (cP cU8 cI64)))) H a0 v1) (hd : au_complete fu a0 = some r) :
    Tri Tryd.prog 19 [v1] H O (fun v H' O' => ∃ B1 : Nat, ∃ v2 : Value, ∃ v3 : Value, ∃ v4 : Value, ∃ v5 : Value, (ptr B1 0) = v ∧ SlD cI64 H' r.1 v2 ∧ SlD (cL cI64) H' r.2.1 v3 ∧ SlD cB H' r.2.2.1 v4 ∧ SlD cI64 H' r.2.2.2 v5 ∧ .blk B1 (.cells #[v2, v3, v4, v5] 70 (0, 0)) :: O = O') := by
 intro w hs
 refine wp_of Tryd.func19 rfl rfl rfl ?_ hs
 clear hs w
 unfold au_complete at hd
 refine Wp.sr <| Seg.op (OpT.assign rfl) rfl <| Seg.nilT <| Wp.seq ?_
 obtain ⟨x1, hx1, hd⟩ := bnd_some hd
 refine Wp.region <| Seg.op (OpT.move rfl) rfl <| Seg.opS (OpS.call ent30 rfl (au_cut_w hv1 hx1)) rfl ?_
 rintro _ H1 _ hl1 ⟨⟨v6, rfl, hv2⟩, rfl⟩
 refine Seg.op (OpT.buildS (vs := [(0, v6)]) (cs := #[v6, (.slice none 0 0), (.slice none 0 0), (.slice none 0 0)]) plf70 ti70 rfl rfl (vc_cons (cells1 hv2.one) (vc_nil)) rfl) rfl <| Seg.box (cs := #[v6, (.slice none 0 0), (.slice none 0 0), (.slice none 0 0)]) rfl rfl rfl fun B2 => Seg.op (OpT.assign rfl) rfl <| Seg.nilT <| Wp.sr <| Seg.op (OpT.move rfl) rfl ?_
 have hb1 := hv1.le
 refine Seg.op (OpT.len u22 rfl (hv1.mono hl1).sl) rfl <| Seg.op (OpT.assign rfl) rfl <| Seg.nilT <| Wp.seq <| Wp.sr <| Seg.op (OpT.move rfl) rfl ?_
 have hb2 := hv1.le
 refine Seg.op (OpT.len u22 rfl (hv1.mono hl1).sl) rfl <| Seg.op (OpT.move rfl) rfl <| Seg.nilT <| Wp.block <| Wp.nilRow 66 1 <| Wp.nilRow 4 1 <| Wp.loopF (fun m LL HH OO => ∃ (l1 : List (List Int)), ∃ (l2 : List Bool), ∃ (k1 : Nat), ∃ (v7 : Value), ∃ (xs1 : List Value), ∃ (v8 : Value), ∃ (xs2 : List Value), [(3, (ptr B2 0)), (4, (.int .i64 (a0.length:Int))), (20, v1), (21, (.int .i64 (a0.length:Int))), (22, (.int .i64 (k1:Int)))] = LL ∧ .row v8 4 1 l2.length xs2 :: .row v7 66 1 l1.length xs1 :: .blk B2 (.cells #[v6, v7, v8, (.slice none 0 0)] 70 (0, 0)) :: O = OO ∧ loopK m (fun p nx => au_complete_b1 fu a0 x1 p.1 p.2.1 p.2.2 nx) (l1, l2, k1) = some r ∧ LayL (cL cI64) HH l1 xs1 ∧ LayL cB HH l2 xs2) fu ⟨([] : List (List Int)), ([] : List Bool), 0, (.slice none 0 0), [], (.slice none 0 0), [], rfl, rfl, hd, (LayL.nil (c := (cL cI64)) (H := H1)), (LayL.nil (c := cB) (H := H1))⟩ (Sub.of rfl) ?_
 intro m1 L1 H2 O1 hl2 hI1
 obtain ⟨l1, l2, k1, v7, xs1, v8, xs2, rfl, rfl, hd, hq1, hq2⟩ := hI1
 replace hd := loopK_some hd; obtain ⟨m2, rfl, hd⟩ := hd
 obtain ⟨nx1, hn1⟩ : ∃ f, f = loopK m2 (fun p nx => au_complete_b1 fu a0 x1 p.1 p.2.1 p.2.2 nx) := ⟨_, rfl⟩
 rw [← hn1] at hd
 replace hd : au_complete_b1 fu a0 x1 l1 l2 k1 nx1 = some r := hd
 unfold au_complete_b1 at hd
 refine Wp.sr <| Seg.op (OpT.lss rfl rfl) rfl <| Seg.nilT <| Wp.seq ?_
 refine Wp.cond (b := decide ((k1:Int) < (a0.length:Int))) rfl (fun hb3 => ?_) (fun hb3 => ?_)
 ·
  replace hd := brT hb3 hd
  replace hb3 := of_decide_eq_true hb3
  refine Wp.skip <| At.then_n <| Wp.seq <| Wp.block <| Wp.seq ?_
  obtain ⟨x2, hx2, hd⟩ := bnd_some hd
  have hx2_ := idx_bd hx2
  refine Wp.region ?_
  obtain ⟨_, ⟨_, _, rfl, rfl, ⟨v9, rfl, hv3⟩⟩, hc1⟩ := SlD.get (hv1.mono (hl1.trans hl2)) hx2
  refine Seg.op (OpT.ixSl u22 ti30 rfl (hv1.mono (hl1.trans hl2)).sl rfl (idx_bd hx2)) rfl <| Seg.op (OpT.ldHA (vs := [(.bool x2.1), v9]) u30 rfl ti30 rfl rfl (fun j u hj => (hc1 j u hj))) rfl <| Seg.alloc (cs := #[(.bool false), (.slice none 0 0)]) ti30 rfl rfl fun B3 => Seg.stBlkW (i := 0) (cs' := #[(.bool x2.1), v9]) rfl rfl ti30 rfl rfl (onesA (ones_cons rfl (ones_cons hv3.one (ones_nil)))) rfl ?_
  refine Seg.own (O := .blk B3 (.cells #[(.bool x2.1), v9] 30 (0, 0)) :: .row v8 4 1 l2.length xs2 :: .row v7 66 1 l1.length xs1 :: .blk B2 (.cells #[v6, v7, v8, (.slice none 0 0)] 70 (0, 0)) :: O) ?_ rfl
  refine Seg.nilT <| Wp.seq ?_
  obtain ⟨ha1, hd⟩ := chk_some hd
  refine Wp.region <| Seg.op (OpT.move rfl) rfl <| Seg.op (OpT.nilCheck rfl) rfl <| Seg.op (OpT.fld (o' := 0) fl70_0 rfl rfl) rfl <| Seg.op (OpT.ldBlk (i := 3) (v := v6) u66 rfl rfl rfl rfl) rfl ?_
  have hb4 := hv2.le
  refine Seg.op (OpT.len u66 rfl (hv2.mono hl2).sl) rfl <| Seg.makeD (c := cI64) (z := 0) (m := x1.length) u66 ti3 rfl rfl ha1 (rfl) rfl rfl rfl fun v10 xs3 hq3 => Seg.op (OpT.assign rfl) rfl <| Seg.nilT <| Wp.seq <| Wp.sr <| Seg.op (OpT.move rfl) rfl <| Seg.op (OpT.nilCheck rfl) rfl ?_
  refine Seg.op (OpT.fld (o' := 0) fl70_0 rfl rfl) rfl <| Seg.op (OpT.ldBlk (i := 4) (v := v6) u66 rfl rfl rfl rfl) rfl ?_
  have hb5 := hv2.le
  refine Seg.op (OpT.len u66 rfl (hv2.mono hl2).sl) rfl <| Seg.op (OpT.move rfl) rfl <| Seg.nilT <| Wp.block <| Wp.loopF (fun m LL HH OO => ∃ (l3 : List Int), ∃ (k2 : Nat), ∃ (v11 : Value), ∃ (xs4 : List Value), [(3, (ptr B2 0)), (4, (.int .i64 (a0.length:Int))), (6, (ptr B3 0)), (7, v11), (20, v1), (21, (.int .i64 (a0.length:Int))), (22, (.int .i64 (k1:Int))), (35, v6), (36, (.int .i64 (x1.length:Int))), (37, (.int .i64 (k2:Int)))] = LL ∧ .row v11 3 1 l3.length xs4 :: .blk B3 (.cells #[(.bool x2.1), v9] 30 (0, 0)) :: .row v8 4 1 l2.length xs2 :: .row v7 66 1 l1.length xs1 :: .blk B2 (.cells #[v6, v7, v8, (.slice none 0 0)] 70 (0, 0)) :: O = OO ∧ loopK m (fun p nx => au_complete_b2 fu a0 x1 l1 l2 k1 nx1 x2 p.1 p.2 nx) (l3, k2) = some r ∧ LayL cI64 HH l3 xs4) fu ⟨(List.replicate x1.length 0 : List Int), 0, v10, xs3, rfl, rfl, hd, hq3⟩ (Sub.of rfl) ?_
  intro m3 L2 H3 O2 hl3 hI2
  obtain ⟨l3, k2, v11, xs4, rfl, rfl, hd, hq4⟩ := hI2
  replace hd := loopK_some hd; obtain ⟨m4, rfl, hd⟩ := hd
  obtain ⟨nx2, hn2⟩ : ∃ f, f = loopK m4 (fun p nx => au_complete_b2 fu a0 x1 l1 l2 k1 nx1 x2 p.1 p.2 nx) := ⟨_, rfl⟩
  rw [← hn2] at hd
  replace hd : au_complete_b2 fu a0 x1 l1 l2 k1 nx1 x2 l3 k2 nx2 = some r := hd
  unfold au_complete_b2 at hd
  refine Wp.sr <| Seg.op (OpT.lss rfl rfl) rfl <| Seg.nilT <| Wp.seq ?_
  refine Wp.cond (b := decide ((k2:Int) < (x1.length:Int))) rfl (fun hb6 => ?_) (fun hb6 => ?_)
  ·
   replace hd := brT hb6 hd
   replace hb6 := of_decide_eq_true hb6
   refine Wp.skip <| At.then_n <| Wp.seq <| Wp.block <| Wp.seq ?_
   obtain ⟨x3, hx3, hd⟩ := bnd_some hd
   have hx3_ := idx_bd hx3
   refine Wp.region <| Seg.op (OpT.move rfl) rfl ?_
   obtain ⟨_, rfl, hc2⟩ := SlD.get (hv2.mono (hl2.trans hl3)) hx3
   refine Seg.op (OpT.ixSl u66 ti3 rfl (hv2.mono (hl2.trans hl3)).sl rfl (idx_bd hx3)) rfl <| Seg.op (OpT.ldH u3 rfl rfl (hc2 0 _ rfl)) rfl <| Seg.op (OpT.assign rfl) rfl <| Seg.op (OpT.assign rfl) rfl <| Seg.nilT <| Wp.seq ?_
   obtain ⟨x4, hx4, hd⟩ := bnd_some hd
   have hx4_ := idx_bd hx4
   refine Wp.region <| Seg.op (OpT.move rfl) rfl <| Seg.op (OpT.move rfl) rfl <| Seg.op (OpT.move rfl) rfl ?_
   obtain ⟨_, rfl, hc3, hc3_⟩ := LayL.get hq4 (idx_some hx4).2
   refine Seg.op (OpT.ixRow (j := 0) u66 ti3 rfl rfl rfl (idx_bd hx4)) rfl ?_
   refine Seg.stD (q := 0) (off := 0) (vs := [(.int .i64 (a0.length:Int))]) (y := (a0.length:Int)) (cs := [(.int .i64 x4)]) hq4 hx4 hc3_ rfl rfl rfl ti3 rfl rfl (ones_cons rfl (ones_nil)) rfl (rfl) rfl (fun xs5 hq5 => ?_)
   refine Seg.nilT <| Wp.sr <| Seg.op (OpT.fld (o' := 1) fl30_1 rfl rfl) rfl <| Seg.op (OpT.ldBlk (i := 1) (v := v9) u28 rfl rfl rfl rfl) rfl ?_
   have hb7 := hv3.le
   refine Seg.op (OpT.len u28 rfl (hv3.mono hl3).sl) rfl <| Seg.op (OpT.move rfl) rfl <| Seg.nilT <| Wp.block <| Wp.loopF (fun m LL HH OO => ∃ (l4 : List Int), ∃ (k3 : Nat), ∃ (v12 : Value), ∃ (xs6 : List Value), [(3, (ptr B2 0)), (4, (.int .i64 (a0.length:Int))), (6, (ptr B3 0)), (7, v12), (8, (.int .i64 (k2:Int))), (9, (.int .i64 x3)), (20, v1), (21, (.int .i64 (a0.length:Int))), (22, (.int .i64 (k1:Int))), (35, v6), (36, (.int .i64 (x1.length:Int))), (37, (.int .i64 (k2:Int))), (47, v9), (48, (.int .i64 (x2.2.length:Int))), (49, (.int .i64 (k3:Int)))] = LL ∧ .row v12 3 1 l4.length xs6 :: .blk B3 (.cells #[(.bool x2.1), v9] 30 (0, 0)) :: .row v8 4 1 l2.length xs2 :: .row v7 66 1 l1.length xs1 :: .blk B2 (.cells #[v6, v7, v8, (.slice none 0 0)] 70 (0, 0)) :: O = OO ∧ loopK m (fun p nx => au_complete_b3 fu x2 k2 nx2 x3 p.1 p.2 nx) (l4, k3) = some r ∧ LayL cI64 HH l4 xs6) fu ⟨(l3.set k2 (a0.length:Int)), 0, v11, xs5, rfl, rfl, hd, hq5⟩ (Sub.of rfl) ?_
   intro m5 L3 H4 O3 hl4 hI3
   obtain ⟨l4, k3, v12, xs6, rfl, rfl, hd, hq6⟩ := hI3
   replace hd := loopK_some hd; obtain ⟨m6, rfl, hd⟩ := hd
   obtain ⟨nx3, hn3⟩ : ∃ f, f = loopK m6 (fun p nx => au_complete_b3 fu x2 k2 nx2 x3 p.1 p.2 nx) := ⟨_, rfl⟩
   rw [← hn3] at hd
   replace hd : au_complete_b3 fu x2 k2 nx2 x3 l4 k3 nx3 = some r := hd
   unfold au_complete_b3 at hd
   refine Wp.sr <| Seg.op (OpT.lss rfl rfl) rfl <| Seg.nilT <| Wp.seq ?_
   refine Wp.cond (b := decide ((k3:Int) < (x2.2.length:Int))) rfl (fun hb8 => ?_) (fun hb8 => ?_)
   ·
    replace hd := brT hb8 hd
    replace hb8 := of_decide_eq_true hb8
    refine Wp.skip <| At.then_n <| Wp.seq <| Wp.block <| Wp.seq ?_
    obtain ⟨x5, hx5, hd⟩ := bnd_some hd
    have hx5_ := idx_bd hx5
    refine Wp.region ?_
    obtain ⟨_, ⟨_, _, rfl, ⟨rfl, hr1, hr2⟩, ⟨_, _, rfl, ⟨rfl, hr3, hr4⟩, rfl⟩⟩, hc4⟩ := SlD.get (hv3.mono (hl3.trans hl4)) hx5
    refine Seg.op (OpT.ixSl u28 ti27 rfl (hv3.mono (hl3.trans hl4)).sl rfl (idx_bd hx5)) rfl <| Seg.op (OpT.ldHA (vs := [(.int .u8 x5.1), (.int .u8 x5.2.1), (.int .i64 x5.2.2)]) u27 rfl ti27 rfl rfl (fun j u hj => (hc4 j u hj))) rfl <| Seg.alloc (cs := #[(.int .u8 0), (.int .u8 0), (.int .i64 0)]) ti27 rfl rfl fun B4 => Seg.stBlkW (i := 0) (cs' := #[(.int .u8 x5.1), (.int .u8 x5.2.1), (.int .i64 x5.2.2)]) rfl rfl ti27 rfl rfl (onesA (ones_cons rfl (ones_cons rfl (ones_cons rfl (ones_nil))))) rfl ?_
    refine Seg.own (O := .blk B4 (.cells #[(.int .u8 x5.1), (.int .u8 x5.2.1), (.int .i64 x5.2.2)] 27 (0, 0)) :: .row v12 3 1 l4.length xs6 :: .blk B3 (.cells #[(.bool x2.1), v9] 30 (0, 0)) :: .row v8 4 1 l2.length xs2 :: .row v7 66 1 l1.length xs1 :: .blk B2 (.cells #[v6, v7, v8, (.slice none 0 0)] 70 (0, 0)) :: O) ?_ rfl
    refine Seg.nilT <| Wp.seq ?_
    rcases Bool.eq_false_or_eq_true (decide (x5.1 ≤ x3)) with hg1 | hg1
    ·
     replace hd := brT hg1 hd
     have hg1_ := of_decide_eq_true hg1
     refine Wp.region <| Seg.op (OpT.fld (o' := 0) fl27_0 rfl rfl) rfl <| Seg.op (OpT.ldBlk (i := 0) (v := (.int .u8 x5.1)) u5 rfl rfl rfl rfl) rfl <| Seg.op (OpT.conv u5 u3 rfl (fits64 (by omega))) rfl <| Seg.op (OpT.move rfl) rfl <| Seg.op (OpT.asB (b := decide (x5.1 ≤ x3)) (c := true) (OpT.leq rfl rfl) hg1) rfl <| Seg.op (OpT.move rfl) rfl <| Seg.opG rfl rfl (OpT.move rfl) rfl ?_
     refine Seg.opG rfl rfl (OpT.fld (o' := 1) fl27_1 rfl rfl) rfl <| Seg.opG rfl rfl (OpT.ldBlk (i := 0) (v := (.int .u8 x5.2.1)) u5 rfl rfl rfl rfl) rfl <| Seg.opG rfl rfl (OpT.conv u5 u3 rfl (fits64 (by omega))) rfl <| Seg.opG rfl rfl (OpT.leq rfl rfl) rfl <| Seg.op (OpT.pickT rfl rfl) rfl <| Seg.nilT ?_
     refine Wp.cond (b := decide (x3 ≤ x5.2.1)) rfl (fun hb9 => ?_) (fun hb9 => ?_)
     ·
      replace hd := brT hb9 hd
      replace hb9 := of_decide_eq_true hb9
      obtain ⟨x6, hx6, hd⟩ := bnd_some hd
      have hx6_ := idx_bd hx6
      refine Wp.region <| Seg.op (OpT.move rfl) rfl <| Seg.op (OpT.move rfl) rfl <| Seg.op (OpT.fld (o' := 2) fl27_2 rfl rfl) rfl <| Seg.op (OpT.ldBlk (i := 0) (v := (.int .i64 x5.2.2)) u3 rfl rfl rfl rfl) rfl ?_
      obtain ⟨_, rfl, hc5, hc5_⟩ := LayL.get hq6 (idx_some hx6).2
      refine Seg.op (OpT.ixRow (j := 1) u66 ti3 rfl rfl rfl (idx_bd hx6)) rfl ?_
      refine Seg.stD (q := 1) (off := 0) (vs := [(.int .i64 x5.2.2)]) (y := x5.2.2) (cs := [(.int .i64 x6)]) hq6 hx6 hc5_ rfl rfl rfl ti3 rfl rfl (ones_cons rfl (ones_nil)) rfl (rfl) rfl (fun xs7 hq7 => ?_)
      refine Seg.nil <| At.blk_n <| At.then_n <| Wp.region <| Seg.op (OpT.add rfl rfl (fits64 (by omega))) rfl <| Seg.op (OpT.move rfl) rfl <| Seg.nil <| At.permK [1, 2, 3, 4, 5] 6 rfl rfl rfl ?_
      refine At.nextF (Hp.le.refl _) ⟨(l4.set k2 x5.2.2), (k3 + 1), v12, xs7, rfl, rfl, (by rw [← hn3]; exact hd), hq7⟩ (Sub.of rfl)
     replace hd := brF hb9 hd
     replace hb9 := of_decide_eq_false hb9
     refine Wp.skip <| At.blk_n <| At.then_n <| Wp.region <| Seg.op (OpT.add rfl rfl (fits64 (by omega))) rfl <| Seg.op (OpT.move rfl) rfl <| Seg.nil <| At.permK [1, 2, 3, 4, 5] 6 rfl rfl rfl ?_
     refine At.nextF (Hp.le.refl _) ⟨l4, (k3 + 1), v12, xs6, rfl, rfl, (by rw [← hn3]; exact hd), hq6⟩ (Sub.of rfl)
    replace hd := brF hg1 hd
    have hg1_ := of_decide_eq_false hg1
    refine Wp.region <| Seg.op (OpT.fld (o' := 0) fl27_0 rfl rfl) rfl <| Seg.op (OpT.ldBlk (i := 0) (v := (.int .u8 x5.1)) u5 rfl rfl rfl rfl) rfl <| Seg.op (OpT.conv u5 u3 rfl (fits64 (by omega))) rfl <| Seg.op (OpT.move rfl) rfl <| Seg.op (OpT.asB (b := decide (x5.1 ≤ x3)) (c := false) (OpT.leq rfl rfl) hg1) rfl <| Seg.op (OpT.move rfl) rfl <| Seg.skipG rfl rfl rfl rfl ?_
    refine Seg.skipG rfl rfl rfl rfl <| Seg.skipG rfl rfl rfl rfl <| Seg.skipG rfl rfl rfl rfl <| Seg.skipG rfl rfl rfl rfl <| Seg.op (OpT.pickF rfl rfl) rfl <| Seg.nilT <| Wp.condF rfl <| Wp.skip ?_
    refine At.blk_n <| At.then_n <| Wp.region <| Seg.op (OpT.add rfl rfl (fits64 (by omega))) rfl <| Seg.op (OpT.move rfl) rfl <| Seg.nil <| At.permK [1, 2, 3, 4, 5] 6 rfl rfl rfl ?_
    refine At.nextF (Hp.le.refl _) ⟨l4, (k3 + 1), v12, xs6, rfl, rfl, (by rw [← hn3]; exact hd), hq6⟩ (Sub.of rfl)
   replace hd := brF hb8 hd
   replace hb8 := of_decide_eq_false hb8
   refine Wp.exit <| At.then_x <| At.then_x <| At.blk_hit <| At.blk_n <| At.then_n <| Wp.region <| Seg.op (OpT.add rfl rfl (fits64 (by omega))) rfl ?_
   refine Seg.op (OpT.move rfl) rfl <| Seg.nil ?_
   refine At.nextF hl4 ⟨l4, (k2 + 1), v12, xs6, rfl, rfl, (by rw [← hn2]; exact hd), hq6⟩ (Sub.of rfl)
  replace hd := brF hb6 hd
  replace hb6 := of_decide_eq_false hb6
  refine Wp.exit <| At.then_x <| At.then_x <| At.blk_hit <| At.then_n <| Wp.seq ?_
  obtain ⟨ha2, hd⟩ := chk_some hd
  refine Wp.region <| Seg.op (OpT.move rfl) rfl <| Seg.op (OpT.move rfl) rfl <| Seg.op (OpT.nilCheck rfl) rfl <| Seg.op (OpT.fld (o' := 1) fl70_1 rfl rfl) rfl <| Seg.op (OpT.ldBlk (i := 4) (v := v7) u58 rfl rfl rfl rfl) rfl <| Seg.op (OpT.move rfl) rfl ?_
  refine Seg.rowLe (i := 0) rfl fun hb10 => ?_
  refine Seg.freeze (i := 0) rfl fun H5 hl5 hs1 => ?_
  have hv4 := SlD.of (c := cI64) hs1 rfl (hq4.mono hl5) hb10
  refine Seg.buildD1 (c := (cL cI64)) (y := l3) (cs := [v11]) u58 ti66 rfl rfl rfl (cellsL hv4.one) (⟨_, rfl, hv4⟩) rfl fun v13 xs8 hq8 => Seg.appD (i := 3) (j := 0) (hq1.mono (hl3.trans hl5)) hq8 u58 ti66 rfl (by decide) rfl rfl rfl rfl (by decide) ha2 rfl fun v14 xs9 hq9 => Seg.drop (i := 0) <| Seg.op (OpT.nilCheck rfl) rfl <| Seg.op (OpT.fld (o' := 1) fl70_1 rfl rfl) rfl <| Seg.rowOne (i := 2) rfl fun ho1 => Seg.stBlk1 (i := 3) rfl rfl ho1 ti58 rfl (Nat.le_of_ble_eq_true rfl) ?_
  refine Seg.own (O := .blk B3 (.cells #[(.bool x2.1), v9] 30 (0, 0)) :: .row v8 4 1 l2.length xs2 :: .row v14 66 1 (l1 ++ ([l3] : List (List Int))).length xs9 :: .blk B2 (.cells #[v6, v14, v8, (.slice none 0 0)] 70 (0, 0)) :: O) ?_ rfl
  refine Seg.nilT ?_
  obtain ⟨ha3, hd⟩ := chk_some hd
  refine Wp.emp <| SegO.runK 5 [an0, an0, an0, an0, ⟨[4], [], []⟩, an0, ⟨[1], [], []⟩, ⟨[0], [0], [7]⟩, ⟨[0, 2], [2], [8]⟩, an0, an0, ⟨[4], [4], [8]⟩] follows rfl (by kernel_rfl) <| SegO.op (val := fun p1 => (ptr B2 0)) rfl rfl (fun _ => rfl) (fun _ p1 _ hx hf hy => OpT.move rfl) rfl <| SegO.op (val := fun p1 => (ptr B2 0)) rfl rfl (fun _ => rfl) (fun _ p1 _ hx hf hy => OpT.move rfl) rfl <| SegO.op (val := fun p1 => (ptr B2 0)) rfl rfl (fun _ => rfl) (fun _ p1 _ hx hf hy => OpT.nilCheck rfl) rfl <| SegO.op (val := fun p1 => (ptr B2 2)) rfl rfl (fun _ => rfl) (fun _ p1 _ hx hf hy => OpT.fld (o' := 2) fl70_2 rfl rfl) rfl <| SegO.op (val := fun p1 => v8) rfl rfl (fun _ => rfl) (fun _ p1 _ hx hf hy => OpT.ldBlk (i := 4) (v := v8) u68 rfl rfl (hy 4 _ rfl rfl) rfl) rfl <| SegO.op (val := fun p1 => (ptr B3 0)) rfl rfl (fun _ => rfl) (fun _ p1 _ hx hf hy => OpT.fld (o' := 0) fl30_0 rfl rfl) rfl ?_
  refine SegO.op (val := fun p1 => (.bool x2.1)) rfl rfl (fun _ => rfl) (fun _ p1 _ hx hf hy => OpT.ldBlk (i := 1) (v := (.bool x2.1)) u4 rfl rfl (hy 1 _ rfl rfl) rfl) rfl <| SegO.op1s (res := fun p1 => .row (p1 7) 4 1 1 [(.bool x2.1)]) 0 rfl rfl rfl (fun _ => rfl) (fun _ p1 _ hx hf hy => OpS.buildR1 (v := (.bool x2.1)) (cs := [(.bool x2.1)]) 0 u68 ti4 rfl rfl rfl rfl rfl (hy 0 _ rfl rfl)) rfl (fun _ => ⟨_, _, _, _, rfl⟩) <| SegO.op1s (res := fun p1 => .row (p1 8) 4 1 (l2.length + 1) (xs2 ++ [(.bool x2.1)])) 2 rfl rfl rfl (fun _ => rfl) (fun _ p1 _ hx hf hy => OpS.appR 2 0 u68 ti4 rfl rfl rfl rfl (hy 2 _ rfl rfl) (hy 0 _ rfl rfl) (ones_cons rfl (ones_nil)) rfl ha3) rfl (fun _ => ⟨_, _, _, _, rfl⟩) <| SegO.op (val := fun p1 => (ptr B2 0)) rfl rfl (fun _ => rfl) (fun _ p1 _ hx hf hy => OpT.nilCheck rfl) rfl <| SegO.op (val := fun p1 => (ptr B2 2)) rfl rfl (fun _ => rfl) (fun _ p1 _ hx hf hy => OpT.fld (o' := 2) fl70_2 rfl rfl) rfl <| SegO.op1n (res := fun p1 => .blk B2 (.cells #[v6, v14, (p1 8), (.slice none 0 0)] 70 (0, 0))) 4 rfl rfl rfl (fun _ => rfl) (fun _ p1 _ hx hf hy => OpS.stR (vs := [(p1 8)]) rfl rfl (cellsL (hf 8 rfl rfl)) ti68 rfl (ones_cons (hf 8 rfl rfl) (ones_nil)) (hy 4 _ rfl rfl) rfl rfl) <| SegO.done fun H6 p1 hl6 hF1 => At.sub (L' := [(3, (ptr B2 0)), (4, (.int .i64 (a0.length:Int))), (20, v1), (21, (.int .i64 (a0.length:Int))), (22, (.int .i64 (k1:Int)))]) (Sub.of rfl) ?_
  refine At.own (O := .row (p1 7) 4 1 ([x2.1] : List Bool).length [(.bool x2.1)] :: .blk B3 (.cells #[(.bool x2.1), v9] 30 (0, 0)) :: .row (p1 8) 4 1 (l2 ++ ([x2.1] : List Bool)).length (xs2 ++ [(.bool x2.1)]) :: .row v14 66 1 (l1 ++ ([l3] : List (List Int))).length xs9 :: .blk B2 (.cells #[v6, v14, (p1 8), (.slice none 0 0)] 70 (0, 0)) :: O) ?_ (by first | rfl | (simp only [List.length_append, List.length_set]; rfl) | simp)
  have hq10 : LayL cB H6 (l2 ++ ([x2.1] : List Bool)) (xs2 ++ [(.bool x2.1)]) := (LayL.app (hq2.mono ((hl3.trans hl5).trans hl6)) (LayL.sing (c := cB) (a := x2.1) (cs := [(.bool x2.1)]) rfl))
  refine At.permK [1, 2, 3, 4] 5 rfl rfl rfl <| At.blk_n <| At.then_n <| Wp.region <| Seg.op (OpT.add rfl rfl (fits64 (by omega))) rfl <| Seg.op (OpT.move rfl) rfl <| Seg.nil <| At.permK [1, 2, 3] 4 rfl rfl rfl ?_
  refine At.nextF ((hl3.trans hl5).trans hl6) ⟨(l1 ++ ([l3] : List (List Int))), (l2 ++ ([x2.1] : List Bool)), (k1 + 1), v14, xs9, (p1 8), xs2 ++ [(.bool x2.1)], rfl, rfl, (by rw [← hn1]; exact hd), (hq9.mono hl6), hq10⟩ (Sub.of rfl)
 replace hd := brF hb3 hd
 replace hb3 := of_decide_eq_false hb3
 refine Wp.exit <| At.then_x <| At.then_x <| At.blk_hit <| At.then_n <| Wp.seq ?_
 obtain ⟨ha4, hd⟩ := chk_some hd
 refine Wp.region <| Seg.op (OpT.move rfl) rfl <| Seg.op (OpT.nilCheck rfl) rfl <| Seg.op (OpT.fld (o' := 0) fl70_0 rfl rfl) rfl <| Seg.op (OpT.ldBlk (i := 2) (v := v6) u66 rfl rfl rfl rfl) rfl ?_
 have hb11 := hv2.le
 refine Seg.op (OpT.len u66 rfl (hv2.mono hl2).sl) rfl <| Seg.makeD (c := cI64) (z := 0) (m := x1.length) u66 ti3 rfl rfl ha4 (rfl) rfl rfl rfl fun v15 xs10 hq11 => Seg.op (OpT.assign rfl) rfl <| Seg.nilT <| Wp.seq <| Wp.sr <| Seg.op (OpT.move rfl) rfl ?_
 refine Seg.rowLe (i := 0) rfl fun hb12 => ?_
 refine Seg.op (OpT.lenRow (i := 0) u66 rfl rfl) rfl <| Seg.op (OpT.move rfl) rfl <| Seg.nilT <| Wp.block <| Wp.loopF (fun m LL HH OO => ∃ (l5 : List Int), ∃ (k4 : Nat), ∃ (v16 : Value), ∃ (xs11 : List Value), [(3, (ptr B2 0)), (4, (.int .i64 (a0.length:Int))), (12, v16), (101, (.int .i64 (((List.replicate x1.length 0 : List Int).length : Nat) : Int))), (102, (.int .i64 (k4:Int)))] = LL ∧ .row v16 3 1 l5.length xs11 :: .row v8 4 1 l2.length xs2 :: .row v7 66 1 l1.length xs1 :: .blk B2 (.cells #[v6, v7, v8, (.slice none 0 0)] 70 (0, 0)) :: O = OO ∧ loopK m (fun p nx => au_complete_b4 fu a0 x1 l1 l2 p.1 p.2 nx) (l5, k4) = some r ∧ LayL cI64 HH l5 xs11) fu ⟨(List.replicate x1.length 0 : List Int), 0, v15, xs10, rfl, rfl, hd, hq11⟩ (Sub.of rfl) ?_
 intro m7 L4 H7 O4 hl7 hI4
 obtain ⟨l5, k4, v16, xs11, rfl, rfl, hd, hq12⟩ := hI4
 replace hd := loopK_some hd; obtain ⟨m8, rfl, hd⟩ := hd
 obtain ⟨nx4, hn4⟩ : ∃ f, f = loopK m8 (fun p nx => au_complete_b4 fu a0 x1 l1 l2 p.1 p.2 nx) := ⟨_, rfl⟩
 rw [← hn4] at hd
 replace hd : au_complete_b4 fu a0 x1 l1 l2 l5 k4 nx4 = some r := hd
 unfold au_complete_b4 at hd
 refine Wp.sr <| Seg.op (OpT.lss rfl rfl) rfl <| Seg.nilT <| Wp.seq ?_
 refine Wp.cond (b := decide ((k4:Int) < (((List.replicate x1.length 0 : List Int).length : Nat) : Int))) rfl (fun hb13 => ?_) (fun hb13 => ?_)
 ·
  replace hd := brT hb13 hd
  replace hb13 := of_decide_eq_true hb13
  refine Wp.skip <| At.then_n <| Wp.seq <| Wp.block <| Wp.sr <| Seg.op (OpT.move rfl) rfl <| Seg.op (OpT.assign rfl) rfl <| Seg.nilT ?_
  obtain ⟨x7, hx7, hd⟩ := bnd_some hd
  have hx7_ := idx_bd hx7
  refine Wp.region <| Seg.op (OpT.move rfl) rfl <| Seg.op (OpT.move rfl) rfl <| Seg.op (OpT.move rfl) rfl ?_
  obtain ⟨_, rfl, hc6, hc6_⟩ := LayL.get hq12 (idx_some hx7).2
  refine Seg.op (OpT.ixRow (j := 0) u66 ti3 rfl rfl rfl (idx_bd hx7)) rfl ?_
  refine Seg.stD (q := 0) (off := 0) (vs := [(.int .i64 (a0.length:Int))]) (y := (a0.length:Int)) (cs := [(.int .i64 x7)]) hq12 hx7 hc6_ rfl rfl rfl ti3 rfl rfl (ones_cons rfl (ones_nil)) rfl (rfl) rfl (fun xs12 hq13 => ?_)
  refine Seg.nil <| At.blk_n <| At.then_n <| Wp.region <| Seg.op (OpT.add rfl rfl (fits64 (by omega))) rfl <| Seg.op (OpT.move rfl) rfl <| Seg.nil ?_
  refine At.nextF (Hp.le.refl _) ⟨(l5.set k4 (a0.length:Int)), (k4 + 1), v16, xs12, rfl, rfl, (by rw [← hn4]; exact hd), hq13⟩ (Sub.of rfl)
 replace hd := brF hb13 hd
 replace hb13 := of_decide_eq_false hb13
 refine Wp.exit <| At.then_x <| At.then_x <| At.blk_hit <| At.then_n <| Wp.seq ?_
 obtain ⟨ha5, hd⟩ := chk_some hd
 refine Wp.region <| Seg.op (OpT.move rfl) rfl <| Seg.op (OpT.move rfl) rfl <| Seg.op (OpT.nilCheck rfl) rfl <| Seg.op (OpT.fld (o' := 1) fl70_1 rfl rfl) rfl <| Seg.op (OpT.ldBlk (i := 3) (v := v7) u58 rfl rfl rfl rfl) rfl <| Seg.op (OpT.move rfl) rfl ?_
 refine Seg.rowLe (i := 0) rfl fun hb14 => ?_
 refine Seg.freeze (i := 0) rfl fun H8 hl8 hs2 => ?_
 have hv5 := SlD.of (c := cI64) hs2 rfl (hq12.mono hl8) hb14
 refine Seg.buildD1 (c := (cL cI64)) (y := l5) (cs := [v16]) u58 ti66 rfl rfl rfl (cellsL hv5.one) (⟨_, rfl, hv5⟩) rfl fun v17 xs13 hq14 => Seg.appD (i := 2) (j := 0) (hq1.mono (hl7.trans hl8)) hq14 u58 ti66 rfl (by decide) rfl rfl rfl rfl (by decide) ha5 rfl fun v18 xs14 hq15 => Seg.drop (i := 0) <| Seg.op (OpT.nilCheck rfl) rfl <| Seg.op (OpT.fld (o' := 1) fl70_1 rfl rfl) rfl <| Seg.rowOne (i := 1) rfl fun ho2 => Seg.stBlk1 (i := 2) rfl rfl ho2 ti58 rfl (Nat.le_of_ble_eq_true rfl) ?_
 refine Seg.own (O := .row v8 4 1 l2.length xs2 :: .row v18 66 1 (l1 ++ ([l5] : List (List Int))).length xs14 :: .blk B2 (.cells #[v6, v18, v8, (.slice none 0 0)] 70 (0, 0)) :: O) ?_ rfl
 refine Seg.nilT <| Wp.seq ?_
 obtain ⟨ha6, hd⟩ := chk_some hd
 refine Wp.region <| Seg.op (OpT.move rfl) rfl <| Seg.op (OpT.move rfl) rfl <| Seg.op (OpT.nilCheck rfl) rfl <| Seg.op (OpT.fld (o' := 2) fl70_2 rfl rfl) rfl <| Seg.op (OpT.ldBlk (i := 2) (v := v8) u68 rfl rfl rfl rfl) rfl <| Seg.buildD1 (c := cB) (y := false) (cs := [(.bool false)]) u68 ti4 rfl rfl rfl rfl (rfl) rfl fun v19 xs15 hq16 => Seg.appD (i := 1) (j := 0) (hq2.mono (hl7.trans hl8)) hq16 u68 ti4 rfl (by decide) rfl rfl rfl rfl (by decide) ha6 rfl fun v20 xs16 hq17 => ?_
 refine Seg.drop (i := 0) <| Seg.op (OpT.nilCheck rfl) rfl <| Seg.op (OpT.fld (o' := 2) fl70_2 rfl rfl) rfl <| Seg.rowOne (i := 0) rfl fun ho3 => Seg.stBlk1 (i := 2) rfl rfl ho3 ti68 rfl (Nat.le_of_ble_eq_true rfl) ?_
 refine Seg.own (O := .row v20 4 1 (l2 ++ ([false] : List Bool)).length xs16 :: .row v18 66 1 (l1 ++ ([l5] : List (List Int))).length xs14 :: .blk B2 (.cells #[v6, v18, v20, (.slice none 0 0)] 70 (0, 0)) :: O) ?_ rfl
 refine Seg.nilT <| Wp.sr <| Seg.op (OpT.move rfl) rfl <| Seg.op (OpT.assign rfl) rfl <| Seg.nilT <| Wp.ret ?_
 refine At.rowLe (i := 1) rfl fun hb15 => ?_
 refine At.freeze (i := 1) rfl fun H9 hl9 hs3 => ?_
 have hv6 := SlD.of (c := (cL cI64)) hs3 rfl (hq15.mono hl9) hb15
 refine At.rowLe (i := 0) rfl fun hb16 => ?_
 refine At.freeze (i := 0) rfl fun H10 hl10 hs4 => ?_
 have hv7 := SlD.of (c := cB) hs4 rfl ((hq17.mono hl9).mono hl10) hb16
 obtain rfl := Option.some.inj hd
 exact At.res1 rfl (RV.tmp (v := (ptr B2 0)) rfl) (fun w hs => ⟨_, _, _, rfl, (((((hl1.trans hl2).trans hl7).trans hl8).trans hl9).trans hl10), (hs.permK [0] 1 rfl rfl rfl), ⟨B2, v6, v18, v20, (.slice none 0 0), rfl, (hv2.mono ((((hl2.trans hl7).trans hl8).trans hl9).trans hl10)), (hv6.mono hl10), hv7, SlD.nil, rfl⟩⟩)

set_option maxRecDepth 100000 in
set_option maxHeartbeats 4000000 in
theorem au_table_live_w {fu : Nat} {a0 : (List Int) × (List (List Int)) × (List Bool) × (List Int)} {v1 v2 v3 v4 : Value} {B0 : Nat} {r : List Bool} (hv1 : SlD cI64 H a0.1 v1) (hv2 : SlD (cL cI64) H a0.2.1 v2) (hv3 : SlD cB H a0.2.2.1 v3) (hv4 : SlD cI64 H a0.2.2.2 v4) (hd : au_table_live fu a0 = some r) :
    Tri Tryd.prog 32 [(ptr B0 0)] H (.blk B0 (.cells #[v1, v2, v3, v4] 70 (0, 0)) :: O) (fun v H' O' => (∃ v5 : Value, v5 = v ∧ SlD cB H' r v5) ∧ .blk B0 (.cells #[v1, v2, v3, v4] 70 (0, 0)) :: O = O') := by
 intro w hs
 refine wp_of Tryd.func32 rfl rfl rfl ?_ hs
 clear hs w
 unfold au_table_live at hd
 refine Wp.sr <| Seg.op (OpT.assign rfl) rfl <| Seg.nilT <| Wp.seq ?_
 obtain ⟨ha1, hd⟩ := chk_some hd
 refine Wp.region <| Seg.op (OpT.move rfl) rfl <| Seg.op (OpT.nilCheck rfl) rfl <| Seg.op (OpT.fld (o' := 1) fl70_1 rfl rfl) rfl <| Seg.op (OpT.ldBlk (i := 0) (v := v2) u58 rfl rfl rfl rfl) rfl ?_
 have hb1 := hv2.le
 refine Seg.op (OpT.len u58 rfl hv2.sl) rfl <| Seg.makeD (c := cB) (z := false) (m := a0.2.1.length) u68 ti4 rfl rfl ha1 (rfl) rfl rfl rfl fun v6 xs1 hq1 => Seg.op (OpT.assign rfl) rfl <| Seg.nilT <| Wp.seq <| Wp.sr <| Seg.op (OpT.assign rfl) rfl <| Seg.nilT ?_
 refine Wp.block <| Wp.loopF (fun m LL HH OO => ∃ (l1 : List Bool), ∃ (b1 : Bool), ∃ (v7 : Value), ∃ (xs2 : List Value), [(0, (ptr B0 0)), (3, v7), (4, (.bool b1))] = LL ∧ .row v7 4 1 l1.length xs2 :: .blk B0 (.cells #[v1, v2, v3, v4] 70 (0, 0)) :: O = OO ∧ loopK m (fun p nx => au_table_live_b1 fu a0 p.1 p.2 nx) (l1, b1) = some r ∧ LayL cB HH l1 xs2) fu ⟨(List.replicate a0.2.1.length false : List Bool), true, v6, xs1, rfl, rfl, hd, hq1⟩ (Sub.of rfl) ?_
 intro m1 L1 H1 O1 hl1 hI1
 obtain ⟨l1, b1, v7, xs2, rfl, rfl, hd, hq2⟩ := hI1
 replace hd := loopK_some hd; obtain ⟨m2, rfl, hd⟩ := hd
 obtain ⟨nx1, hn1⟩ : ∃ f, f = loopK m2 (fun p nx => au_table_live_b1 fu a0 p.1 p.2 nx) := ⟨_, rfl⟩
 rw [← hn1] at hd
 replace hd : au_table_live_b1 fu a0 l1 b1 nx1 = some r := hd
 unfold au_table_live_b1 at hd
 refine Wp.seq <| Wp.sr <| Seg.op (OpT.move rfl) rfl <| Seg.nilT ?_
 refine Wp.cond (b := b1) rfl (fun hb2 => ?_) (fun hb2 => ?_)
 ·
  replace hd := brT hb2 hd
  refine Wp.skip <| At.then_n <| Wp.block <| Wp.sr <| Seg.op (OpT.assign rfl) rfl <| Seg.nilT <| Wp.sr <| Seg.op (OpT.move rfl) rfl ?_
  refine Seg.op (OpT.nilCheck rfl) rfl <| Seg.op (OpT.fld (o' := 1) fl70_1 rfl rfl) rfl <| Seg.op (OpT.ldBlk (i := 1) (v := v2) u58 rfl rfl rfl rfl) rfl ?_
  have hb3 := hv2.le
  refine Seg.op (OpT.len u58 rfl (hv2.mono hl1).sl) rfl <| Seg.op (OpT.move rfl) rfl <| Seg.nilT <| Wp.block <| Wp.loopF (fun m LL HH OO => ∃ (l2 : List Bool), ∃ (b2 : Bool), ∃ (k1 : Nat), ∃ (v8 : Value), ∃ (xs3 : List Value), [(0, (ptr B0 0)), (3, v8), (4, (.bool b2)), (20, (.int .i64 (a0.2.1.length:Int))), (21, (.int .i64 (k1:Int)))] = LL ∧ .row v8 4 1 l2.length xs3 :: .blk B0 (.cells #[v1, v2, v3, v4] 70 (0, 0)) :: O = OO ∧ loopK m (fun p nx => au_table_live_b2 fu a0 nx1 p.1 p.2.1 p.2.2 nx) (l2, b2, k1) = some r ∧ LayL cB HH l2 xs3) fu ⟨l1, false, 0, v7, xs2, rfl, rfl, hd, hq2⟩ (Sub.of rfl) ?_
  intro m3 L2 H2 O2 hl2 hI2
  obtain ⟨l2, b2, k1, v8, xs3, rfl, rfl, hd, hq3⟩ := hI2
  replace hd := loopK_some hd; obtain ⟨m4, rfl, hd⟩ := hd
  obtain ⟨nx2, hn2⟩ : ∃ f, f = loopK m4 (fun p nx => au_table_live_b2 fu a0 nx1 p.1 p.2.1 p.2.2 nx) := ⟨_, rfl⟩
  rw [← hn2] at hd
  replace hd : au_table_live_b2 fu a0 nx1 l2 b2 k1 nx2 = some r := hd
  unfold au_table_live_b2 at hd
  refine Wp.sr <| Seg.op (OpT.lss rfl rfl) rfl <| Seg.nilT <| Wp.seq ?_
  refine Wp.cond (b := decide ((k1:Int) < (a0.2.1.length:Int))) rfl (fun hb4 => ?_) (fun hb4 => ?_)
  ·
   replace hd := brT hb4 hd
   replace hb4 := of_decide_eq_true hb4
   refine Wp.skip <| At.then_n <| Wp.seq <| Wp.block <| Wp.sr <| Seg.op (OpT.move rfl) rfl <| Seg.op (OpT.assign rfl) rfl <| Seg.nilT ?_
   refine Wp.seq ?_
   obtain ⟨x1, hx1, hd⟩ := bnd_some hd
   have hx1_ := idx_bd hx1
   refine Wp.region <| Seg.op (OpT.move rfl) rfl <| Seg.op (OpT.nilCheck rfl) rfl <| Seg.op (OpT.fld (o' := 2) fl70_2 rfl rfl) rfl <| Seg.op (OpT.ldBlk (i := 1) (v := v3) u68 rfl rfl rfl rfl) rfl <| Seg.op (OpT.move rfl) rfl ?_
   obtain ⟨_, rfl, hc1⟩ := SlD.get (hv3.mono (hl1.trans hl2)) hx1
   refine Seg.op (OpT.ixSl u68 ti4 rfl (hv3.mono (hl1.trans hl2)).sl rfl (idx_bd hx1)) rfl <| Seg.op (OpT.ldH u4 rfl rfl (hc1 0 _ rfl)) rfl <| Seg.op (OpT.assign rfl) rfl <| Seg.nilT <| Wp.seq <| Wp.seq ?_
   obtain ⟨x2, hx2, hd⟩ := bnd_some hd
   have hx2_ := idx_bd hx2
   refine Wp.region <| Seg.op (OpT.move rfl) rfl <| Seg.op (OpT.nilCheck rfl) rfl <| Seg.op (OpT.fld (o' := 1) fl70_1 rfl rfl) rfl <| Seg.op (OpT.ldBlk (i := 1) (v := v2) u58 rfl rfl rfl rfl) rfl <| Seg.op (OpT.move rfl) rfl ?_
   obtain ⟨_, ⟨v9, rfl, hv5⟩, hc2⟩ := SlD.get (hv2.mono (hl1.trans hl2)) hx2
   refine Seg.op (OpT.ixSl u58 ti66 rfl (hv2.mono (hl1.trans hl2)).sl rfl (idx_bd hx2)) rfl <| Seg.op (OpT.ldH u66 rfl rfl (hc2 0 _ rfl)) rfl ?_
   have hb5 := hv5.le
   refine Seg.op (OpT.len u66 rfl hv5.sl) rfl <| Seg.op (OpT.move rfl) rfl <| Seg.nilT <| Wp.block <| Wp.loopF (fun m LL HH OO => ∃ (b3 : Bool), ∃ (k2 : Nat), [(0, (ptr B0 0)), (3, v8), (4, (.bool b2)), (5, (.int .i64 (k1:Int))), (6, (.bool b3)), (20, (.int .i64 (a0.2.1.length:Int))), (21, (.int .i64 (k1:Int))), (37, v9), (38, (.int .i64 (x2.length:Int))), (39, (.int .i64 (k2:Int)))] = LL ∧ .row v8 4 1 l2.length xs3 :: .blk B0 (.cells #[v1, v2, v3, v4] 70 (0, 0)) :: O = OO ∧ loopK m (fun p nx => au_table_live_b3 fu a0 l2 b2 k1 nx2 x2 p.1 p.2 nx) (b3, k2) = some r) fu ⟨x1, 0, rfl, rfl, hd⟩ (Sub.of rfl) ?_
   intro m5 L3 H3 O3 hl3 hI3
   obtain ⟨b3, k2, rfl, rfl, hd⟩ := hI3
   replace hd := loopK_some hd; obtain ⟨m6, rfl, hd⟩ := hd
   obtain ⟨nx3, hn3⟩ : ∃ f, f = loopK m6 (fun p nx => au_table_live_b3 fu a0 l2 b2 k1 nx2 x2 p.1 p.2 nx) := ⟨_, rfl⟩
   rw [← hn3] at hd
   replace hd : au_table_live_b3 fu a0 l2 b2 k1 nx2 x2 b3 k2 nx3 = some r := hd
   unfold au_table_live_b3 at hd
   refine Wp.sr <| Seg.op (OpT.lss rfl rfl) rfl <| Seg.nilT <| Wp.seq ?_
   refine Wp.cond (b := decide ((k2:Int) < (x2.length:Int))) rfl (fun hb6 => ?_) (fun hb6 => ?_)
   ·
    replace hd := brT hb6 hd
    replace hb6 := of_decide_eq_true hb6
    refine Wp.skip <| At.then_n <| Wp.seq <| Wp.block <| Wp.seq ?_
    obtain ⟨x3, hx3, hd⟩ := bnd_some hd
    have hx3_ := idx_bd hx3
    refine Wp.region ?_
    obtain ⟨_, rfl, hc3⟩ := SlD.get (hv5.mono hl3) hx3
    refine Seg.op (OpT.ixSl u66 ti3 rfl (hv5.mono hl3).sl rfl (idx_bd hx3)) rfl <| Seg.op (OpT.ldH u3 rfl rfl (hc3 0 _ rfl)) rfl <| Seg.op (OpT.assign rfl) rfl <| Seg.nilT ?_
    rcases Bool.eq_false_or_eq_true (b3) with hg1 | hg1
    ·
     replace hd := brT hg1 hd
     refine Wp.region <| Seg.op (OpT.asB (b := b3) (c := true) (OpT.move rfl) hg1) rfl <| Seg.op (OpT.move rfl) rfl <| Seg.skipG rfl rfl rfl rfl <| Seg.skipG rfl rfl rfl rfl <| Seg.skipG rfl rfl rfl rfl <| Seg.skipG rfl rfl rfl rfl <| Seg.skipG rfl rfl rfl rfl ?_
     refine Seg.skipG rfl rfl rfl rfl <| Seg.skipG rfl rfl rfl rfl <| Seg.skipG rfl rfl rfl rfl <| Seg.skipG rfl rfl rfl rfl <| Seg.skipG rfl rfl rfl rfl <| Seg.op (OpT.pickT rfl rfl) rfl <| Seg.op (OpT.assign rfl) rfl <| Seg.nil ?_
     refine At.blk_n <| At.then_n <| Wp.region <| Seg.op (OpT.add rfl rfl (fits64 (by omega))) rfl <| Seg.op (OpT.move rfl) rfl <| Seg.nil ?_
     refine At.nextF (Hp.le.refl _) ⟨true, (k2 + 1), rfl, rfl, (by rw [← hn3]; exact hd)⟩ (Sub.of rfl)
    replace hd := brF hg1 hd
    obtain ⟨x4, hx4, hd⟩ := bnd_some hd
    have hx4_ := idx_bd hx4
    obtain ⟨x5, hx5, hd⟩ := bnd_some hd
    have hx5_ := idx_bd hx5
    refine Wp.region <| Seg.op (OpT.asB (b := b3) (c := false) (OpT.move rfl) hg1) rfl <| Seg.op (OpT.move rfl) rfl <| Seg.opG rfl rfl (OpT.move rfl) rfl <| Seg.opG rfl rfl (OpT.move rfl) rfl <| Seg.opG rfl rfl (OpT.nilCheck rfl) rfl <| Seg.opG rfl rfl (OpT.fld (o' := 3) fl70_3 rfl rfl) rfl <| Seg.opG rfl rfl (OpT.ldBlk (i := 1) (v := v4) u66 rfl rfl rfl rfl) rfl ?_
    refine Seg.opG rfl rfl (OpT.move rfl) rfl ?_
    obtain ⟨_, rfl, hc4⟩ := SlD.get (hv4.mono ((hl1.trans hl2).trans hl3)) hx4
    refine Seg.opG rfl rfl (OpT.ixSl u66 ti3 rfl (hv4.mono ((hl1.trans hl2).trans hl3)).sl rfl (idx_bd hx4)) rfl <| Seg.opG rfl rfl (OpT.ldH u3 rfl rfl (hc4 0 _ rfl)) rfl ?_
    obtain ⟨_, rfl, hc5, hc5_⟩ := LayL.get (hq3.mono hl3) (idx_some hx5).2
    refine Seg.opG rfl rfl (OpT.ixRow (j := 0) u68 ti4 rfl rfl rfl (idx_bd hx5)) rfl <| Seg.opG rfl rfl (OpT.ldRow (i := 0) (k := x4.toNat * 1 + 0) u4 rfl rfl rfl (hc5 0 _ rfl)) rfl <| Seg.op (OpT.pickF rfl rfl) rfl <| Seg.op (OpT.assign rfl) rfl <| Seg.nil <| At.blk_n <| At.then_n <| Wp.region ?_
    refine Seg.op (OpT.add rfl rfl (fits64 (by omega))) rfl <| Seg.op (OpT.move rfl) rfl <| Seg.nil ?_
    refine At.nextF (Hp.le.refl _) ⟨x5, (k2 + 1), rfl, rfl, (by rw [← hn3]; exact hd)⟩ (Sub.of rfl)
   replace hd := brF hb6 hd
   replace hb6 := of_decide_eq_false hb6
   refine Wp.exit <| At.then_x <| At.then_x <| At.blk_hit <| At.then_n <| Wp.seq ?_
   rcases Bool.eq_false_or_eq_true (b3) with hg2 | hg2
   ·
    replace hd := brT hg2 hd
    obtain ⟨x6, hx6, hd⟩ := bnd_some hd
    have hx6_ := idx_bd hx6
    obtain ⟨x7, hx7, hd⟩ := bnd_some hd
    have hx7_ := idx_bd hx7
    refine Wp.region <| Seg.op (OpT.asB (b := b3) (c := true) (OpT.move rfl) hg2) rfl <| Seg.op (OpT.move rfl) rfl <| Seg.opG rfl rfl (OpT.move rfl) rfl <| Seg.opG rfl rfl (OpT.move rfl) rfl <| Seg.opG rfl rfl (OpT.nilCheck rfl) rfl <| Seg.opG rfl rfl (OpT.fld (o' := 3) fl70_3 rfl rfl) rfl <| Seg.opG rfl rfl (OpT.ldBlk (i := 1) (v := v4) u66 rfl rfl rfl rfl) rfl ?_
    refine Seg.opG rfl rfl (OpT.move rfl) rfl ?_
    obtain ⟨_, rfl, hc6⟩ := SlD.get (hv4.mono ((hl1.trans hl2).trans hl3)) hx6
    refine Seg.opG rfl rfl (OpT.ixSl u66 ti3 rfl (hv4.mono ((hl1.trans hl2).trans hl3)).sl rfl (idx_bd hx6)) rfl <| Seg.opG rfl rfl (OpT.ldH u3 rfl rfl (hc6 0 _ rfl)) rfl ?_
    obtain ⟨_, rfl, hc7, hc7_⟩ := LayL.get (hq3.mono hl3) (idx_some hx7).2
    refine Seg.opG rfl rfl (OpT.ixRow (j := 0) u68 ti4 rfl rfl rfl (idx_bd hx7)) rfl <| Seg.opG rfl rfl (OpT.ldRow (i := 0) (k := x6.toNat * 1 + 0) u4 rfl rfl rfl (hc7 0 _ rfl)) rfl <| Seg.opG rfl rfl (OpT.not rfl) rfl <| Seg.op (OpT.pickT rfl rfl) rfl <| Seg.nilT ?_
    refine Wp.cond (b := !x7) rfl (fun hb7 => ?_) (fun hb7 => ?_)
    ·
     replace hd := brT hb7 hd
     refine Wp.seq ?_
     obtain ⟨x8, hx8, hd⟩ := bnd_some hd
     have hx8_ := idx_bd hx8
     obtain ⟨x9, hx9, hd⟩ := bnd_some hd
     have hx9_ := idx_bd hx9
     refine Wp.region <| Seg.op (OpT.move rfl) rfl <| Seg.op (OpT.move rfl) rfl <| Seg.op (OpT.nilCheck rfl) rfl <| Seg.op (OpT.fld (o' := 3) fl70_3 rfl rfl) rfl <| Seg.op (OpT.ldBlk (i := 1) (v := v4) u66 rfl rfl rfl rfl) rfl <| Seg.op (OpT.move rfl) rfl ?_
     obtain ⟨_, rfl, hc8⟩ := SlD.get (hv4.mono ((hl1.trans hl2).trans hl3)) hx8
     refine Seg.op (OpT.ixSl u66 ti3 rfl (hv4.mono ((hl1.trans hl2).trans hl3)).sl rfl (idx_bd hx8)) rfl <| Seg.op (OpT.ldH u3 rfl rfl (hc8 0 _ rfl)) rfl ?_
     obtain ⟨_, rfl, hc9, hc9_⟩ := LayL.get (hq3.mono hl3) (idx_some hx9).2
     refine Seg.op (OpT.ixRow (j := 0) u68 ti4 rfl rfl rfl (idx_bd hx9)) rfl ?_
     refine Seg.stD (q := 0) (off := 0) (vs := [(.bool true)]) (y := true) (cs := [(.bool x9)]) (hq3.mono hl3) hx9 hc9_ rfl rfl rfl ti4 rfl rfl (ones_cons rfl (ones_nil)) rfl (rfl) rfl (fun xs4 hq4 => ?_)
     refine Seg.nilT <| Wp.region <| Seg.op (OpT.assign rfl) rfl <| Seg.nil <| At.blk_n <| At.then_n <| Wp.region <| Seg.op (OpT.add rfl rfl (fits64 (by omega))) rfl ?_
     refine Seg.op (OpT.move rfl) rfl <| Seg.nil ?_
     refine At.nextF hl3 ⟨(l2.set x8.toNat true), true, (k1 + 1), v8, xs4, rfl, rfl, (by rw [← hn2]; exact hd), hq4⟩ (Sub.of rfl)
    replace hd := brF hb7 hd
    refine Wp.skip <| At.blk_n <| At.then_n <| Wp.region <| Seg.op (OpT.add rfl rfl (fits64 (by omega))) rfl <| Seg.op (OpT.move rfl) rfl <| Seg.nil ?_
    refine At.nextF hl3 ⟨l2, b2, (k1 + 1), v8, xs3, rfl, rfl, (by rw [← hn2]; exact hd), (hq3.mono hl3)⟩ (Sub.of rfl)
   replace hd := brF hg2 hd
   refine Wp.region <| Seg.op (OpT.asB (b := b3) (c := false) (OpT.move rfl) hg2) rfl <| Seg.op (OpT.move rfl) rfl <| Seg.skipG rfl rfl rfl rfl <| Seg.skipG rfl rfl rfl rfl <| Seg.skipG rfl rfl rfl rfl <| Seg.skipG rfl rfl rfl rfl <| Seg.skipG rfl rfl rfl rfl ?_
   refine Seg.skipG rfl rfl rfl rfl <| Seg.skipG rfl rfl rfl rfl <| Seg.skipG rfl rfl rfl rfl <| Seg.skipG rfl rfl rfl rfl <| Seg.skipG rfl rfl rfl rfl <| Seg.skipG rfl rfl rfl rfl <| Seg.op (OpT.pickF rfl rfl) rfl <| Seg.nilT ?_
   refine Wp.condF rfl <| Wp.skip <| At.blk_n <| At.then_n <| Wp.region <| Seg.op (OpT.add rfl rfl (fits64 (by omega))) rfl <| Seg.op (OpT.move rfl) rfl <| Seg.nil ?_
   refine At.nextF hl3 ⟨l2, b2, (k1 + 1), v8, xs3, rfl, rfl, (by rw [← hn2]; exact hd), (hq3.mono hl3)⟩ (Sub.of rfl)
  replace hd := brF hb4 hd
  replace hb4 := of_decide_eq_false hb4
  refine Wp.exit <| At.then_x <| At.then_x <| At.blk_hit <| At.blk_n ?_
  refine At.nextF hl2 ⟨l2, b2, v8, xs3, rfl, rfl, (by rw [← hn1]; exact hd), hq3⟩ (Sub.of rfl)
 replace hd := brF hb2 hd
 refine Wp.exit <| At.then_x <| At.then_x <| At.blk_hit <| At.then_n <| Wp.sr <| Seg.op (OpT.move rfl) rfl <| Seg.op (OpT.assign rfl) rfl ?_
 refine Seg.nilT <| Wp.ret ?_
 refine At.rowLe (i := 0) rfl fun hb8 => ?_
 refine At.freeze (i := 0) rfl fun H4 hl4 hs1 => ?_
 have hv6 := SlD.of (c := cB) hs1 rfl (hq2.mono hl4) hb8
 obtain rfl := Option.some.inj hd
 exact At.res1 rfl (RV.tmp (v := v7) rfl) (fun w hs => ⟨_, _, _, rfl, (hl1.trans hl4), (hs.permK [0] 1 rfl rfl rfl), ⟨⟨v7, rfl, hv6⟩, rfl⟩⟩)

set_option maxRecDepth 100000 in
set_option maxHeartbeats 4000000 in
theorem au_table_end_w {fu : Nat} {a0 : (List Int) × (List (List Int)) × (List Bool) × (List Int)} {a1 : Int} {v1 v2 v3 v4 : Value} {B0 : Nat} {r : Int} (hv1 : SlD cI64 H a0.1 v1) (hv2 : SlD (cL cI64) H a0.2.1 v2) (hv3 : SlD cB H a0.2.2.1 v3) (hv4 : SlD cI64 H a0.2.2.2 v4) (hd : au_table_end fu a0 a1 = some r) :
    TriV Tryd.prog 33 [(ptr B0 0), (.int .i64 a1)] H (.blk B0 (.cells #[v1, v2, v3, v4] 70 (0, 0)) :: O) (.int .u8 r) := by
 intro w hs
 refine wp_of Tryd.func33 rfl rfl rfl ?_ hs
 clear hs w
 unfold au_table_end at hd
 refine Wp.sr <| Seg.op (OpT.assign rfl) rfl <| Seg.nilT <| Wp.seq <| Wp.seq ?_
 obtain ⟨ha1, hd⟩ := chk_some hd
 refine Wp.region <| Seg.op (OpT.move rfl) rfl <| Seg.op (OpT.add rfl rfl (fits64 ha1)) rfl <| Seg.op (OpT.move rfl) rfl <| Seg.op (OpT.nilCheck rfl) rfl <| Seg.op (OpT.fld (o' := 0) fl70_0 rfl rfl) rfl <| Seg.op (OpT.ldBlk (i := 0) (v := v1) u66 rfl rfl rfl rfl) rfl ?_
 have hb1 := hv1.le
 refine Seg.op (OpT.len u66 rfl hv1.sl) rfl <| Seg.op (OpT.lss rfl rfl) rfl <| Seg.nilT ?_
 refine Wp.cond (b := decide ((a1 + 1) < (a0.1.length:Int))) rfl (fun hb2 => ?_) (fun hb2 => ?_)
 ·
  replace hd := brT hb2 hd
  replace hb2 := of_decide_eq_true hb2
  refine Wp.seq ?_
  obtain ⟨ha2, hd⟩ := chk_some hd
  obtain ⟨x1, hx1, hd⟩ := bnd_some hd
  have hx1_ := idx_bd hx1
  obtain ⟨ha3, hd⟩ := chk_some hd
  obtain ⟨ha4, hd⟩ := chk_some hd
  have := ha4
  refine Wp.region <| Seg.op (OpT.move rfl) rfl <| Seg.op (OpT.nilCheck rfl) rfl <| Seg.op (OpT.fld (o' := 0) fl70_0 rfl rfl) rfl <| Seg.op (OpT.ldBlk (i := 0) (v := v1) u66 rfl rfl rfl rfl) rfl <| Seg.op (OpT.move rfl) rfl <| Seg.op (OpT.add rfl rfl (fits64 ha2)) rfl ?_
  obtain ⟨_, rfl, hc1⟩ := SlD.get hv1 hx1
  refine Seg.op (OpT.ixSl u66 ti3 rfl hv1.sl rfl (idx_bd hx1)) rfl <| Seg.op (OpT.ldH u3 rfl rfl (hc1 0 _ rfl)) rfl <| Seg.op (OpT.sub rfl rfl (fits64 ha3)) rfl <| Seg.op (OpT.conv u3 u5 rfl (fitsU8 ha4)) rfl <| Seg.op (OpT.assign rfl) rfl <| Seg.nilT <| Wp.ret <| At.then_r ?_
  obtain rfl := Option.some.inj hd
  exact At.res1 rfl (RV.tmp (v := (.int .u8 (x1 - 1))) rfl) (fun w hs => ⟨rfl, (hs.permK [0] 1 rfl rfl rfl).weaken (Hp.le.refl _)⟩)
 replace hd := brF hb2 hd
 replace hb2 := of_decide_eq_false hb2
 refine Wp.skip <| At.then_n <| Wp.sr <| Seg.op (OpT.assign rfl) rfl <| Seg.nilT <| Wp.ret ?_
 obtain rfl := Option.some.inj hd
 exact At.res1 rfl (RV.tmp (v := (.int .u8 255)) rfl) (fun w hs => ⟨rfl, (hs.permK [0] 1 rfl rfl rfl).weaken (Hp.le.refl _)⟩)

set_option maxRecDepth 100000 in
set_option maxHeartbeats 4000000 in
theorem au_table_canonical_w {fu : Nat} {a0 : (List Int) × (List (List Int)) × (List Bool) × (List Int)} {v1 v2 v3 v4 : Value} {B0 : Nat} {r : List (Bool × (List (Int × Int × Int)))} (hv1 : SlD cI64 H a0.1 v1) (hv2 : SlD (cL cI64) H a0.2.1 v2) (hv3 : SlD cB H a0.2.2.1 v3) (hv4 : SlD cI64 H a0.2.2.2 v4) (hd : au_table_canonical fu a0 = some r) :
    Tri Tryd.prog 21 [(ptr B0 0)] H (.blk B0 (.cells #[v1, v2, v3, v4] 70 (0, 0)) :: O) (fun v H' O' => (∃ v5 : Value, (.agg #[v5]) = v ∧ SlD (cP cB (cL (cP cU8 (cP cU8 cI64)))) H' r v5) ∧ .blk B0 (.cells #[v1, v2, v3, v4] 70 (0, 0)) :: O = O') := by
 intro w hs
 refine wp_of Tryd.func21 rfl rfl rfl ?_ hs
 clear hs w
 unfold au_table_canonical at hd
 refine Wp.sr <| Seg.alloc (cs := #[(.slice none 0 0)]) ti32 rfl rfl fun B2 => Seg.nilT <| Wp.seq ?_
 obtain ⟨x1, hx1, hd⟩ := bnd_some hd
 refine Wp.region <| Seg.op (OpT.move rfl) rfl <| Seg.opS (OpS.call ent32 rfl (Tri.atR 1 rfl (au_table_live_w hv1 hv2 hv3 hv4 hx1))) rfl ?_
 rintro _ H1 _ hl1 ⟨⟨v6, rfl, hv5⟩, rfl⟩
 refine Seg.op (OpT.assign rfl) rfl <| Seg.nilT <| Wp.seq <| Wp.seq ?_
 obtain ⟨x2, hx2, hd⟩ := bnd_some hd
 have hx2_ := idx_bd hx2
 obtain ⟨x3, hx3, hd⟩ := bnd_some hd
 have hx3_ := idx_bd hx3
 refine Wp.region <| Seg.op (OpT.move rfl) rfl <| Seg.op (OpT.move rfl) rfl <| Seg.op (OpT.nilCheck rfl) rfl <| Seg.op (OpT.fld (o' := 3) fl70_3 rfl rfl) rfl <| Seg.op (OpT.ldBlk (i := 1) (v := v4) u66 rfl rfl rfl rfl) rfl ?_
 obtain ⟨_, rfl, hc1⟩ := SlD.get (hv4.mono hl1) hx2
 refine Seg.op (OpT.ixSl u66 ti3 rfl (hv4.mono hl1).sl rfl (idx_bd hx2)) rfl <| Seg.op (OpT.ldH u3 rfl rfl (hc1 0 _ rfl)) rfl ?_
 obtain ⟨_, rfl, hc2⟩ := SlD.get hv5 hx3
 refine Seg.op (OpT.ixSl u68 ti4 rfl hv5.sl rfl (idx_bd hx3)) rfl <| Seg.op (OpT.ldH u4 rfl rfl (hc2 0 _ rfl)) rfl <| Seg.op (OpT.not rfl) rfl <| Seg.nilT ?_
 refine Wp.cond (b := !x3) rfl (fun hb1 => ?_) (fun hb1 => ?_)
 ·
  replace hd := brT hb1 hd
  refine Wp.sr <| Seg.op (OpT.buildS (vs := []) (cs := #[(.slice none 0 0)]) plf32 ti32 rfl rfl (vc_nil) rfl) rfl <| Seg.stBlkW (i := 0) (cs' := #[(.slice none 0 0)]) rfl rfl ti32 rfl rfl (onesA (ones_cons rfl (ones_nil))) rfl ?_
  refine Seg.own (O := .blk B2 (.cells #[(.slice none 0 0)] 32 (0, 0)) :: .blk B0 (.cells #[v1, v2, v3, v4] 70 (0, 0)) :: O) ?_ rfl
  refine Seg.nilT <| Wp.ret <| At.then_r ?_
  obtain rfl := Option.some.inj hd
  exact At.res1 rfl (RV.cellA (i := 0) rfl u32 rfl ti32 rfl rfl) (fun w hs => ⟨_, _, _, rfl, hl1, (hs.permK [1] 2 rfl rfl rfl), ⟨⟨(.slice none 0 0), rfl, SlD.nil⟩, rfl⟩⟩)
 replace hd := brF hb1 hd
 refine Wp.skip <| At.then_n <| Wp.sr <| Seg.buildD1 (c := cI64) (y := 0) (cs := [(.int .i64 0)]) u66 ti3 rfl rfl rfl rfl (rfl) rfl fun v7 xs1 hq1 => Seg.op (OpT.assign rfl) rfl <| Seg.nilT <| Wp.seq ?_
 obtain ⟨x4, hx4, hd⟩ := bnd_some hd
 have hx4_ := idx_bd hx4
 obtain ⟨ha1, hd⟩ := chk_some hd
 obtain ⟨ha2, hd⟩ := chk_some hd
 refine Wp.region <| Seg.makeMap (mkI u3) (meI u3) rfl fun B3 => Seg.op (OpT.move rfl) rfl <| Seg.op (OpT.nilCheck rfl) rfl <| Seg.op (OpT.fld (o' := 3) fl70_3 rfl rfl) rfl <| Seg.op (OpT.ldBlk (i := 3) (v := v4) u66 rfl rfl rfl rfl) rfl ?_
 obtain ⟨_, rfl, hc3⟩ := SlD.get (hv4.mono hl1) hx4
 refine Seg.op (OpT.ixSl u66 ti3 rfl (hv4.mono hl1).sl rfl (idx_bd hx4)) rfl <| Seg.op (OpT.ldH u3 rfl rfl (hc3 0 _ rfl)) rfl <| Seg.insert (K := (mkI u3)) (M := (meI u3)) (k := x4) (v := 0) 0 u75 rfl rfl rfl ha1 (show F64 0 by decide) ha2 rfl <| Seg.op (OpT.move rfl) rfl <| Seg.op (OpT.assign rfl) rfl <| Seg.nilT <| Wp.sr <| Seg.alloc (cs := #[(.slice none 0 0)]) ti32 rfl rfl fun B4 => ?_
 refine Seg.nilT <| Wp.seq <| Wp.sr <| Seg.op (OpT.assign rfl) rfl <| Seg.nilT <| Wp.block <| Wp.nilRow 30 2 <| Wp.loopF (fun m LL HH OO => ∃ (l1 : List Int), ∃ (l2 : List (Bool × (List (Int × Int × Int)))), ∃ (m1 : List (Int × Int)), ∃ (k1 : Nat), ∃ (v8 : Value), ∃ (xs2 : List Value), ∃ (v9 : Value), ∃ (xs3 : List Value), [(0, (ptr B0 0)), (2, (ptr B2 0)), (3, v6), (4, v8), (5, (.map (some B3))), (6, (ptr B4 0)), (7, (.int .i64 (k1:Int)))] = LL ∧ .row v9 30 2 l2.length xs3 :: .blk B4 (.cells #[v9] 32 (0, 0)) :: mapR (mkI u3) (meI u3) B3 m1 :: .row v8 3 1 l1.length xs2 :: .blk B2 (.cells #[(.slice none 0 0)] 32 (0, 0)) :: .blk B0 (.cells #[v1, v2, v3, v4] 70 (0, 0)) :: O = OO ∧ loopK m (fun p nx => au_table_canonical_b7 fu a0 x1 p.1 p.2.1 p.2.2.1 p.2.2.2 nx) (l1, l2, m1, k1) = some r ∧ LayL cI64 HH l1 xs2 ∧ LayL (cP cB (cL (cP cU8 (cP cU8 cI64)))) HH l2 xs3) fu ⟨([0] : List Int), ([] : List (Bool × (List (Int × Int × Int)))), (fmPut ([] : List (Int × Int)) x4 0), 0, v7, xs1, (.slice none 0 0), [], rfl, rfl, hd, hq1, (LayL.nil (c := (cP cB (cL (cP cU8 (cP cU8 cI64))))) (H := H1))⟩ (Sub.of rfl) ?_
 intro m2 L1 H2 O1 hl2 hI1
 obtain ⟨l1, l2, m1, k1, v8, xs2, v9, xs3, rfl, rfl, hd, hq2, hq3⟩ := hI1
 replace hd := loopK_some hd; obtain ⟨m3, rfl, hd⟩ := hd
 obtain ⟨nx1, hn1⟩ : ∃ f, f = loopK m3 (fun p nx => au_table_canonical_b7 fu a0 x1 p.1 p.2.1 p.2.2.1 p.2.2.2 nx) := ⟨_, rfl⟩
 rw [← hn1] at hd
 replace hd : au_table_canonical_b7 fu a0 x1 l1 l2 m1 k1 nx1 = some r := hd
 unfold au_table_canonical_b7 at hd
 refine Wp.seq <| Wp.sr <| Seg.op (OpT.move rfl) rfl <| Seg.op (OpT.move rfl) rfl ?_
 refine Seg.rowLe (i := 3) rfl fun hb2 => ?_
 refine Seg.op (OpT.lenRow (i := 3) u66 rfl rfl) rfl <| Seg.op (OpT.lss rfl rfl) rfl <| Seg.nilT ?_
 refine Wp.cond (b := decide ((k1:Int) < (l1.length:Int))) rfl (fun hb3 => ?_) (fun hb3 => ?_)
 ·
  replace hd := brT hb3 hd
  replace hb3 := of_decide_eq_true hb3
  refine Wp.skip <| At.then_n <| Wp.seq <| Wp.block <| Wp.seq ?_
  obtain ⟨x5, hx5, hd⟩ := bnd_some hd
  have hx5_ := idx_bd hx5
  obtain ⟨x6, hx6, hd⟩ := bnd_some hd
  have hx6_ := idx_bd hx6
  obtain ⟨_, rfl, hc4, hc4_⟩ := LayL.get hq2 (idx_some hx5).2
  obtain ⟨_, rfl, hc5⟩ := SlD.get (hv3.mono (hl1.trans hl2)) hx6
  refine Wp.emp <| SegO.runK 7 [an0, an0, an0, ⟨[6], [], []⟩, an0, an0, ⟨[4], [], []⟩, ⟨[4], [], []⟩, an0, an0, an0, ⟨[0], [0], [11]⟩, ⟨[0], [0], [11]⟩] follows rfl (by kernel_rfl) <| SegO.op (val := fun p1 => (ptr B0 0)) rfl rfl (fun _ => rfl) (fun _ p1 _ hx hf hy => OpT.move rfl) rfl <| SegO.op (val := fun p1 => (ptr B0 0)) rfl rfl (fun _ => rfl) (fun _ p1 _ hx hf hy => OpT.nilCheck rfl) rfl <| SegO.op (val := fun p1 => (ptr B0 2)) rfl rfl (fun _ => rfl) (fun _ p1 _ hx hf hy => OpT.fld (o' := 2) fl70_2 rfl rfl) rfl <| SegO.op (val := fun p1 => v3) rfl rfl (fun _ => rfl) (fun _ p1 _ hx hf hy => OpT.ldBlk (i := 6) (v := v3) u68 rfl rfl (hy 6 _ rfl rfl) rfl) rfl <| SegO.op (val := fun p1 => v8) rfl rfl (fun _ => rfl) (fun _ p1 _ hx hf hy => OpT.move rfl) rfl <| SegO.op (val := fun p1 => (.int .i64 (k1:Int))) rfl rfl (fun _ => rfl) (fun _ p1 _ hx hf hy => OpT.move rfl) rfl ?_
  refine SegO.op (val := fun p1 => (elemPtr v8 (k1 * 1))) rfl rfl (fun _ => rfl) (fun _ p1 _ hx hf hy => OpT.ixRow (j := 4) u66 ti3 rfl (hy 4 _ rfl rfl) rfl (idx_bd hx5)) rfl <| SegO.op (val := fun p1 => (.int .i64 x5)) rfl rfl (fun _ => rfl) (fun _ p1 _ hx hf hy => OpT.ldRow (i := 4) (k := k1 * 1 + 0) u3 rfl rfl (hy 4 _ rfl rfl) (hc4 0 _ rfl)) rfl <| SegO.op (val := fun p1 => (elemPtr v3 (x5.toNat * 1))) rfl rfl (fun _ => rfl) (fun _ p1 _ hx hf hy => OpT.ixSl u68 ti4 rfl (hv3.mono ((hl1.trans hl2).trans hx)).sl rfl (idx_bd hx6)) rfl <| SegO.op (val := fun p1 => (.bool x6)) rfl rfl (fun _ => rfl) (fun _ p1 _ hx hf hy => OpT.ldH u4 rfl rfl ((hc5 0 _ rfl).mono hx)) rfl <| SegO.op (val := fun p1 => (.agg #[(.bool x6), (.slice none 0 0)])) rfl rfl (fun _ => rfl) (fun _ p1 _ hx hf hy => OpT.buildS (vs := [(0, (.bool x6))]) (cs := #[(.bool x6), (.slice none 0 0)]) plf30 ti30 rfl rfl (vc_cons rfl (vc_nil)) rfl) rfl <| SegO.op1 (val := fun p1 => ptr (blkOf (p1 11)) 0) (res := fun p1 => .blk (blkOf (p1 11)) (.cells #[(.bool false), (.slice none 0 0)] 30 (0, 0))) 0 rfl rfl (fun _ => rfl) (fun _ => rfl) (fun _ p1 _ hx hf hy => OpS.allocR 0 ti30 rfl (hy 0 _ rfl rfl)) rfl <| SegO.op1n (res := fun p1 => .blk (blkOf (p1 11)) (.cells #[(.bool x6), (.slice none 0 0)] 30 (0, 0))) 0 rfl rfl rfl (fun _ => rfl) (fun _ p1 _ hx hf hy => OpS.stR (vs := [(.bool x6), (.slice none 0 0)]) rfl rfl rfl ti30 rfl (ones_cons rfl (ones_cons rfl (ones_nil))) (hy 0 _ rfl rfl) rfl rfl) <| SegO.done fun H3 p1 hl3 hF1 => ?_
  refine At.sub (L' := [(0, (ptr B0 0)), (2, (ptr B2 0)), (3, v6), (4, v8), (5, (.map (some B3))), (6, (ptr B4 0)), (7, (.int .i64 (k1:Int))), (8, (ptr (blkOf (p1 11)) 0))]) (Sub.of rfl) ?_
  refine At.own (O := .blk (blkOf (p1 11)) (.cells #[(.bool x6), (.slice none 0 0)] 30 (0, 0)) :: .row v9 30 2 l2.length xs3 :: .blk B4 (.cells #[v9] 32 (0, 0)) :: mapR (mkI u3) (meI u3) B3 m1 :: .row v8 3 1 l1.length xs2 :: .blk B2 (.cells #[(.slice none 0 0)] 32 (0, 0)) :: .blk B0 (.cells #[v1, v2, v3, v4] 70 (0, 0)) :: O) ?_ (by first | rfl | (simp only [List.length_append, List.length_set]; rfl) | simp)
  refine At.then_n <| Wp.seq <| Wp.seq ?_
  obtain ⟨x7, hx7, hd⟩ := bnd_some hd
  have hx7_ := idx_bd hx7
  obtain ⟨x8, hx8, hd⟩ := bnd_some hd
  have hx8_ := idx_bd hx8
  obtain ⟨_, rfl, hc6, hc6_⟩ := LayL.get (hq2.mono hl3) (idx_some hx7).2
  obtain ⟨_, ⟨v10, rfl, hv6⟩, hc7⟩ := SlD.get (hv2.mono ((hl1.trans hl2).trans hl3)) hx8
  have hb4 := hv6.le
  refine Wp.drawE 12 follows rfl (by kernel_rfl) <| SegL.opE (OpT.move rfl) rfl <| SegL.opE (OpT.nilCheck rfl) rfl <| SegL.opE (OpT.fld (o' := 1) fl70_1 rfl rfl) rfl <| SegL.opE (OpT.ldBlk (i := 6) (v := v2) u58 rfl rfl rfl rfl) rfl <| SegL.opE (OpT.move rfl) rfl <| SegL.opE (OpT.move rfl) rfl <| SegL.opE (OpT.ixRow (j := 4) u66 ti3 rfl rfl rfl (idx_bd hx7)) rfl ?_
  refine SegL.opE (OpT.ldRow (i := 4) (k := k1 * 1 + 0) u3 rfl rfl rfl (hc6 0 _ rfl)) rfl <| SegL.opE (OpT.ixSl u58 ti66 rfl (hv2.mono ((hl1.trans hl2).trans hl3)).sl rfl (idx_bd hx8)) rfl <| SegL.opE (OpT.ldH u66 rfl rfl (hc7 0 _ rfl)) rfl <| SegL.opE (OpT.len u66 rfl hv6.sl) rfl <| SegL.opE (OpT.move rfl) rfl <| SegL.doneE <| EndL.is (t := 0) rfl <| EndL.is (t := 2) rfl ?_
  refine EndL.is (t := 3) rfl <| EndL.is (t := 4) rfl <| EndL.is (t := 5) rfl <| EndL.is (t := 6) rfl <| EndL.is (t := 7) rfl <| EndL.is (t := 8) rfl <| EndL.is (t := 63) rfl <| EndL.is (t := 64) rfl ?_
  refine EndL.is (t := 65) rfl <| EndL.seg <| Seg.nilT <| Wp.block <| Wp.nilRow 27 3 <| Wp.loopF (fun m LL HH OO => ∃ (l3 : List Int), ∃ (l4 : List (Int × Int × Int)), ∃ (m4 : List (Int × Int)), ∃ (k2 : Nat), ∃ (v11 : Value), ∃ (xs4 : List Value), ∃ (v12 : Value), ∃ (xs5 : List Value), [(0, (ptr B0 0)), (2, (ptr B2 0)), (3, v6), (4, v11), (5, (.map (some B3))), (6, (ptr B4 0)), (7, (.int .i64 (k1:Int))), (8, (ptr (blkOf (p1 11)) 0)), (63, v10), (64, (.int .i64 (x8.length:Int))), (65, (.int .i64 (k2:Int)))] = LL ∧ .row v12 27 3 l4.length xs5 :: .blk (blkOf (p1 11)) (.cells #[(.bool x6), v12] 30 (0, 0)) :: .row v9 30 2 l2.length xs3 :: .blk B4 (.cells #[v9] 32 (0, 0)) :: mapR (mkI u3) (meI u3) B3 m4 :: .row v11 3 1 l3.length xs4 :: .blk B2 (.cells #[(.slice none 0 0)] 32 (0, 0)) :: .blk B0 (.cells #[v1, v2, v3, v4] 70 (0, 0)) :: O = OO ∧ loopK m (fun p nx => au_table_canonical_b10 fu a0 x1 l2 k1 nx1 x6 x8 p.1 p.2.1 p.2.2.1 p.2.2.2 nx) (l3, l4, m4, k2) = some r ∧ LayL cI64 HH l3 xs4 ∧ LayL (cP cU8 (cP cU8 cI64)) HH l4 xs5) fu ⟨l1, ([] : List (Int × Int × Int)), m1, 0, v8, xs2, (.slice none 0 0), [], rfl, rfl, hd, (hq2.mono hl3), (LayL.nil (c := (cP cU8 (cP cU8 cI64))) (H := H3))⟩ (Sub.of rfl) ?_
  intro m5 L2 H4 O2 hl4 hI2
  obtain ⟨l3, l4, m4, k2, v11, xs4, v12, xs5, rfl, rfl, hd, hq4, hq5⟩ := hI2
  replace hd := loopK_some hd; obtain ⟨m6, rfl, hd⟩ := hd
  obtain ⟨nx2, hn2⟩ : ∃ f, f = loopK m6 (fun p nx => au_table_canonical_b10 fu a0 x1 l2 k1 nx1 x6 x8 p.1 p.2.1 p.2.2.1 p.2.2.2 nx) := ⟨_, rfl⟩
  rw [← hn2] at hd
  replace hd : au_table_canonical_b10 fu a0 x1 l2 k1 nx1 x6 x8 l3 l4 m4 k2 nx2 = some r := hd
  unfold au_table_canonical_b10 at hd
  refine Wp.sr <| Seg.op (OpT.lss rfl rfl) rfl <| Seg.nilT <| Wp.seq ?_
  refine Wp.cond (b := decide ((k2:Int) < (x8.length:Int))) rfl (fun hb5 => ?_) (fun hb5 => ?_)
  ·
   replace hd := brT hb5 hd
   replace hb5 := of_decide_eq_true hb5
   refine Wp.skip <| At.then_n <| Wp.seq <| Wp.block <| Wp.seq ?_
   obtain ⟨x9, hx9, hd⟩ := bnd_some hd
   have hx9_ := idx_bd hx9
   refine Wp.region <| Seg.op (OpT.move rfl) rfl ?_
   obtain ⟨_, rfl, hc8⟩ := SlD.get (hv6.mono hl4) hx9
   refine Seg.op (OpT.ixSl u66 ti3 rfl (hv6.mono hl4).sl rfl (idx_bd hx9)) rfl <| Seg.op (OpT.ldH u3 rfl rfl (hc8 0 _ rfl)) rfl <| Seg.op (OpT.assign rfl) rfl <| Seg.op (OpT.assign rfl) rfl <| Seg.nilT <| Wp.seq ?_
   obtain ⟨x10, hx10, hd⟩ := bnd_some hd
   have hx10_ := idx_bd hx10
   refine Wp.region <| Seg.op (OpT.move rfl) rfl <| Seg.op (OpT.nilCheck rfl) rfl <| Seg.op (OpT.fld (o' := 3) fl70_3 rfl rfl) rfl <| Seg.op (OpT.ldBlk (i := 7) (v := v4) u66 rfl rfl rfl rfl) rfl <| Seg.op (OpT.move rfl) rfl ?_
   obtain ⟨_, rfl, hc9⟩ := SlD.get (hv4.mono (((hl1.trans hl2).trans hl3).trans hl4)) hx10
   refine Seg.op (OpT.ixSl u66 ti3 rfl (hv4.mono (((hl1.trans hl2).trans hl3).trans hl4)).sl rfl (idx_bd hx10)) rfl <| Seg.op (OpT.ldH u3 rfl rfl (hc9 0 _ rfl)) rfl <| Seg.op (OpT.assign rfl) rfl <| Seg.nilT <| Wp.seq <| Wp.seq ?_
   obtain ⟨x11, hx11, hd⟩ := bnd_some hd
   have hx11_ := idx_bd hx11
   refine Wp.region <| Seg.op (OpT.move rfl) rfl <| Seg.op (OpT.move rfl) rfl ?_
   obtain ⟨_, rfl, hc10⟩ := SlD.get (hv5.mono ((hl2.trans hl3).trans hl4)) hx11
   refine Seg.op (OpT.ixSl u68 ti4 rfl (hv5.mono ((hl2.trans hl3).trans hl4)).sl rfl (idx_bd hx11)) rfl <| Seg.op (OpT.ldH u4 rfl rfl (hc10 0 _ rfl)) rfl <| Seg.op (OpT.not rfl) rfl <| Seg.nilT ?_
   refine Wp.cond (b := !x11) rfl (fun hb6 => ?_) (fun hb6 => ?_)
   ·
    replace hd := brT hb6 hd
    refine Wp.exit <| At.then_x <| At.blk_hit <| At.then_n <| Wp.region <| Seg.op (OpT.add rfl rfl (fits64 (by omega))) rfl <| Seg.op (OpT.move rfl) rfl <| Seg.nil ?_
    refine At.nextF (Hp.le.refl _) ⟨l3, l4, m4, (k2 + 1), v11, xs4, v12, xs5, rfl, rfl, (by rw [← hn2]; exact hd), hq4, hq5⟩ (Sub.of rfl)
   replace hd := brF hb6 hd
   refine Wp.skip <| At.then_n <| Wp.seq <| Wp.seq ?_
   obtain ⟨ha3, hd⟩ := chk_some hd
   refine Wp.region <| Seg.op (OpT.move rfl) rfl <| Seg.op (OpT.move rfl) rfl <| Seg.op (OpT.lookupOk (K := (mkI u3)) (M := (meI u3)) (i := 4) (k := x10) (z := 0) u75 ti3 (show F64 0 by decide) rfl rfl ha3 rfl) rfl <| Seg.op (OpT.move rfl) rfl <| Seg.op (OpT.extract rfl rfl) rfl <| Seg.op (OpT.extract rfl rfl) rfl <| Seg.op (OpT.assign rfl) rfl ?_
   refine Seg.op (OpT.assign rfl) rfl <| Seg.nilT <| Wp.sr <| Seg.op (OpT.move rfl) rfl <| Seg.op (OpT.not rfl) rfl <| Seg.nilT ?_
   refine Wp.joinT (fun LL HH OO => ∃ (l5 : List Int), ∃ (m7 : List (Int × Int)), ∃ (v13 : Value), ∃ (xs6 : List Value), [(0, (ptr B0 0)), (2, (ptr B2 0)), (3, v6), (4, v13), (5, (.map (some B3))), (6, (ptr B4 0)), (7, (.int .i64 (k1:Int))), (8, (ptr (blkOf (p1 11)) 0)), (9, (.int .i64 (k2:Int))), (11, (.int .i64 x10)), (63, v10), (64, (.int .i64 (x8.length:Int))), (65, (.int .i64 (k2:Int)))] = LL ∧ .row v12 27 3 l4.length xs5 :: .blk (blkOf (p1 11)) (.cells #[(.bool x6), v12] 30 (0, 0)) :: .row v9 30 2 l2.length xs3 :: .blk B4 (.cells #[v9] 32 (0, 0)) :: mapR (mkI u3) (meI u3) B3 m7 :: .row v13 3 1 l5.length xs6 :: .blk B2 (.cells #[(.slice none 0 0)] 32 (0, 0)) :: .blk B0 (.cells #[v1, v2, v3, v4] 70 (0, 0)) :: O = OO ∧ au_table_canonical_j11 fu a0 l4 k2 nx2 x10 l5 m7 = some r ∧ LayL cI64 HH l5 xs6) ?_ ?_
   ·
    refine Wp.cond (b := !((fmGet m4 x10).isSome)) rfl (fun hb7 => ?_) (fun hb7 => ?_)
    ·
     replace hd := brT hb7 hd
     refine Wp.seq ?_
     obtain ⟨ha4, hd⟩ := chk_some hd
     obtain ⟨ha5, hd⟩ := chk_some hd
     obtain ⟨ha6, hd⟩ := chk_some hd
     refine Wp.region <| Seg.op (OpT.move rfl) rfl <| Seg.op (OpT.move rfl) rfl <| Seg.op (OpT.move rfl) rfl ?_
     refine Seg.rowLe (i := 5) rfl fun hb8 => ?_
     refine Seg.op (OpT.lenRow (i := 5) u66 rfl rfl) rfl <| Seg.mapUpdate (K := (mkI u3)) (M := (meI u3)) (k := x10) (v := (l3.length:Int)) 4 u75 rfl rfl rfl ha4 ha5 ha6 rfl <| Seg.nilT ?_
     obtain ⟨ha7, hd⟩ := chk_some hd
     refine Wp.region <| Seg.op (OpT.move rfl) rfl <| Seg.op (OpT.move rfl) rfl <| Seg.buildD1 (c := cI64) (y := x9) (cs := [(.int .i64 x9)]) u66 ti3 rfl rfl rfl rfl (rfl) rfl fun v14 xs7 hq6 => Seg.appD (i := 6) (j := 0) hq4 hq6 u66 ti3 rfl (by decide) rfl rfl rfl rfl (by decide) ha7 rfl fun v15 xs8 hq7 => Seg.drop (i := 0) <| Seg.op (OpT.assign rfl) rfl <| Seg.nil ?_
     refine At.joinF (Hp.le.refl _) ⟨(l3 ++ ([x9] : List Int)), (fmPut m4 x10 (l3.length:Int)), v15, xs8, rfl, rfl, hd, hq7⟩ (Sub.of rfl)
    replace hd := brF hb7 hd
    refine Wp.skip ?_
    refine At.joinF (Hp.le.refl _) ⟨l3, m4, v11, xs4, rfl, rfl, hd, hq4⟩ (Sub.of rfl)
   intro L3 H5 O3 hl5 hI3
   obtain ⟨l5, m7, v13, xs6, rfl, rfl, hd, hq8⟩ := hI3
   unfold au_table_canonical_j11 at hd
   refine Wp.sr <| Seg.op (OpT.fld (o' := 1) fl30_1 rfl rfl) rfl <| Seg.op (OpT.ldBlk (i := 1) (v := v12) u28 rfl rfl rfl rfl) rfl ?_
   refine Seg.rowLe (i := 0) rfl fun hb9 => ?_
   refine Seg.op (OpT.lenRow (i := 0) u28 rfl rfl) rfl <| Seg.op (OpT.assign rfl) rfl <| Seg.nilT <| Wp.seq ?_
   rcases Bool.eq_false_or_eq_true (decide (0 < (l4.length:Int))) with hg1 | hg1
   ·
    replace hd := brT hg1 hd
    have hg1_ := of_decide_eq_true hg1
    obtain ⟨ha8, hd⟩ := chk_some hd
    obtain ⟨x12, hx12, hd⟩ := bnd_some hd
    have hx12_ := idx_bd hx12
    obtain ⟨ha9, hd⟩ := chk_some hd
    rcases Bool.eq_false_or_eq_true (decide (x12.2.2 = ((fmGet m7 x10).getD 0))) with hg2 | hg2
    ·
     replace hd := brT hg2 hd
     have hg2_ := of_decide_eq_true hg2
     obtain ⟨ha10, hd⟩ := chk_some hd
     obtain ⟨x13, hx13, hd⟩ := bnd_some hd
     have hx13_ := idx_bd hx13
     obtain ⟨ha11, hd⟩ := chk_some hd
     obtain ⟨x14, hx14, hd⟩ := bnd_some hd
     have hx14_ := idx_bd hx14
     obtain ⟨_, ⟨_, _, rfl, ⟨rfl, hr1, hr2⟩, ⟨_, _, rfl, ⟨rfl, hr3, hr4⟩, rfl⟩⟩, hc11, hc11_⟩ := LayL.get (hq5.mono hl5) (idx_some hx12).2
     obtain ⟨_, ⟨_, _, rfl, ⟨rfl, hr5, hr6⟩, ⟨_, _, rfl, ⟨rfl, hr7, hr8⟩, rfl⟩⟩, hc12, hc12_⟩ := LayL.get (hq5.mono hl5) (idx_some hx13).2
     obtain ⟨_, rfl, hc13⟩ := SlD.get (hv1.mono ((((hl1.trans hl2).trans hl3).trans hl4).trans hl5)) hx14
     refine Wp.drawE 34 follows rfl (by kernel_rfl) <| SegL.opE (OpT.move rfl) rfl <| SegL.opE (OpT.asB (b := decide (0 < (l4.length:Int))) (c := true) (OpT.gtr rfl rfl) hg1) rfl <| SegL.opE (OpT.move rfl) rfl <| SegL.opGE rfl rfl (OpT.fld (o' := 1) fl30_1 rfl rfl) rfl <| SegL.opGE rfl rfl (OpT.ldBlk (i := 1) (v := v12) u28 rfl rfl rfl rfl) rfl <| SegL.opGE rfl rfl (OpT.move rfl) rfl <| SegL.opGE rfl rfl (OpT.sub rfl rfl (fits64 ha8)) rfl ?_
     refine SegL.opGE rfl rfl (OpT.ixRow (j := 0) u28 ti27 rfl rfl rfl (idx_bd hx12)) rfl <| SegL.opGE rfl rfl (OpT.fldRow (q := 0) fl27_2 rfl rfl (by omega)) rfl <| SegL.opGE rfl rfl (OpT.ldRow (i := 0) (k := (((l4.length:Int) - 1).toNat) * 3 + 2) u3 rfl rfl rfl (hc11 2 _ rfl)) rfl <| SegL.opGE rfl rfl (OpT.move rfl) rfl <| SegL.opGE rfl rfl (OpT.move rfl) rfl <| SegL.opGE rfl rfl (OpT.lookup (K := (mkI u3)) (M := (meI u3)) (i := 4) (k := x10) (z := 0) u75 ti3 (show F64 0 by decide) rfl rfl ha9 rfl) rfl <| SegL.opGE rfl rfl (OpT.asB (b := decide (x12.2.2 = ((fmGet m7 x10).getD 0))) (c := true) (OpT.eql rfl rfl) hg2) rfl <| SegL.opE (OpT.pickT rfl rfl) rfl ?_
     refine SegL.opE (OpT.move rfl) rfl <| SegL.opGE rfl rfl (OpT.fld (o' := 1) fl30_1 rfl rfl) rfl <| SegL.opGE rfl rfl (OpT.ldBlk (i := 1) (v := v12) u28 rfl rfl rfl rfl) rfl <| SegL.opGE rfl rfl (OpT.move rfl) rfl <| SegL.opGE rfl rfl (OpT.sub rfl rfl (fits64 ha10)) rfl <| SegL.opGE rfl rfl (OpT.ixRow (j := 0) u28 ti27 rfl rfl rfl (idx_bd hx13)) rfl <| SegL.opGE rfl rfl (OpT.fldRow (q := 0) fl27_1 rfl rfl (by omega)) rfl <| SegL.opGE rfl rfl (OpT.ldRow (i := 0) (k := (((l4.length:Int) - 1).toNat) * 3 + 1) u5 rfl rfl rfl (hc12 1 _ rfl)) rfl ?_
     refine SegL.opGE rfl rfl (OpT.conv u5 u3 rfl (fits64 (by omega))) rfl <| SegL.opGE rfl rfl (OpT.add rfl rfl (fits64 ha11)) rfl <| SegL.opGE rfl rfl (OpT.move rfl) rfl <| SegL.opGE rfl rfl (OpT.nilCheck rfl) rfl <| SegL.opGE rfl rfl (OpT.fld (o' := 0) fl70_0 rfl rfl) rfl <| SegL.opGE rfl rfl (OpT.ldBlk (i := 7) (v := v1) u66 rfl rfl rfl rfl) rfl <| SegL.opGE rfl rfl (OpT.move rfl) rfl <| SegL.opGE rfl rfl (OpT.ixSl u66 ti3 rfl (hv1.mono ((((hl1.trans hl2).trans hl3).trans hl4).trans hl5)).sl rfl (idx_bd hx14)) rfl ?_
     refine SegL.opGE rfl rfl (OpT.ldH u3 rfl rfl (hc13 0 _ rfl)) rfl <| SegL.opGE rfl rfl (OpT.eql rfl rfl) rfl <| SegL.opE (OpT.pickT rfl rfl) rfl <| SegL.doneE <| EndL.is (t := 0) rfl <| EndL.is (t := 2) rfl <| EndL.is (t := 3) rfl <| EndL.is (t := 4) rfl ?_
     refine EndL.is (t := 5) rfl <| EndL.is (t := 6) rfl <| EndL.is (t := 7) rfl <| EndL.is (t := 8) rfl <| EndL.is (t := 9) rfl <| EndL.is (t := 11) rfl <| EndL.is (t := 14) rfl <| EndL.is (t := 63) rfl ?_
     refine EndL.is (t := 64) rfl <| EndL.is (t := 65) rfl <| EndL.is (t := 134) rfl <| EndL.seg <| Seg.nilT ?_
     refine Wp.cond (b := decide ((x13.2.1 + 1) = x14)) rfl (fun hb10 => ?_) (fun hb10 => ?_)
     ·
      replace hd := brT hb10 hd
      replace hb10 := of_decide_eq_true hb10
      obtain ⟨ha12, hd⟩ := chk_some hd
      obtain ⟨x15, hx15, hd⟩ := bnd_some hd
      obtain ⟨ha13, hd⟩ := chk_some hd
      have hr9 := ha13.1; have hr10 := ha13.2
      obtain ⟨x16, hx16, hd⟩ := bnd_some hd
      have hx16_ := idx_bd hx16
      obtain ⟨_, ⟨_, _, rfl, ⟨rfl, hr11, hr12⟩, ⟨_, _, rfl, ⟨rfl, hr13, hr14⟩, rfl⟩⟩, hc14, hc14_⟩ := LayL.get (hq5.mono hl5) (idx_some hx16).2
      refine SegO.runK 8 [an0, ⟨[1], [], []⟩, an0, an0, an0, an0, ⟨[7], [], []⟩, ⟨[0], [], []⟩, ⟨[0], [], []⟩, ⟨[0], [0], []⟩] follows rfl (by kernel_rfl) <| SegO.op (val := fun p2 => (ptr (blkOf (p1 11)) 1)) rfl rfl (fun _ => rfl) (fun _ p2 _ hx hf hy => OpT.fld (o' := 1) fl30_1 rfl rfl) rfl <| SegO.op (val := fun p2 => v12) rfl rfl (fun _ => rfl) (fun _ p2 _ hx hf hy => OpT.ldBlk (i := 1) (v := v12) u28 rfl rfl (hy 1 _ rfl rfl) rfl) rfl <| SegO.op (val := fun p2 => (.int .i64 (l4.length:Int))) rfl rfl (fun _ => rfl) (fun _ p2 _ hx hf hy => OpT.move rfl) rfl <| SegO.op (val := fun p2 => (.int .i64 ((l4.length:Int) - 1))) rfl rfl (fun _ => rfl) (fun _ p2 _ hx hf hy => OpT.sub rfl rfl (fits64 ha12)) rfl <| SegO.op (val := fun p2 => (ptr B0 0)) rfl rfl (fun _ => rfl) (fun _ p2 _ hx hf hy => OpT.move rfl) rfl <| SegO.op (val := fun p2 => (.int .i64 (k2:Int))) rfl rfl (fun _ => rfl) (fun _ p2 _ hx hf hy => OpT.move rfl) rfl <| SegO.op (val := fun p2 => (.int .u8 x15)) rfl rfl (fun _ => rfl) (fun _ p2 _ hx hf hy => OpT.call ent33 rfl (TriV.at 7 (hy 7 _ rfl rfl) (au_table_end_w (hv1.mono (((((hl1.trans hl2).trans hl3).trans hl4).trans hl5).trans hx)) (hv2.mono (((((hl1.trans hl2).trans hl3).trans hl4).trans hl5).trans hx)) (hv3.mono (((((hl1.trans hl2).trans hl3).trans hl4).trans hl5).trans hx)) (hv4.mono (((((hl1.trans hl2).trans hl3).trans hl4).trans hl5).trans hx)) hx15))) rfl ?_
      refine SegO.op (val := fun p2 => (elemPtr v12 ((((l4.length:Int) - 1).toNat) * 3))) rfl rfl (fun _ => rfl) (fun _ p2 _ hx hf hy => OpT.ixRow (j := 0) u28 ti27 rfl (hy 0 _ rfl rfl) rfl (idx_bd hx16)) rfl <| SegO.op (val := fun p2 => (elemPtr v12 ((((l4.length:Int) - 1).toNat) * 3 + 1))) rfl rfl (fun _ => rfl) (fun _ p2 _ hx hf hy => OpT.fldRow (q := 0) fl27_1 rfl (hy 0 _ rfl rfl) (by omega)) rfl <| SegO.op1n (res := fun p2 => .row v12 27 3 l4.length (spl xs5 ((((l4.length:Int) - 1).toNat) * 3 + 1) [(.int .u8 x15)])) 0 rfl rfl rfl (fun _ => rfl) (fun _ p2 _ hx hf hy => OpS.stRowR (k := (((l4.length:Int) - 1).toNat) * 3 + 1) (vs := [(.int .u8 x15)]) rfl rfl rfl ti5 rfl rfl (ones_cons rfl (ones_nil)) (hy 0 _ rfl rfl) (by have h1 : _ = _ * 3 := (hq5.mono hl5).len; have h2 := idx_bd hx16; simp only [List.length_cons, List.length_nil]; omega)) <| SegO.done fun H6 p2 hl6 hF2 => At.sub (L' := [(0, (ptr B0 0)), (2, (ptr B2 0)), (3, v6), (4, v13), (5, (.map (some B3))), (6, (ptr B4 0)), (7, (.int .i64 (k1:Int))), (8, (ptr (blkOf (p1 11)) 0)), (63, v10), (64, (.int .i64 (x8.length:Int))), (65, (.int .i64 (k2:Int)))]) (Sub.of rfl) ?_
      refine At.own (O := .row v12 27 3 (l4.set (((l4.length:Int) - 1).toNat) (x16.1, x15, x16.2.2)).length (spl xs5 ((((l4.length:Int) - 1).toNat) * 3 + 1) [(.int .u8 x15)]) :: .blk (blkOf (p1 11)) (.cells #[(.bool x6), v12] 30 (0, 0)) :: .row v9 30 2 l2.length xs3 :: .blk B4 (.cells #[v9] 32 (0, 0)) :: mapR (mkI u3) (meI u3) B3 m7 :: .row v13 3 1 l5.length xs6 :: .blk B2 (.cells #[(.slice none 0 0)] 32 (0, 0)) :: .blk B0 (.cells #[v1, v2, v3, v4] 70 (0, 0)) :: O) ?_ (by first | rfl | (simp only [List.length_append, List.length_set]; rfl) | simp)
      have hq9 : LayL (cP cU8 (cP cU8 cI64)) H6 (l4.set (((l4.length:Int) - 1).toNat) (x16.1, x15, x16.2.2)) (spl xs5 ((((l4.length:Int) - 1).toNat) * 3 + 1) [(.int .u8 x15)]) := (LayL.part (off := 1) (y := (x16.1, x15, x16.2.2)) (cs := [(.int .u8 x16.1), (.int .u8 x16.2.1), (.int .i64 x16.2.2)]) (hq5.mono (hl5.trans hl6)) (idx_some hx16).2 hc14_ rfl (Nat.le_of_ble_eq_true rfl) (⟨[(.int .u8 x16.1)], [(.int .u8 x15), (.int .i64 x16.2.2)], rfl, ⟨rfl, (show (0 : Int) ≤ x16.1 by omega), (show x16.1 ≤ (255 : Int) by omega)⟩, ⟨[(.int .u8 x15)], [(.int .i64 x16.2.2)], rfl, ⟨rfl, (show (0 : Int) ≤ x15 by omega), (show x15 ≤ (255 : Int) by omega)⟩, rfl⟩⟩))
      refine At.blk_n <| At.then_n <| Wp.region <| Seg.op (OpT.add rfl rfl (fits64 (by omega))) rfl <| Seg.op (OpT.move rfl) rfl <| Seg.nil ?_
      refine At.nextF (hl5.trans hl6) ⟨l5, (l4.set (((l4.length:Int) - 1).toNat) (x16.1, x15, x16.2.2)), m7, (k2 + 1), v13, xs6, v12, spl xs5 ((((l4.length:Int) - 1).toNat) * 3 + 1) [(.int .u8 x15)], rfl, rfl, (by rw [← hn2]; exact hd), (hq8.mono hl6), hq9⟩ (Sub.of rfl)
     replace hd := brF hb10 hd
     replace hb10 := of_decide_eq_false hb10
     obtain ⟨x17, hx17, hd⟩ := bnd_some hd
     have hx17_ := idx_bd hx17
     obtain ⟨ha14, hd⟩ := chk_some hd
     have := ha14
     obtain ⟨x18, hx18, hd⟩ := bnd_some hd
     obtain ⟨ha15, hd⟩ := chk_some hd
     have hr15 := ha15.1; have hr16 := ha15.2
     obtain ⟨ha16, hd⟩ := chk_some hd
     obtain ⟨ha17, hd⟩ := chk_some hd
     obtain ⟨_, rfl, hc15⟩ := SlD.get (hv1.mono ((((hl1.trans hl2).trans hl3).trans hl4).trans hl5)) hx17
     refine Wp.emp <| SegO.runK 9 [an0, ⟨[2], [], []⟩, an0, an0, an0, ⟨[8], [], []⟩, an0, an0, an0, an0, an0, an0, ⟨[8], [], []⟩, an0, an0, ⟨[5], [], []⟩, an0, ⟨[0], [0], [17]⟩, ⟨[0, 1], [1], [18]⟩, an0, ⟨[2], [2], [18]⟩] follows rfl (by kernel_rfl) <| SegO.op (val := fun p3 => (ptr (blkOf (p1 11)) 1)) rfl rfl (fun _ => rfl) (fun _ p3 _ hx hf hy => OpT.fld (o' := 1) fl30_1 rfl rfl) rfl <| SegO.op (val := fun p3 => v12) rfl rfl (fun _ => rfl) (fun _ p3 _ hx hf hy => OpT.ldBlk (i := 2) (v := v12) u28 rfl rfl (hy 2 _ rfl rfl) rfl) rfl <| SegO.op (val := fun p3 => (ptr B0 0)) rfl rfl (fun _ => rfl) (fun _ p3 _ hx hf hy => OpT.move rfl) rfl <| SegO.op (val := fun p3 => (ptr B0 0)) rfl rfl (fun _ => rfl) (fun _ p3 _ hx hf hy => OpT.nilCheck rfl) rfl <| SegO.op (val := fun p3 => (ptr B0 0)) rfl rfl (fun _ => rfl) (fun _ p3 _ hx hf hy => OpT.fld (o' := 0) fl70_0 rfl rfl) rfl <| SegO.op (val := fun p3 => v1) rfl rfl (fun _ => rfl) (fun _ p3 _ hx hf hy => OpT.ldBlk (i := 8) (v := v1) u66 rfl rfl (hy 8 _ rfl rfl) rfl) rfl ?_
     refine SegO.op (val := fun p3 => (.int .i64 (k2:Int))) rfl rfl (fun _ => rfl) (fun _ p3 _ hx hf hy => OpT.move rfl) rfl <| SegO.op (val := fun p3 => (elemPtr v1 (k2 * 1))) rfl rfl (fun _ => rfl) (fun _ p3 _ hx hf hy => OpT.ixSl u66 ti3 rfl (hv1.mono (((((hl1.trans hl2).trans hl3).trans hl4).trans hl5).trans hx)).sl rfl (idx_bd hx17)) rfl <| SegO.op (val := fun p3 => (.int .i64 x17)) rfl rfl (fun _ => rfl) (fun _ p3 _ hx hf hy => OpT.ldH u3 rfl rfl ((hc15 0 _ rfl).mono hx)) rfl <| SegO.op (val := fun p3 => (.int .u8 x17)) rfl rfl (fun _ => rfl) (fun _ p3 _ hx hf hy => OpT.conv u3 u5 rfl (fitsU8 ha14)) rfl <| SegO.op (val := fun p3 => (ptr B0 0)) rfl rfl (fun _ => rfl) (fun _ p3 _ hx hf hy => OpT.move rfl) rfl <| SegO.op (val := fun p3 => (.int .i64 (k2:Int))) rfl rfl (fun _ => rfl) (fun _ p3 _ hx hf hy => OpT.move rfl) rfl <| SegO.op (val := fun p3 => (.int .u8 x18)) rfl rfl (fun _ => rfl) (fun _ p3 _ hx hf hy => OpT.call ent33 rfl (TriV.at 8 (hy 8 _ rfl rfl) (au_table_end_w (hv1.mono (((((hl1.trans hl2).trans hl3).trans hl4).trans hl5).trans hx)) (hv2.mono (((((hl1.trans hl2).trans hl3).trans hl4).trans hl5).trans hx)) (hv3.mono (((((hl1.trans hl2).trans hl3).trans hl4).trans hl5).trans hx)) (hv4.mono (((((hl1.trans hl2).trans hl3).trans hl4).trans hl5).trans hx)) hx18))) rfl <| SegO.op (val := fun p3 => (.map (some B3))) rfl rfl (fun _ => rfl) (fun _ p3 _ hx hf hy => OpT.move rfl) rfl ?_
     refine SegO.op (val := fun p3 => (.int .i64 x10)) rfl rfl (fun _ => rfl) (fun _ p3 _ hx hf hy => OpT.move rfl) rfl <| SegO.op (val := fun p3 => (.int .i64 ((fmGet m7 x10).getD 0))) rfl rfl (fun _ => rfl) (fun _ p3 _ hx hf hy => OpT.lookup (K := (mkI u3)) (M := (meI u3)) (i := 5) (k := x10) (z := 0) u75 ti3 (show F64 0 by decide) rfl rfl ha16 (hy 5 _ rfl rfl)) rfl <| SegO.op (val := fun p3 => (.agg #[(.int .u8 x17), (.int .u8 x18), (.int .i64 ((fmGet m7 x10).getD 0))])) rfl rfl (fun _ => rfl) (fun _ p3 _ hx hf hy => OpT.buildS (vs := [(0, (.int .u8 x17)), (1, (.int .u8 x18)), (2, (.int .i64 ((fmGet m7 x10).getD 0)))]) (cs := #[(.int .u8 x17), (.int .u8 x18), (.int .i64 ((fmGet m7 x10).getD 0))]) plf27 ti27 rfl rfl (vc_cons rfl (vc_cons rfl (vc_cons rfl (vc_nil)))) rfl) rfl <| SegO.op1s (res := fun p3 => .row (p3 17) 27 3 1 [(.int .u8 x17), (.int .u8 x18), (.int .i64 ((fmGet m7 x10).getD 0))]) 0 rfl rfl rfl (fun _ => rfl) (fun _ p3 _ hx hf hy => OpS.buildR1 (v := (.agg #[(.int .u8 x17), (.int .u8 x18), (.int .i64 ((fmGet m7 x10).getD 0))])) (cs := [(.int .u8 x17), (.int .u8 x18), (.int .i64 ((fmGet m7 x10).getD 0))]) 0 u28 ti27 rfl rfl rfl rfl rfl (hy 0 _ rfl rfl)) rfl (fun _ => ⟨_, _, _, _, rfl⟩) <| SegO.op1s (res := fun p3 => .row (p3 18) 27 3 (l4.length + 1) (xs5 ++ [(.int .u8 x17), (.int .u8 x18), (.int .i64 ((fmGet m7 x10).getD 0))])) 1 rfl rfl rfl (fun _ => rfl) (fun _ p3 _ hx hf hy => OpS.appR 1 0 u28 ti27 rfl rfl rfl rfl (hy 1 _ rfl rfl) (hy 0 _ rfl rfl) (ones_cons rfl (ones_cons rfl (ones_cons rfl (ones_nil)))) rfl ha17) rfl (fun _ => ⟨_, _, _, _, rfl⟩) <| SegO.op (val := fun p3 => (ptr (blkOf (p1 11)) 1)) rfl rfl (fun _ => rfl) (fun _ p3 _ hx hf hy => OpT.fld (o' := 1) fl30_1 rfl rfl) rfl <| SegO.op1n (res := fun p3 => .blk (blkOf (p1 11)) (.cells #[(.bool x6), (p3 18)] 30 (0, 0))) 2 rfl rfl rfl (fun _ => rfl) (fun _ p3 _ hx hf hy => OpS.stR (vs := [(p3 18)]) rfl rfl (cellsL (hf 18 rfl rfl)) ti28 rfl (ones_cons (hf 18 rfl rfl) (ones_nil)) (hy 2 _ rfl rfl) rfl rfl) <| SegO.done fun H7 p3 hl7 hF3 => ?_
     refine At.sub (L' := [(0, (ptr B0 0)), (2, (ptr B2 0)), (3, v6), (4, v13), (5, (.map (some B3))), (6, (ptr B4 0)), (7, (.int .i64 (k1:Int))), (8, (ptr (blkOf (p1 11)) 0)), (63, v10), (64, (.int .i64 (x8.length:Int))), (65, (.int .i64 (k2:Int)))]) (Sub.of rfl) ?_
     refine At.own (O := .row (p3 17) 27 3 ([(x17, x18, (fmGet m7 x10).getD 0)] : List (Int × Int × Int)).length [(.int .u8 x17), (.int .u8 x18), (.int .i64 ((fmGet m7 x10).getD 0))] :: .row (p3 18) 27 3 (l4 ++ ([(x17, x18, (fmGet m7 x10).getD 0)] : List (Int × Int × Int))).length (xs5 ++ [(.int .u8 x17), (.int .u8 x18), (.int .i64 ((fmGet m7 x10).getD 0))]) :: .blk (blkOf (p1 11)) (.cells #[(.bool x6), (p3 18)] 30 (0, 0)) :: .row v9 30 2 l2.length xs3 :: .blk B4 (.cells #[v9] 32 (0, 0)) :: mapR (mkI u3) (meI u3) B3 m7 :: .row v13 3 1 l5.length xs6 :: .blk B2 (.cells #[(.slice none 0 0)] 32 (0, 0)) :: .blk B0 (.cells #[v1, v2, v3, v4] 70 (0, 0)) :: O) ?_ (by first | rfl | (simp only [List.length_append, List.length_set]; rfl) | simp)
     have hq10 : LayL (cP cU8 (cP cU8 cI64)) H7 (l4 ++ ([(x17, x18, (fmGet m7 x10).getD 0)] : List (Int × Int × Int))) (xs5 ++ [(.int .u8 x17), (.int .u8 x18), (.int .i64 ((fmGet m7 x10).getD 0))]) := (LayL.app (hq5.mono (hl5.trans hl7)) (LayL.sing (c := (cP cU8 (cP cU8 cI64))) (a := (x17, x18, (fmGet m7 x10).getD 0)) (cs := [(.int .u8 x17), (.int .u8 x18), (.int .i64 ((fmGet m7 x10).getD 0))]) (⟨[(.int .u8 x17)], [(.int .u8 x18), (.int .i64 ((fmGet m7 x10).getD 0))], rfl, ⟨rfl, (show (0 : Int) ≤ x17 by omega), (show x17 ≤ (255 : Int) by omega)⟩, ⟨[(.int .u8 x18)], [(.int .i64 ((fmGet m7 x10).getD 0))], rfl, ⟨rfl, (show (0 : Int) ≤ x18 by omega), (show x18 ≤ (255 : Int) by omega)⟩, rfl⟩⟩)))
     refine At.permK [1, 2, 3, 4, 5, 6, 7, 8] 9 rfl rfl rfl <| At.blk_n <| At.then_n <| Wp.region <| Seg.op (OpT.add rfl rfl (fits64 (by omega))) rfl <| Seg.op (OpT.move rfl) rfl <| Seg.nil ?_
     refine At.nextF (hl5.trans hl7) ⟨l5, (l4 ++ ([(x17, x18, (fmGet m7 x10).getD 0)] : List (Int × Int × Int))), m7, (k2 + 1), v13, xs6, (p3 18), xs5 ++ [(.int .u8 x17), (.int .u8 x18), (.int .i64 ((fmGet m7 x10).getD 0))], rfl, rfl, (by rw [← hn2]; exact hd), (hq8.mono hl7), hq10⟩ (Sub.of rfl)
    replace hd := brF hg2 hd
    have hg2_ := of_decide_eq_false hg2
    obtain ⟨_, ⟨_, _, rfl, ⟨rfl, hr1, hr2⟩, ⟨_, _, rfl, ⟨rfl, hr3, hr4⟩, rfl⟩⟩, hc11, hc11_⟩ := LayL.get (hq5.mono hl5) (idx_some hx12).2
    refine Wp.drawE 34 follows rfl (by kernel_rfl) <| SegL.opE (OpT.move rfl) rfl <| SegL.opE (OpT.asB (b := decide (0 < (l4.length:Int))) (c := true) (OpT.gtr rfl rfl) hg1) rfl <| SegL.opE (OpT.move rfl) rfl <| SegL.opGE rfl rfl (OpT.fld (o' := 1) fl30_1 rfl rfl) rfl <| SegL.opGE rfl rfl (OpT.ldBlk (i := 1) (v := v12) u28 rfl rfl rfl rfl) rfl <| SegL.opGE rfl rfl (OpT.move rfl) rfl <| SegL.opGE rfl rfl (OpT.sub rfl rfl (fits64 ha8)) rfl ?_
    refine SegL.opGE rfl rfl (OpT.ixRow (j := 0) u28 ti27 rfl rfl rfl (idx_bd hx12)) rfl <| SegL.opGE rfl rfl (OpT.fldRow (q := 0) fl27_2 rfl rfl (by omega)) rfl <| SegL.opGE rfl rfl (OpT.ldRow (i := 0) (k := (((l4.length:Int) - 1).toNat) * 3 + 2) u3 rfl rfl rfl (hc11 2 _ rfl)) rfl <| SegL.opGE rfl rfl (OpT.move rfl) rfl <| SegL.opGE rfl rfl (OpT.move rfl) rfl <| SegL.opGE rfl rfl (OpT.lookup (K := (mkI u3)) (M := (meI u3)) (i := 4) (k := x10) (z := 0) u75 ti3 (show F64 0 by decide) rfl rfl ha9 rfl) rfl <| SegL.opGE rfl rfl (OpT.asB (b := decide (x12.2.2 = ((fmGet m7 x10).getD 0))) (c := false) (OpT.eql rfl rfl) hg2) rfl <| SegL.opE (OpT.pickT rfl rfl) rfl ?_
    refine SegL.opE (OpT.move rfl) rfl <| SegL.skipGE rfl rfl rfl rfl <| SegL.skipGE rfl rfl rfl rfl <| SegL.skipGE rfl rfl rfl rfl <| SegL.skipGE rfl rfl rfl rfl <| SegL.skipGE rfl rfl rfl rfl <| SegL.skipGE rfl rfl rfl rfl <| SegL.skipGE rfl rfl rfl rfl ?_
    refine SegL.skipGE rfl rfl rfl rfl <| SegL.skipGE rfl rfl rfl rfl <| SegL.skipGE rfl rfl rfl rfl <| SegL.skipGE rfl rfl rfl rfl <| SegL.skipGE rfl rfl rfl rfl <| SegL.skipGE rfl rfl rfl rfl <| SegL.skipGE rfl rfl rfl rfl <| SegL.skipGE rfl rfl rfl rfl ?_
    refine SegL.skipGE rfl rfl rfl rfl <| SegL.skipGE rfl rfl rfl rfl <| SegL.opE (OpT.pickF rfl rfl) rfl <| SegL.doneE <| EndL.is (t := 0) rfl <| EndL.is (t := 2) rfl <| EndL.is (t := 3) rfl <| EndL.is (t := 4) rfl ?_
    refine EndL.is (t := 5) rfl <| EndL.is (t := 6) rfl <| EndL.is (t := 7) rfl <| EndL.is (t := 8) rfl <| EndL.is (t := 9) rfl <| EndL.is (t := 11) rfl <| EndL.is (t := 14) rfl <| EndL.is (t := 63) rfl ?_
    refine EndL.is (t := 64) rfl <| EndL.is (t := 65) rfl <| EndL.is (t := 134) rfl <| EndL.seg <| Seg.nilT <| Wp.condF rfl ?_
    obtain ⟨x19, hx19, hd⟩ := bnd_some hd
    have hx19_ := idx_bd hx19
    obtain ⟨ha18, hd⟩ := chk_some hd
    have := ha18
    obtain ⟨x20, hx20, hd⟩ := bnd_some hd
    obtain ⟨ha19, hd⟩ := chk_some hd
    have hr17 := ha19.1; have hr18 := ha19.2
    obtain ⟨ha20, hd⟩ := chk_some hd
    obtain ⟨ha21, hd⟩ := chk_some hd
    obtain ⟨_, rfl, hc16⟩ := SlD.get (hv1.mono ((((hl1.trans hl2).trans hl3).trans hl4).trans hl5)) hx19
    refine Wp.emp <| SegO.runK 9 [an0, ⟨[2], [], []⟩, an0, an0, an0, ⟨[8], [], []⟩, an0, an0, an0, an0, an0, an0, ⟨[8], [], []⟩, an0, an0, ⟨[5], [], []⟩, an0, ⟨[0], [0], [17]⟩, ⟨[0, 1], [1], [18]⟩, an0, ⟨[2], [2], [18]⟩] follows rfl (by kernel_rfl) <| SegO.op (val := fun p4 => (ptr (blkOf (p1 11)) 1)) rfl rfl (fun _ => rfl) (fun _ p4 _ hx hf hy => OpT.fld (o' := 1) fl30_1 rfl rfl) rfl <| SegO.op (val := fun p4 => v12) rfl rfl (fun _ => rfl) (fun _ p4 _ hx hf hy => OpT.ldBlk (i := 2) (v := v12) u28 rfl rfl (hy 2 _ rfl rfl) rfl) rfl <| SegO.op (val := fun p4 => (ptr B0 0)) rfl rfl (fun _ => rfl) (fun _ p4 _ hx hf hy => OpT.move rfl) rfl <| SegO.op (val := fun p4 => (ptr B0 0)) rfl rfl (fun _ => rfl) (fun _ p4 _ hx hf hy => OpT.nilCheck rfl) rfl <| SegO.op (val := fun p4 => (ptr B0 0)) rfl rfl (fun _ => rfl) (fun _ p4 _ hx hf hy => OpT.fld (o' := 0) fl70_0 rfl rfl) rfl <| SegO.op (val := fun p4 => v1) rfl rfl (fun _ => rfl) (fun _ p4 _ hx hf hy => OpT.ldBlk (i := 8) (v := v1) u66 rfl rfl (hy 8 _ rfl rfl) rfl) rfl ?_
    refine SegO.op (val := fun p4 => (.int .i64 (k2:Int))) rfl rfl (fun _ => rfl) (fun _ p4 _ hx hf hy => OpT.move rfl) rfl <| SegO.op (val := fun p4 => (elemPtr v1 (k2 * 1))) rfl rfl (fun _ => rfl) (fun _ p4 _ hx hf hy => OpT.ixSl u66 ti3 rfl (hv1.mono (((((hl1.trans hl2).trans hl3).trans hl4).trans hl5).trans hx)).sl rfl (idx_bd hx19)) rfl <| SegO.op (val := fun p4 => (.int .i64 x19)) rfl rfl (fun _ => rfl) (fun _ p4 _ hx hf hy => OpT.ldH u3 rfl rfl ((hc16 0 _ rfl).mono hx)) rfl <| SegO.op (val := fun p4 => (.int .u8 x19)) rfl rfl (fun _ => rfl) (fun _ p4 _ hx hf hy => OpT.conv u3 u5 rfl (fitsU8 ha18)) rfl <| SegO.op (val := fun p4 => (ptr B0 0)) rfl rfl (fun _ => rfl) (fun _ p4 _ hx hf hy => OpT.move rfl) rfl <| SegO.op (val := fun p4 => (.int .i64 (k2:Int))) rfl rfl (fun _ => rfl) (fun _ p4 _ hx hf hy => OpT.move rfl) rfl <| SegO.op (val := fun p4 => (.int .u8 x20)) rfl rfl (fun _ => rfl) (fun _ p4 _ hx hf hy => OpT.call ent33 rfl (TriV.at 8 (hy 8 _ rfl rfl) (au_table_end_w (hv1.mono (((((hl1.trans hl2).trans hl3).trans hl4).trans hl5).trans hx)) (hv2.mono (((((hl1.trans hl2).trans hl3).trans hl4).trans hl5).trans hx)) (hv3.mono (((((hl1.trans hl2).trans hl3).trans hl4).trans hl5).trans hx)) (hv4.mono (((((hl1.trans hl2).trans hl3).trans hl4).trans hl5).trans hx)) hx20))) rfl <| SegO.op (val := fun p4 => (.map (some B3))) rfl rfl (fun _ => rfl) (fun _ p4 _ hx hf hy => OpT.move rfl) rfl ?_
    refine SegO.op (val := fun p4 => (.int .i64 x10)) rfl rfl (fun _ => rfl) (fun _ p4 _ hx hf hy => OpT.move rfl) rfl <| SegO.op (val := fun p4 => (.int .i64 ((fmGet m7 x10).getD 0))) rfl rfl (fun _ => rfl) (fun _ p4 _ hx hf hy => OpT.lookup (K := (mkI u3)) (M := (meI u3)) (i := 5) (k := x10) (z := 0) u75 ti3 (show F64 0 by decide) rfl rfl ha20 (hy 5 _ rfl rfl)) rfl <| SegO.op (val := fun p4 => (.agg #[(.int .u8 x19), (.int .u8 x20), (.int .i64 ((fmGet m7 x10).getD 0))])) rfl rfl (fun _ => rfl) (fun _ p4 _ hx hf hy => OpT.buildS (vs := [(0, (.int .u8 x19)), (1, (.int .u8 x20)), (2, (.int .i64 ((fmGet m7 x10).getD 0)))]) (cs := #[(.int .u8 x19), (.int .u8 x20), (.int .i64 ((fmGet m7 x10).getD 0))]) plf27 ti27 rfl rfl (vc_cons rfl (vc_cons rfl (vc_cons rfl (vc_nil)))) rfl) rfl <| SegO.op1s (res := fun p4 => .row (p4 17) 27 3 1 [(.int .u8 x19), (.int .u8 x20), (.int .i64 ((fmGet m7 x10).getD 0))]) 0 rfl rfl rfl (fun _ => rfl) (fun _ p4 _ hx hf hy => OpS.buildR1 (v := (.agg #[(.int .u8 x19), (.int .u8 x20), (.int .i64 ((fmGet m7 x10).getD 0))])) (cs := [(.int .u8 x19), (.int .u8 x20), (.int .i64 ((fmGet m7 x10).getD 0))]) 0 u28 ti27 rfl rfl rfl rfl rfl (hy 0 _ rfl rfl)) rfl (fun _ => ⟨_, _, _, _, rfl⟩) <| SegO.op1s (res := fun p4 => .row (p4 18) 27 3 (l4.length + 1) (xs5 ++ [(.int .u8 x19), (.int .u8 x20), (.int .i64 ((fmGet m7 x10).getD 0))])) 1 rfl rfl rfl (fun _ => rfl) (fun _ p4 _ hx hf hy => OpS.appR 1 0 u28 ti27 rfl rfl rfl rfl (hy 1 _ rfl rfl) (hy 0 _ rfl rfl) (ones_cons rfl (ones_cons rfl (ones_cons rfl (ones_nil)))) rfl ha21) rfl (fun _ => ⟨_, _, _, _, rfl⟩) <| SegO.op (val := fun p4 => (ptr (blkOf (p1 11)) 1)) rfl rfl (fun _ => rfl) (fun _ p4 _ hx hf hy => OpT.fld (o' := 1) fl30_1 rfl rfl) rfl <| SegO.op1n (res := fun p4 => .blk (blkOf (p1 11)) (.cells #[(.bool x6), (p4 18)] 30 (0, 0))) 2 rfl rfl rfl (fun _ => rfl) (fun _ p4 _ hx hf hy => OpS.stR (vs := [(p4 18)]) rfl rfl (cellsL (hf 18 rfl rfl)) ti28 rfl (ones_cons (hf 18 rfl rfl) (ones_nil)) (hy 2 _ rfl rfl) rfl rfl) <| SegO.done fun H8 p4 hl8 hF4 => ?_
    refine At.sub (L' := [(0, (ptr B0 0)), (2, (ptr B2 0)), (3, v6), (4, v13), (5, (.map (some B3))), (6, (ptr B4 0)), (7, (.int .i64 (k1:Int))), (8, (ptr (blkOf (p1 11)) 0)), (63, v10), (64, (.int .i64 (x8.length:Int))), (65, (.int .i64 (k2:Int)))]) (Sub.of rfl) ?_
    refine At.own (O := .row (p4 17) 27 3 ([(x19, x20, (fmGet m7 x10).getD 0)] : List (Int × Int × Int)).length [(.int .u8 x19), (.int .u8 x20), (.int .i64 ((fmGet m7 x10).getD 0))] :: .row (p4 18) 27 3 (l4 ++ ([(x19, x20, (fmGet m7 x10).getD 0)] : List (Int × Int × Int))).length (xs5 ++ [(.int .u8 x19), (.int .u8 x20), (.int .i64 ((fmGet m7 x10).getD 0))]) :: .blk (blkOf (p1 11)) (.cells #[(.bool x6), (p4 18)] 30 (0, 0)) :: .row v9 30 2 l2.length xs3 :: .blk B4 (.cells #[v9] 32 (0, 0)) :: mapR (mkI u3) (meI u3) B3 m7 :: .row v13 3 1 l5.length xs6 :: .blk B2 (.cells #[(.slice none 0 0)] 32 (0, 0)) :: .blk B0 (.cells #[v1, v2, v3, v4] 70 (0, 0)) :: O) ?_ (by first | rfl | (simp only [List.length_append, List.length_set]; rfl) | simp)
    have hq11 : LayL (cP cU8 (cP cU8 cI64)) H8 (l4 ++ ([(x19, x20, (fmGet m7 x10).getD 0)] : List (Int × Int × Int))) (xs5 ++ [(.int .u8 x19), (.int .u8 x20), (.int .i64 ((fmGet m7 x10).getD 0))]) := (LayL.app (hq5.mono (hl5.trans hl8)) (LayL.sing (c := (cP cU8 (cP cU8 cI64))) (a := (x19, x20, (fmGet m7 x10).getD 0)) (cs := [(.int .u8 x19), (.int .u8 x20), (.int .i64 ((fmGet m7 x10).getD 0))]) (⟨[(.int .u8 x19)], [(.int .u8 x20), (.int .i64 ((fmGet m7 x10).getD 0))], rfl, ⟨rfl, (show (0 : Int) ≤ x19 by omega), (show x19 ≤ (255 : Int) by omega)⟩, ⟨[(.int .u8 x20)], [(.int .i64 ((fmGet m7 x10).getD 0))], rfl, ⟨rfl, (show (0 : Int) ≤ x20 by omega), (show x20 ≤ (255 : Int) by omega)⟩, rfl⟩⟩)))
    refine At.permK [1, 2, 3, 4, 5, 6, 7, 8] 9 rfl rfl rfl <| At.blk_n <| At.then_n <| Wp.region <| Seg.op (OpT.add rfl rfl (fits64 (by omega))) rfl <| Seg.op (OpT.move rfl) rfl <| Seg.nil ?_
    refine At.nextF (hl5.trans hl8) ⟨l5, (l4 ++ ([(x19, x20, (fmGet m7 x10).getD 0)] : List (Int × Int × Int))), m7, (k2 + 1), v13, xs6, (p4 18), xs5 ++ [(.int .u8 x19), (.int .u8 x20), (.int .i64 ((fmGet m7 x10).getD 0))], rfl, rfl, (by rw [← hn2]; exact hd), (hq8.mono hl8), hq11⟩ (Sub.of rfl)
   replace hd := brF hg1 hd
   have hg1_ := of_decide_eq_false hg1
   refine Wp.drawE 34 follows rfl (by kernel_rfl) <| SegL.opE (OpT.move rfl) rfl <| SegL.opE (OpT.asB (b := decide (0 < (l4.length:Int))) (c := false) (OpT.gtr rfl rfl) hg1) rfl <| SegL.opE (OpT.move rfl) rfl <| SegL.skipGE rfl rfl rfl rfl <| SegL.skipGE rfl rfl rfl rfl <| SegL.skipGE rfl rfl rfl rfl <| SegL.skipGE rfl rfl rfl rfl ?_
   refine SegL.skipGE rfl rfl rfl rfl <| SegL.skipGE rfl rfl rfl rfl <| SegL.skipGE rfl rfl rfl rfl <| SegL.skipGE rfl rfl rfl rfl <| SegL.skipGE rfl rfl rfl rfl <| SegL.skipGE rfl rfl rfl rfl <| SegL.skipGE rfl rfl rfl rfl <| SegL.opE (OpT.pickF rfl rfl) rfl ?_
   refine SegL.opE (OpT.move rfl) rfl <| SegL.skipGE rfl rfl rfl rfl <| SegL.skipGE rfl rfl rfl rfl <| SegL.skipGE rfl rfl rfl rfl <| SegL.skipGE rfl rfl rfl rfl <| SegL.skipGE rfl rfl rfl rfl <| SegL.skipGE rfl rfl rfl rfl <| SegL.skipGE rfl rfl rfl rfl ?_
   refine SegL.skipGE rfl rfl rfl rfl <| SegL.skipGE rfl rfl rfl rfl <| SegL.skipGE rfl rfl rfl rfl <| SegL.skipGE rfl rfl rfl rfl <| SegL.skipGE rfl rfl rfl rfl <| SegL.skipGE rfl rfl rfl rfl <| SegL.skipGE rfl rfl rfl rfl <| SegL.skipGE rfl rfl rfl rfl ?_
   refine SegL.skipGE rfl rfl rfl rfl <| SegL.skipGE rfl rfl rfl rfl <| SegL.opE (OpT.pickF rfl rfl) rfl <| SegL.doneE <| EndL.is (t := 0) rfl <| EndL.is (t := 2) rfl <| EndL.is (t := 3) rfl <| EndL.is (t := 4) rfl ?_
   refine EndL.is (t := 5) rfl <| EndL.is (t := 6) rfl <| EndL.is (t := 7) rfl <| EndL.is (t := 8) rfl <| EndL.is (t := 9) rfl <| EndL.is (t := 11) rfl <| EndL.is (t := 14) rfl <| EndL.is (t := 63) rfl ?_
   refine EndL.is (t := 64) rfl <| EndL.is (t := 65) rfl <| EndL.is (t := 134) rfl <| EndL.seg <| Seg.nilT <| Wp.condF rfl ?_
   obtain ⟨x21, hx21, hd⟩ := bnd_some hd
   have hx21_ := idx_bd hx21
   obtain ⟨ha22, hd⟩ := chk_some hd
   have := ha22
   obtain ⟨x22, hx22, hd⟩ := bnd_some hd
   obtain ⟨ha23, hd⟩ := chk_some hd
   have hr19 := ha23.1; have hr20 := ha23.2
   obtain ⟨ha24, hd⟩ := chk_some hd
   obtain ⟨ha25, hd⟩ := chk_some hd
   obtain ⟨_, rfl, hc17⟩ := SlD.get (hv1.mono ((((hl1.trans hl2).trans hl3).trans hl4).trans hl5)) hx21
   refine Wp.emp <| SegO.runK 9 [an0, ⟨[2], [], []⟩, an0, an0, an0, ⟨[8], [], []⟩, an0, an0, an0, an0, an0, an0, ⟨[8], [], []⟩, an0, an0, ⟨[5], [], []⟩, an0, ⟨[0], [0], [17]⟩, ⟨[0, 1], [1], [18]⟩, an0, ⟨[2], [2], [18]⟩] follows rfl (by kernel_rfl) <| SegO.op (val := fun p5 => (ptr (blkOf (p1 11)) 1)) rfl rfl (fun _ => rfl) (fun _ p5 _ hx hf hy => OpT.fld (o' := 1) fl30_1 rfl rfl) rfl <| SegO.op (val := fun p5 => v12) rfl rfl (fun _ => rfl) (fun _ p5 _ hx hf hy => OpT.ldBlk (i := 2) (v := v12) u28 rfl rfl (hy 2 _ rfl rfl) rfl) rfl <| SegO.op (val := fun p5 => (ptr B0 0)) rfl rfl (fun _ => rfl) (fun _ p5 _ hx hf hy => OpT.move rfl) rfl <| SegO.op (val := fun p5 => (ptr B0 0)) rfl rfl (fun _ => rfl) (fun _ p5 _ hx hf hy => OpT.nilCheck rfl) rfl <| SegO.op (val := fun p5 => (ptr B0 0)) rfl rfl (fun _ => rfl) (fun _ p5 _ hx hf hy => OpT.fld (o' := 0) fl70_0 rfl rfl) rfl <| SegO.op (val := fun p5 => v1) rfl rfl (fun _ => rfl) (fun _ p5 _ hx hf hy => OpT.ldBlk (i := 8) (v := v1) u66 rfl rfl (hy 8 _ rfl rfl) rfl) rfl ?_
   refine SegO.op (val := fun p5 => (.int .i64 (k2:Int))) rfl rfl (fun _ => rfl) (fun _ p5 _ hx hf hy => OpT.move rfl) rfl <| SegO.op (val := fun p5 => (elemPtr v1 (k2 * 1))) rfl rfl (fun _ => rfl) (fun _ p5 _ hx hf hy => OpT.ixSl u66 ti3 rfl (hv1.mono (((((hl1.trans hl2).trans hl3).trans hl4).trans hl5).trans hx)).sl rfl (idx_bd hx21)) rfl <| SegO.op (val := fun p5 => (.int .i64 x21)) rfl rfl (fun _ => rfl) (fun _ p5 _ hx hf hy => OpT.ldH u3 rfl rfl ((hc17 0 _ rfl).mono hx)) rfl <| SegO.op (val := fun p5 => (.int .u8 x21)) rfl rfl (fun _ => rfl) (fun _ p5 _ hx hf hy => OpT.conv u3 u5 rfl (fitsU8 ha22)) rfl <| SegO.op (val := fun p5 => (ptr B0 0)) rfl rfl (fun _ => rfl) (fun _ p5 _ hx hf hy => OpT.move rfl) rfl <| SegO.op (val := fun p5 => (.int .i64 (k2:Int))) rfl rfl (fun _ => rfl) (fun _ p5 _ hx hf hy => OpT.move rfl) rfl <| SegO.op (val := fun p5 => (.int .u8 x22)) rfl rfl (fun _ => rfl) (fun _ p5 _ hx hf hy => OpT.call ent33 rfl (TriV.at 8 (hy 8 _ rfl rfl) (au_table_end_w (hv1.mono (((((hl1.trans hl2).trans hl3).trans hl4).trans hl5).trans hx)) (hv2.mono (((((hl1.trans hl2).trans hl3).trans hl4).trans hl5).trans hx)) (hv3.mono (((((hl1.trans hl2).trans hl3).trans hl4).trans hl5).trans hx)) (hv4.mono (((((hl1.trans hl2).trans hl3).trans hl4).trans hl5).trans hx)) hx22))) rfl <| SegO.op (val := fun p5 => (.map (some B3))) rfl rfl (fun _ => rfl) (fun _ p5 _ hx hf hy => OpT.move rfl) rfl ?_
   refine SegO.op (val := fun p5 => (.int .i64 x10)) rfl rfl (fun _ => rfl) (fun _ p5 _ hx hf hy => OpT.move rfl) rfl <| SegO.op (val := fun p5 => (.int .i64 ((fmGet m7 x10).getD 0))) rfl rfl (fun _ => rfl) (fun _ p5 _ hx hf hy => OpT.lookup (K := (mkI u3)) (M := (meI u3)) (i := 5) (k := x10) (z := 0) u75 ti3 (show F64 0 by decide) rfl rfl ha24 (hy 5 _ rfl rfl)) rfl <| SegO.op (val := fun p5 => (.agg #[(.int .u8 x21), (.int .u8 x22), (.int .i64 ((fmGet m7 x10).getD 0))])) rfl rfl (fun _ => rfl) (fun _ p5 _ hx hf hy => OpT.buildS (vs := [(0, (.int .u8 x21)), (1, (.int .u8 x22)), (2, (.int .i64 ((fmGet m7 x10).getD 0)))]) (cs := #[(.int .u8 x21), (.int .u8 x22), (.int .i64 ((fmGet m7 x10).getD 0))]) plf27 ti27 rfl rfl (vc_cons rfl (vc_cons rfl (vc_cons rfl (vc_nil)))) rfl) rfl <| SegO.op1s (res := fun p5 => .row (p5 17) 27 3 1 [(.int .u8 x21), (.int .u8 x22), (.int .i64 ((fmGet m7 x10).getD 0))]) 0 rfl rfl rfl (fun _ => rfl) (fun _ p5 _ hx hf hy => OpS.buildR1 (v := (.agg #[(.int .u8 x21), (.int .u8 x22), (.int .i64 ((fmGet m7 x10).getD 0))])) (cs := [(.int .u8 x21), (.int .u8 x22), (.int .i64 ((fmGet m7 x10).getD 0))]) 0 u28 ti27 rfl rfl rfl rfl rfl (hy 0 _ rfl rfl)) rfl (fun _ => ⟨_, _, _, _, rfl⟩) <| SegO.op1s (res := fun p5 => .row (p5 18) 27 3 (l4.length + 1) (xs5 ++ [(.int .u8 x21), (.int .u8 x22), (.int .i64 ((fmGet m7 x10).getD 0))])) 1 rfl rfl rfl (fun _ => rfl) (fun _ p5 _ hx hf hy => OpS.appR 1 0 u28 ti27 rfl rfl rfl rfl (hy 1 _ rfl rfl) (hy 0 _ rfl rfl) (ones_cons rfl (ones_cons rfl (ones_cons rfl (ones_nil)))) rfl ha25) rfl (fun _ => ⟨_, _, _, _, rfl⟩) <| SegO.op (val := fun p5 => (ptr (blkOf (p1 11)) 1)) rfl rfl (fun _ => rfl) (fun _ p5 _ hx hf hy => OpT.fld (o' := 1) fl30_1 rfl rfl) rfl <| SegO.op1n (res := fun p5 => .blk (blkOf (p1 11)) (.cells #[(.bool x6), (p5 18)] 30 (0, 0))) 2 rfl rfl rfl (fun _ => rfl) (fun _ p5 _ hx hf hy => OpS.stR (vs := [(p5 18)]) rfl rfl (cellsL (hf 18 rfl rfl)) ti28 rfl (ones_cons (hf 18 rfl rfl) (ones_nil)) (hy 2 _ rfl rfl) rfl rfl) <| SegO.done fun H9 p5 hl9 hF5 => ?_
   refine At.sub (L' := [(0, (ptr B0 0)), (2, (ptr B2 0)), (3, v6), (4, v13), (5, (.map (some B3))), (6, (ptr B4 0)), (7, (.int .i64 (k1:Int))), (8, (ptr (blkOf (p1 11)) 0)), (63, v10), (64, (.int .i64 (x8.length:Int))), (65, (.int .i64 (k2:Int)))]) (Sub.of rfl) ?_
   refine At.own (O := .row (p5 17) 27 3 ([(x21, x22, (fmGet m7 x10).getD 0)] : List (Int × Int × Int)).length [(.int .u8 x21), (.int .u8 x22), (.int .i64 ((fmGet m7 x10).getD 0))] :: .row (p5 18) 27 3 (l4 ++ ([(x21, x22, (fmGet m7 x10).getD 0)] : List (Int × Int × Int))).length (xs5 ++ [(.int .u8 x21), (.int .u8 x22), (.int .i64 ((fmGet m7 x10).getD 0))]) :: .blk (blkOf (p1 11)) (.cells #[(.bool x6), (p5 18)] 30 (0, 0)) :: .row v9 30 2 l2.length xs3 :: .blk B4 (.cells #[v9] 32 (0, 0)) :: mapR (mkI u3) (meI u3) B3 m7 :: .row v13 3 1 l5.length xs6 :: .blk B2 (.cells #[(.slice none 0 0)] 32 (0, 0)) :: .blk B0 (.cells #[v1, v2, v3, v4] 70 (0, 0)) :: O) ?_ (by first | rfl | (simp only [List.length_append, List.length_set]; rfl) | simp)
   have hq12 : LayL (cP cU8 (cP cU8 cI64)) H9 (l4 ++ ([(x21, x22, (fmGet m7 x10).getD 0)] : List (Int × Int × Int))) (xs5 ++ [(.int .u8 x21), (.int .u8 x22), (.int .i64 ((fmGet m7 x10).getD 0))]) := (LayL.app (hq5.mono (hl5.trans hl9)) (LayL.sing (c := (cP cU8 (cP cU8 cI64))) (a := (x21, x22, (fmGet m7 x10).getD 0)) (cs := [(.int .u8 x21), (.int .u8 x22), (.int .i64 ((fmGet m7 x10).getD 0))]) (⟨[(.int .u8 x21)], [(.int .u8 x22), (.int .i64 ((fmGet m7 x10).getD 0))], rfl, ⟨rfl, (show (0 : Int) ≤ x21 by omega), (show x21 ≤ (255 : Int) by omega)⟩, ⟨[(.int .u8 x22)], [(.int .i64 ((fmGet m7 x10).getD 0))], rfl, ⟨rfl, (show (0 : Int) ≤ x22 by omega), (show x22 ≤ (255 : Int) by omega)⟩, rfl⟩⟩)))
   refine At.permK [1, 2, 3, 4, 5, 6, 7, 8] 9 rfl rfl rfl <| At.blk_n <| At.then_n <| Wp.region <| Seg.op (OpT.add rfl rfl (fits64 (by omega))) rfl <| Seg.op (OpT.move rfl) rfl <| Seg.nil ?_
   refine At.nextF (hl5.trans hl9) ⟨l5, (l4 ++ ([(x21, x22, (fmGet m7 x10).getD 0)] : List (Int × Int × Int))), m7, (k2 + 1), v13, xs6, (p5 18), xs5 ++ [(.int .u8 x21), (.int .u8 x22), (.int .i64 ((fmGet m7 x10).getD 0))], rfl, rfl, (by rw [← hn2]; exact hd), (hq8.mono hl9), hq12⟩ (Sub.of rfl)
  replace hd := brF hb5 hd
  replace hb5 := of_decide_eq_false hb5
  refine Wp.exit <| At.then_x <| At.then_x <| At.blk_hit <| At.then_n ?_
  obtain ⟨ha26, hd⟩ := chk_some hd
  refine Wp.region <| Seg.op (OpT.fld (o' := 0) fl32_0 rfl rfl) rfl <| Seg.op (OpT.ldBlk (i := 3) (v := v9) u22 rfl rfl rfl rfl) rfl <| Seg.op (OpT.ldBlkW (i := 1) u30 rfl ti30 rfl rfl rfl) rfl ?_
  refine Seg.rowLe (i := 0) rfl fun hb11 => ?_
  refine Seg.freeze (i := 0) rfl fun H10 hl10 hs1 => ?_
  have hv7 := SlD.of (c := (cP cU8 (cP cU8 cI64))) hs1 rfl (hq5.mono hl10) hb11
  refine Seg.buildD1 (c := (cP cB (cL (cP cU8 (cP cU8 cI64))))) (y := (x6, l4)) (cs := [(.bool x6), v12]) u22 ti30 rfl rfl rfl rfl (⟨[(.bool x6)], [v12], rfl, rfl, ⟨_, rfl, hv7⟩⟩) rfl fun v16 xs9 hq13 => Seg.appD (i := 2) (j := 0) (hq3.mono ((hl3.trans hl4).trans hl10)) hq13 u22 ti30 rfl (by decide) rfl rfl rfl rfl (by decide) ha26 rfl fun v17 xs10 hq14 => Seg.drop (i := 0) <| Seg.op (OpT.fld (o' := 0) fl32_0 rfl rfl) rfl <| Seg.rowOne (i := 1) rfl fun ho1 => Seg.stBlk1 (i := 2) rfl rfl ho1 ti22 rfl (Nat.le_of_ble_eq_true rfl) ?_
  refine Seg.own (O := .blk (blkOf (p1 11)) (.cells #[(.bool x6), v12] 30 (0, 0)) :: .row v17 30 2 (l2 ++ ([(x6, l4)] : List (Bool × (List (Int × Int × Int))))).length xs10 :: .blk B4 (.cells #[v17] 32 (0, 0)) :: mapR (mkI u3) (meI u3) B3 m4 :: .row v11 3 1 l3.length xs4 :: .blk B2 (.cells #[(.slice none 0 0)] 32 (0, 0)) :: .blk B0 (.cells #[v1, v2, v3, v4] 70 (0, 0)) :: O) ?_ rfl
  refine Seg.nil <| At.blk_n <| At.then_n <| Wp.region <| Seg.op (OpT.move rfl) rfl <| Seg.op (OpT.add rfl rfl (fits64 (by omega))) rfl <| Seg.op (OpT.assign rfl) rfl <| Seg.nil ?_
  refine At.permK [1, 2, 3, 4, 5, 6] 7 rfl rfl rfl ?_
  refine At.nextF ((hl3.trans hl4).trans hl10) ⟨l3, (l2 ++ ([(x6, l4)] : List (Bool × (List (Int × Int × Int))))), m4, (k1 + 1), v11, xs4, v17, xs10, rfl, rfl, (by rw [← hn1]; exact hd), (hq4.mono hl10), hq14⟩ (Sub.of rfl)
 replace hd := brF hb3 hd
 replace hb3 := of_decide_eq_false hb3
 refine Wp.exit <| At.then_x <| At.then_x <| At.blk_hit <| At.then_n <| Wp.sr <| Seg.op (OpT.ldBlkW (i := 1) u32 rfl ti32 rfl rfl rfl) rfl <| Seg.rowOne (i := 0) rfl fun ho2 => ?_
 refine Seg.stBlkW (i := 4) (cs' := #[v9]) rfl rfl ti32 rfl rfl (onesA (ones_cons ho2 (ones_nil))) rfl ?_
 refine Seg.own (O := .row v9 30 2 l2.length xs3 :: .blk B4 (.cells #[v9] 32 (0, 0)) :: mapR (mkI u3) (meI u3) B3 m1 :: .row v8 3 1 l1.length xs2 :: .blk B2 (.cells #[v9] 32 (0, 0)) :: .blk B0 (.cells #[v1, v2, v3, v4] 70 (0, 0)) :: O) ?_ rfl
 refine Seg.nilT <| Wp.ret ?_
 refine At.rowLe (i := 0) rfl fun hb12 => ?_
 refine At.freeze (i := 0) rfl fun H11 hl11 hs2 => ?_
 have hv8 := SlD.of (c := (cP cB (cL (cP cU8 (cP cU8 cI64))))) hs2 rfl (hq3.mono hl11) hb12
 obtain rfl := Option.some.inj hd
 exact At.res1 rfl (RV.cellA (i := 3) rfl u32 rfl ti32 rfl rfl) (fun w hs => ⟨_, _, _, rfl, ((hl1.trans hl2).trans hl11), (hs.permK [4] 5 rfl rfl rfl), ⟨⟨v9, rfl, hv8⟩, rfl⟩⟩)

set_option maxRecDepth 100000 in
set_option maxHeartbeats 4000000 in
theorem au_table_signature_w {fu : Nat} {a0 : (List Int) × (List (List Int)) × (List Bool) × (List Int)} {a1 : Int} {v1 v2 v3 v4 : Value} {B0 : Nat} {r : Str} (hv1 : SlD cI64 H a0.1 v1) (hv2 : SlD (cL cI64) H a0.2.1 v2) (hv3 : SlD cB H a0.2.2.1 v3) (hv4 : SlD cI64 H a0.2.2.2 v4) (hG : LaidH Tryd.prog H) (hd : au_table_signature fu a0 a1 = some r) :
    TriV Tryd.prog 31 [(ptr B0 0), (.int .i64 a1)] H (.blk B0 (.cells #[v1, v2, v3, v4] 70 (0, 0)) :: O) (sv r) := by
 intro w hs
 refine wp_of Tryd.func31 rfl rfl rfl ?_ hs
 clear hs w
 unfold au_table_signature at hd
 refine Wp.sr <| Seg.op (OpT.assign rfl) rfl <| Seg.nilT <| Wp.sr <| Seg.alloc (cs := #[.pointer none, .slice none 0 0]) ti104 rfl rfl fun B2 => Seg.nilRow 5 1 ?_
 have hB10 : BldOk H B2 (.pointer none) (.slice none 0 0) [] [] := BldOk.new
 refine Seg.nilT <| Wp.seq ?_
 obtain ⟨x1, hx1, hd⟩ := bnd_some hd
 have hx1_ := idx_bd hx1
 obtain ⟨ha1, hd⟩ := chk_some hd
 obtain ⟨ha2, hd⟩ := chk_some hd
 refine Wp.region <| Seg.op (OpT.move rfl) rfl <| Seg.op (OpT.nilCheck rfl) rfl <| Seg.op (OpT.fld (o' := 3) fl70_3 rfl rfl) rfl <| Seg.op (OpT.ldBlk (i := 2) (v := v4) u66 rfl rfl rfl rfl) rfl <| Seg.op (OpT.move rfl) rfl ?_
 obtain ⟨_, rfl, hc1⟩ := SlD.get hv4 hx1
 refine Seg.op (OpT.ixSl u66 ti3 rfl hv4.sl rfl (idx_bd hx1)) rfl <| Seg.op (OpT.ldH u3 rfl rfl (hc1 0 _ rfl)) rfl <| Seg.op (OpT.call ent47 rfl (itoaT hG ha1)) rfl <| Seg.permK [1, 0, 2] 3 rfl rfl rfl <| Seg.opS (OpS.call ent46 rfl (bldW2 hB10 ha2)) rfl ?_
 rintro _ H1 _ hl1 ⟨v5, xs1, rfl, hB20, rfl⟩
 refine Seg.nilT <| Wp.seq <| Wp.seq ?_
 obtain ⟨x2, hx2, hd⟩ := bnd_some hd
 have hx2_ := idx_bd hx2
 refine Wp.region <| Seg.op (OpT.move rfl) rfl <| Seg.op (OpT.nilCheck rfl) rfl <| Seg.op (OpT.fld (o' := 1) fl70_1 rfl rfl) rfl <| Seg.op (OpT.ldBlk (i := 2) (v := v2) u58 rfl rfl rfl rfl) rfl <| Seg.op (OpT.move rfl) rfl ?_
 obtain ⟨_, ⟨v6, rfl, hv5⟩, hc2⟩ := SlD.get (hv2.mono hl1) hx2
 refine Seg.op (OpT.ixSl u58 ti66 rfl (hv2.mono hl1).sl rfl (idx_bd hx2)) rfl <| Seg.op (OpT.ldH u66 rfl rfl (hc2 0 _ rfl)) rfl ?_
 have hb1 := hv5.le
 refine Seg.op (OpT.len u66 rfl hv5.sl) rfl <| Seg.op (OpT.move rfl) rfl <| Seg.nilT <| Wp.block <| Wp.loopF (fun m LL HH OO => ∃ (l1 : Str), ∃ (k1 : Nat), ∃ (a30 : Value), ∃ (v7 : Value), ∃ (xs2 : List Value), [(0, (ptr B0 0)), (5, (ptr B2 0)), (23, v6), (24, (.int .i64 (x2.length:Int))), (25, (.int .i64 (k1:Int)))] = LL ∧ .blk B2 (.cells #[a30, v7] 104 (0, 0)) :: .row v7 5 1 l1.length xs2 :: .blk B0 (.cells #[v1, v2, v3, v4] 70 (0, 0)) :: O = OO ∧ loopK m (fun p nx => au_table_signature_b1 fu a0 x2 p.1 p.2 nx) (l1, k1) = some r ∧ BldOk HH B2 a30 v7 l1 xs2) fu ⟨(([] : Str) ++ (Lib.itoa x1)), 0, (ptr B2 0), v5, xs1, rfl, rfl, hd, hB20⟩ (Sub.of rfl) ?_
 intro m1 L1 H2 O1 hl2 hI1
 obtain ⟨l1, k1, a30, v7, xs2, rfl, rfl, hd, hB69⟩ := hI1
 replace hd := loopK_some hd; obtain ⟨m2, rfl, hd⟩ := hd
 obtain ⟨nx1, hn1⟩ : ∃ f, f = loopK m2 (fun p nx => au_table_signature_b1 fu a0 x2 p.1 p.2 nx) := ⟨_, rfl⟩
 rw [← hn1] at hd
 replace hd : au_table_signature_b1 fu a0 x2 l1 k1 nx1 = some r := hd
 unfold au_table_signature_b1 at hd
 refine Wp.sr <| Seg.op (OpT.lss rfl rfl) rfl <| Seg.nilT <| Wp.seq ?_
 refine Wp.cond (b := decide ((k1:Int) < (x2.length:Int))) rfl (fun hb2 => ?_) (fun hb2 => ?_)
 ·
  replace hd := brT hb2 hd
  replace hb2 := of_decide_eq_true hb2
  refine Wp.skip <| At.then_n <| Wp.seq <| Wp.block <| Wp.seq ?_
  obtain ⟨x3, hx3, hd⟩ := bnd_some hd
  have hx3_ := idx_bd hx3
  refine Wp.region ?_
  obtain ⟨_, rfl, hc3⟩ := SlD.get (hv5.mono hl2) hx3
  refine Seg.op (OpT.ixSl u66 ti3 rfl (hv5.mono hl2).sl rfl (idx_bd hx3)) rfl <| Seg.op (OpT.ldH u3 rfl rfl (hc3 0 _ rfl)) rfl <| Seg.op (OpT.assign rfl) rfl <| Seg.nilT ?_
  obtain ⟨x4, hx4, hd⟩ := bnd_some hd
  have hx4_ := idx_bd hx4
  obtain ⟨ha3, hd⟩ := chk_some hd
  obtain ⟨ha4, hd⟩ := chk_some hd
  obtain ⟨ha5, hd⟩ := chk_some hd
  refine Wp.region <| Seg.op (OpT.move rfl) rfl <| Seg.op (OpT.nilCheck rfl) rfl <| Seg.op (OpT.fld (o' := 3) fl70_3 rfl rfl) rfl <| Seg.op (OpT.ldBlk (i := 2) (v := v4) u66 rfl rfl rfl rfl) rfl <| Seg.op (OpT.move rfl) rfl ?_
  obtain ⟨_, rfl, hc4⟩ := SlD.get (hv4.mono (hl1.trans hl2)) hx4
  refine Seg.op (OpT.ixSl u66 ti3 rfl (hv4.mono (hl1.trans hl2)).sl rfl (idx_bd hx4)) rfl <| Seg.op (OpT.ldH u3 rfl rfl (hc4 0 _ rfl)) rfl <| Seg.op (OpT.call ent47 rfl (itoaT (hG.mono (hl1.trans hl2)) ha3)) rfl <| Seg.op (OpT.catStr rfl rfl ha4) rfl <| Seg.opS (OpS.call ent46 rfl (bldW2 hB69 ha5)) rfl ?_
  rintro _ H3 _ hl3 ⟨v8, xs3, rfl, hB93, rfl⟩
  refine Seg.nil <| At.blk_n <| At.then_n <| Wp.region <| Seg.op (OpT.add rfl rfl (fits64 (by omega))) rfl <| Seg.op (OpT.move rfl) rfl <| Seg.nil ?_
  refine At.nextF hl3 ⟨(l1 ++ (([44] : Str) ++ (Lib.itoa x4))), (k1 + 1), (ptr B2 0), v8, xs3, rfl, rfl, (by rw [← hn1]; exact hd), hB93⟩ (Sub.of rfl)
 replace hd := brF hb2 hd
 replace hb2 := of_decide_eq_false hb2
 refine Wp.exit <| At.then_x <| At.then_x <| At.blk_hit <| At.then_n <| Wp.sr <| Seg.opS (OpS.call ent48 rfl (bldS2 hB69)) rfl ?_
 rintro _ H4 _ hl4 ⟨rfl, rfl⟩
 refine Seg.op (OpT.assign rfl) rfl <| Seg.nilT <| Wp.ret ?_
 obtain rfl := Option.some.inj hd
 exact At.res1 rfl (RV.tmp (v := (sv l1)) rfl) (fun w hs => ⟨rfl, (hs.permK [0] 1 rfl rfl rfl).weaken ((hl1.trans hl2).trans hl4)⟩)

set_option maxRecDepth 100000 in
set_option maxHeartbeats 4000000 in
theorem au_table_refine_w {fu : Nat} {a0 : (List Int) × (List (List Int)) × (List Bool) × (List Int)} {v1 v2 v3 v4 : Value} {B0 : Nat} {r : (List Int) × (List (List Int)) × (List Bool) × (List Int)} (hv1 : SlD cI64 H a0.1 v1) (hv2 : SlD (cL cI64) H a0.2.1 v2) (hv3 : SlD cB H a0.2.2.1 v3) (hv4 : SlD cI64 H a0.2.2.2 v4) (hG : LaidH Tryd.prog H) (hd : au_table_refine fu a0 = some r) :
    Tri Tryd.prog 20 [(ptr B0 0)] H (.blk B0 (.cells #[v1, v2, v3, v4] 70 (0, 0)) :: O) (fun v H' O' => ∃ r', (∃ v5 : Value, ∃ v6 : Value, ∃ v7 : Value, ∃ v8 : Value, (.tuple #[]) = v ∧ SlD cI64 H' r.1 v5 ∧ SlD (cL cI64) H' r.2.1 v6 ∧ SlD cB H' r.2.2.1 v7 ∧ SlD cI64 H' r.2.2.2 v8 ∧ .blk B0 (.cells #[v5, v6, v7, v8] 70 (0, 0)) = r') ∧ r' :: O = O') := by
 intro w hs
 refine wp_of Tryd.func20 rfl rfl rfl ?_ hs
 clear hs w
 unfold au_table_refine at hd
 refine Wp.scope <| Wp.seq ?_
 obtain ⟨ha1, hd⟩ := chk_some hd
 refine Wp.region <| Seg.op (OpT.move rfl) rfl <| Seg.op (OpT.move rfl) rfl <| Seg.op (OpT.nilCheck rfl) rfl <| Seg.op (OpT.fld (o' := 1) fl70_1 rfl rfl) rfl <| Seg.op (OpT.ldBlk (i := 0) (v := v2) u58 rfl rfl rfl rfl) rfl ?_
 have hb1 := hv2.le
 refine Seg.op (OpT.len u58 rfl hv2.sl) rfl <| Seg.makeD (c := cI64) (z := 0) (m := a0.2.1.length) u66 ti3 rfl rfl ha1 (rfl) rfl rfl rfl fun v9 xs1 hq1 => Seg.op (OpT.nilCheck rfl) rfl <| Seg.op (OpT.fld (o' := 3) fl70_3 rfl rfl) rfl <| Seg.rowOne (i := 0) rfl fun ho1 => Seg.stBlk1 (i := 1) rfl rfl ho1 ti66 rfl (Nat.le_of_ble_eq_true rfl) ?_
 refine Seg.own (O := .row v9 3 1 (List.replicate a0.2.1.length 0 : List Int).length xs1 :: .blk B0 (.cells #[v1, v2, v3, v9] 70 (0, 0)) :: O) ?_ rfl
 refine Seg.nilT <| Wp.seq <| Wp.sr <| Seg.op (OpT.move rfl) rfl <| Seg.op (OpT.nilCheck rfl) rfl <| Seg.op (OpT.fld (o' := 2) fl70_2 rfl rfl) rfl <| Seg.op (OpT.ldBlk (i := 1) (v := v3) u68 rfl rfl rfl rfl) rfl ?_
 have hb2 := hv3.le
 refine Seg.op (OpT.len u68 rfl hv3.sl) rfl <| Seg.op (OpT.move rfl) rfl <| Seg.nilT <| Wp.block <| Wp.loopF (fun m LL HH OO => ∃ (l1 : List Int), ∃ (k1 : Nat), ∃ (v10 : Value), ∃ (xs2 : List Value), [(0, (ptr B0 0)), (24, v3), (25, (.int .i64 (a0.2.2.1.length:Int))), (26, (.int .i64 (k1:Int)))] = LL ∧ .row v10 3 1 l1.length xs2 :: .blk B0 (.cells #[v1, v2, v3, v10] 70 (0, 0)) :: O = OO ∧ loopK m (fun p nx => au_table_refine_b1 fu a0 p.1 p.2 nx) (l1, k1) = some r ∧ LayL cI64 HH l1 xs2) fu ⟨(List.replicate a0.2.1.length 0 : List Int), 0, v9, xs1, rfl, rfl, hd, hq1⟩ (Sub.of rfl) ?_
 intro m1 L1 H1 O1 hl1 hI1
 obtain ⟨l1, k1, v10, xs2, rfl, rfl, hd, hq2⟩ := hI1
 replace hd := loopK_some hd; obtain ⟨m2, rfl, hd⟩ := hd
 obtain ⟨nx1, hn1⟩ : ∃ f, f = loopK m2 (fun p nx => au_table_refine_b1 fu a0 p.1 p.2 nx) := ⟨_, rfl⟩
 rw [← hn1] at hd
 replace hd : au_table_refine_b1 fu a0 l1 k1 nx1 = some r := hd
 unfold au_table_refine_b1 at hd
 refine Wp.sr <| Seg.op (OpT.lss rfl rfl) rfl <| Seg.nilT <| Wp.seq ?_
 refine Wp.cond (b := decide ((k1:Int) < (a0.2.2.1.length:Int))) rfl (fun hb3 => ?_) (fun hb3 => ?_)
 ·
  replace hd := brT hb3 hd
  replace hb3 := of_decide_eq_true hb3
  refine Wp.skip <| At.then_n <| Wp.seq <| Wp.block <| Wp.seq ?_
  obtain ⟨x1, hx1, hd⟩ := bnd_some hd
  have hx1_ := idx_bd hx1
  refine Wp.region <| Seg.op (OpT.move rfl) rfl ?_
  obtain ⟨_, rfl, hc1⟩ := SlD.get (hv3.mono hl1) hx1
  refine Seg.op (OpT.ixSl u68 ti4 rfl (hv3.mono hl1).sl rfl (idx_bd hx1)) rfl <| Seg.op (OpT.ldH u4 rfl rfl (hc1 0 _ rfl)) rfl <| Seg.op (OpT.assign rfl) rfl <| Seg.op (OpT.assign rfl) rfl <| Seg.nilT <| Wp.sr <| Seg.op (OpT.move rfl) rfl <| Seg.nilT ?_
  refine Wp.cond (b := x1) rfl (fun hb4 => ?_) (fun hb4 => ?_)
  ·
   replace hd := brT hb4 hd
   obtain ⟨x2, hx2, hd⟩ := bnd_some hd
   have hx2_ := idx_bd hx2
   refine Wp.region <| Seg.op (OpT.move rfl) rfl <| Seg.op (OpT.nilCheck rfl) rfl <| Seg.op (OpT.fld (o' := 3) fl70_3 rfl rfl) rfl <| Seg.op (OpT.ldBlk (i := 1) (v := v10) u66 rfl rfl rfl rfl) rfl <| Seg.op (OpT.move rfl) rfl ?_
   obtain ⟨_, rfl, hc2, hc2_⟩ := LayL.get hq2 (idx_some hx2).2
   refine Seg.op (OpT.ixRow (j := 0) u66 ti3 rfl rfl rfl (idx_bd hx2)) rfl ?_
   refine Seg.stD (q := 0) (off := 0) (vs := [(.int .i64 1)]) (y := 1) (cs := [(.int .i64 x2)]) hq2 hx2 hc2_ rfl rfl rfl ti3 rfl rfl (ones_cons rfl (ones_nil)) rfl (rfl) rfl (fun xs3 hq3 => ?_)
   refine Seg.nil <| At.blk_n <| At.then_n <| Wp.region <| Seg.op (OpT.add rfl rfl (fits64 (by omega))) rfl <| Seg.op (OpT.move rfl) rfl <| Seg.nil ?_
   refine At.nextF (Hp.le.refl _) ⟨(l1.set k1 1), (k1 + 1), v10, xs3, rfl, rfl, (by rw [← hn1]; exact hd), hq3⟩ (Sub.of rfl)
  replace hd := brF hb4 hd
  refine Wp.skip <| At.blk_n <| At.then_n <| Wp.region <| Seg.op (OpT.add rfl rfl (fits64 (by omega))) rfl <| Seg.op (OpT.move rfl) rfl <| Seg.nil ?_
  refine At.nextF (Hp.le.refl _) ⟨l1, (k1 + 1), v10, xs2, rfl, rfl, (by rw [← hn1]; exact hd), hq2⟩ (Sub.of rfl)
 replace hd := brF hb3 hd
 replace hb3 := of_decide_eq_false hb3
 refine Wp.exit <| At.then_x <| At.then_x <| At.blk_hit <| At.then_n <| Wp.sr <| Seg.op (OpT.assign rfl) rfl <| Seg.nilT ?_
 refine Wp.sr <| Seg.op (OpT.move rfl) rfl <| Seg.op (OpT.makeFunc (vf := [(ptr B0 0)]) (vc := []) rfl rfl) rfl <| Seg.op (OpT.assign rfl) rfl <| Seg.nilT <| Wp.seq <| Wp.label <| At.then_n ?_
 refine Wp.block <| Wp.loopF (fun m LL HH OO => ∃ (k2 : Nat), ∃ (l2 : List Int), ∃ (v11 : Value), ∃ (xs4 : List Value), [(0, (ptr B0 0)), (4, (.int .i64 (k2:Int))), (5, (.func (.func 31) #[(ptr B0 0)] #[]))] = LL ∧ .row v11 3 1 l2.length xs4 :: .blk B0 (.cells #[v1, v2, v3, v11] 70 (0, 0)) :: O = OO ∧ loopK m (fun p nx => au_table_refine_b8 fu a0 p.1 p.2 nx) (k2, l2) = some r ∧ LayL cI64 HH l2 xs4) fu ⟨0, l1, v10, xs2, rfl, rfl, hd, hq2⟩ (Sub.of rfl) ?_
 intro m3 L2 H2 O2 hl2 hI2
 obtain ⟨k2, l2, v11, xs4, rfl, rfl, hd, hq4⟩ := hI2
 replace hd := loopK_some hd; obtain ⟨m4, rfl, hd⟩ := hd
 obtain ⟨nx2, hn2⟩ : ∃ f, f = loopK m4 (fun p nx => au_table_refine_b8 fu a0 p.1 p.2 nx) := ⟨_, rfl⟩
 rw [← hn2] at hd
 replace hd : au_table_refine_b8 fu a0 k2 l2 nx2 = some r := hd
 unfold au_table_refine_b8 at hd
 refine Wp.block <| Wp.sr <| Seg.makeMap (mkS u9) (meI u3) rfl fun B2 => Seg.op (OpT.assign rfl) rfl <| Seg.nilT <| Wp.seq ?_
 obtain ⟨ha2, hd⟩ := chk_some hd
 refine Wp.region <| Seg.op (OpT.move rfl) rfl <| Seg.op (OpT.nilCheck rfl) rfl <| Seg.op (OpT.fld (o' := 1) fl70_1 rfl rfl) rfl <| Seg.op (OpT.ldBlk (i := 2) (v := v2) u58 rfl rfl rfl rfl) rfl ?_
 have hb5 := hv2.le
 refine Seg.op (OpT.len u58 rfl (hv2.mono (hl1.trans hl2)).sl) rfl <| Seg.makeD (c := cI64) (z := 0) (m := a0.2.1.length) u66 ti3 rfl rfl ha2 (rfl) rfl rfl rfl fun v12 xs5 hq5 => Seg.op (OpT.assign rfl) rfl <| Seg.nilT <| Wp.seq <| Wp.sr <| Seg.op (OpT.move rfl) rfl <| Seg.op (OpT.nilCheck rfl) rfl ?_
 refine Seg.op (OpT.fld (o' := 1) fl70_1 rfl rfl) rfl <| Seg.op (OpT.ldBlk (i := 3) (v := v2) u58 rfl rfl rfl rfl) rfl ?_
 have hb6 := hv2.le
 refine Seg.op (OpT.len u58 rfl (hv2.mono (hl1.trans hl2)).sl) rfl <| Seg.op (OpT.move rfl) rfl <| Seg.nilT <| Wp.block ?_
 refine Wp.rowLe (i := 2) rfl fun hb7 => ?_
 refine Wp.freeze (i := 2) rfl fun H3 hl3 hs1 => ?_
 have hv5 := SlD.of (c := cI64) hs1 rfl (hq4.mono hl3) hb7
 refine Wp.loopF (fun m LL HH OO => ∃ (l3 : List Int), ∃ (l4 : List Int), ∃ (m5 : List (Str × Int)), ∃ (k3 : Nat), ∃ (v13 : Value), ∃ (v14 : Value), ∃ (xs6 : List Value), [(0, (ptr B0 0)), (4, (.int .i64 (k2:Int))), (5, (.func (.func 31) #[(ptr B0 0)] #[])), (6, (.map (some B2))), (7, v14), (52, (.int .i64 (a0.2.1.length:Int))), (53, (.int .i64 (k3:Int)))] = LL ∧ .row v14 3 1 l4.length xs6 :: mapR (mkS u9) (meI u3) B2 m5 :: .blk B0 (.cells #[v1, v2, v3, v13] 70 (0, 0)) :: O = OO ∧ loopK m (fun p nx => au_table_refine_b11 fu a0 k2 nx2 p.1 p.2.1 p.2.2.1 p.2.2.2 nx) (l3, l4, m5, k3) = some r ∧ SlD cI64 HH l3 v13 ∧ LayL cI64 HH l4 xs6) fu ⟨l2, (List.replicate a0.2.1.length 0 : List Int), ([] : List (Str × Int)), 0, v11, v12, xs5, rfl, rfl, hd, hv5, (hq5.mono hl3)⟩ (Sub.of rfl) ?_
 intro m6 L3 H4 O3 hl4 hI3
 obtain ⟨l3, l4, m5, k3, v13, v14, xs6, rfl, rfl, hd, hv6, hq6⟩ := hI3
 replace hd := loopK_some hd; obtain ⟨m7, rfl, hd⟩ := hd
 obtain ⟨nx3, hn3⟩ : ∃ f, f = loopK m7 (fun p nx => au_table_refine_b11 fu a0 k2 nx2 p.1 p.2.1 p.2.2.1 p.2.2.2 nx) := ⟨_, rfl⟩
 rw [← hn3] at hd
 replace hd : au_table_refine_b11 fu a0 k2 nx2 l3 l4 m5 k3 nx3 = some r := hd
 unfold au_table_refine_b11 at hd
 refine Wp.sr <| Seg.op (OpT.lss rfl rfl) rfl <| Seg.nilT <| Wp.seq ?_
 refine Wp.cond (b := decide ((k3:Int) < (a0.2.1.length:Int))) rfl (fun hb8 => ?_) (fun hb8 => ?_)
 ·
  replace hd := brT hb8 hd
  replace hb8 := of_decide_eq_true hb8
  refine Wp.skip <| At.then_n <| Wp.seq <| Wp.block <| Wp.sr <| Seg.op (OpT.move rfl) rfl <| Seg.op (OpT.assign rfl) rfl <| Seg.nilT ?_
  refine Wp.seq ?_
  obtain ⟨x3, hx3, hd⟩ := bnd_some hd
  refine Wp.region <| Seg.op (OpT.move rfl) rfl <| Seg.op (OpT.move rfl) rfl <| Seg.op (OpT.callC (first := [(ptr B0 0)]) ent31 rfl rfl (TriV.at 2 rfl (au_table_signature_w (a0 := (a0.1, a0.2.1, a0.2.2.1, l3)) (hv1.mono (((hl1.trans hl2).trans hl3).trans hl4)) (hv2.mono (((hl1.trans hl2).trans hl3).trans hl4)) (hv3.mono (((hl1.trans hl2).trans hl3).trans hl4)) hv6 (hG.mono (((hl1.trans hl2).trans hl3).trans hl4)) hx3))) rfl <| Seg.op (OpT.assign rfl) rfl <| Seg.nilT <| Wp.seq ?_
  obtain ⟨ha3, hd⟩ := chk_some hd
  refine Wp.region <| Seg.op (OpT.move rfl) rfl <| Seg.op (OpT.move rfl) rfl <| Seg.op (OpT.lookupOk (K := (mkS u9)) (M := (meI u3)) (i := 1) (k := x3) (z := 0) u72 ti3 (show F64 0 by decide) rfl rfl ha3 rfl) rfl <| Seg.op (OpT.move rfl) rfl <| Seg.op (OpT.extract rfl rfl) rfl <| Seg.op (OpT.extract rfl rfl) rfl <| Seg.op (OpT.assign rfl) rfl ?_
  refine Seg.op (OpT.assign rfl) rfl <| Seg.nilT <| Wp.seq <| Wp.sr <| Seg.op (OpT.move rfl) rfl <| Seg.op (OpT.not rfl) rfl <| Seg.nilT ?_
  refine Wp.joinT (fun LL HH OO => ∃ (m8 : List (Str × Int)), ∃ (i1 : Int), [(0, (ptr B0 0)), (4, (.int .i64 (k2:Int))), (5, (.func (.func 31) #[(ptr B0 0)] #[])), (6, (.map (some B2))), (7, v14), (8, (.int .i64 (k3:Int))), (10, (.int .i64 i1)), (52, (.int .i64 (a0.2.1.length:Int))), (53, (.int .i64 (k3:Int)))] = LL ∧ .row v14 3 1 l4.length xs6 :: mapR (mkS u9) (meI u3) B2 m8 :: .blk B0 (.cells #[v1, v2, v3, v13] 70 (0, 0)) :: O = OO ∧ au_table_refine_j12 fu l3 l4 k3 nx3 m8 i1 = some r) ?_ ?_
  ·
   refine Wp.cond (b := !((fmGet m5 x3).isSome)) rfl (fun hb9 => ?_) (fun hb9 => ?_)
   ·
    replace hd := brT hb9 hd
    refine Wp.sr <| Seg.op (OpT.move rfl) rfl <| Seg.op (OpT.lenMap (K := (mkS u9)) (M := (meI u3)) (i := 1) u72 rfl rfl) rfl <| Seg.op (OpT.assign rfl) rfl <| Seg.nilT ?_
    obtain ⟨ha4, hd⟩ := chk_some hd
    obtain ⟨ha5, hd⟩ := chk_some hd
    obtain ⟨ha6, hd⟩ := chk_some hd
    refine Wp.region <| Seg.op (OpT.move rfl) rfl <| Seg.op (OpT.move rfl) rfl <| Seg.op (OpT.move rfl) rfl <| Seg.mapUpdate (K := (mkS u9)) (M := (meI u3)) (k := x3) (v := (m5.length:Int)) 1 u72 rfl rfl rfl ha4 ha5 ha6 rfl <| Seg.nil ?_
    refine At.joinF (Hp.le.refl _) ⟨(fmPut m5 x3 (m5.length:Int)), (m5.length:Int), rfl, rfl, hd⟩ (Sub.of rfl)
   replace hd := brF hb9 hd
   refine Wp.skip ?_
   refine At.joinF (Hp.le.refl _) ⟨m5, ((fmGet m5 x3).getD 0), rfl, rfl, hd⟩ (Sub.of rfl)
  intro L4 H5 O4 hl5 hI4
  obtain ⟨m8, i1, rfl, rfl, hd⟩ := hI4
  unfold au_table_refine_j12 at hd
  obtain ⟨x4, hx4, hd⟩ := bnd_some hd
  have hx4_ := idx_bd hx4
  refine Wp.region <| Seg.op (OpT.move rfl) rfl <| Seg.op (OpT.move rfl) rfl <| Seg.op (OpT.move rfl) rfl ?_
  obtain ⟨_, rfl, hc3, hc3_⟩ := LayL.get (hq6.mono hl5) (idx_some hx4).2
  refine Seg.op (OpT.ixRow (j := 0) u66 ti3 rfl rfl rfl (idx_bd hx4)) rfl ?_
  refine Seg.stD (q := 0) (off := 0) (vs := [(.int .i64 i1)]) (y := i1) (cs := [(.int .i64 x4)]) (hq6.mono hl5) hx4 hc3_ rfl rfl rfl ti3 rfl rfl (ones_cons rfl (ones_nil)) rfl (rfl) rfl (fun xs7 hq7 => ?_)
  refine Seg.nil <| At.blk_n <| At.then_n <| Wp.region <| Seg.op (OpT.add rfl rfl (fits64 (by omega))) rfl <| Seg.op (OpT.move rfl) rfl <| Seg.nil ?_
  refine At.nextF hl5 ⟨l3, (l4.set k3 i1), m8, (k3 + 1), v13, v14, xs7, rfl, rfl, (by rw [← hn3]; exact hd), (hv6.mono hl5), hq7⟩ (Sub.of rfl)
 replace hd := brF hb8 hd
 replace hb8 := of_decide_eq_false hb8
 refine Wp.exit <| At.then_x <| At.then_x <| At.blk_hit <| At.then_n <| Wp.sr <| Seg.op (OpT.move rfl) rfl <| Seg.op (OpT.move rfl) rfl ?_
 refine Seg.op (OpT.nilCheck rfl) rfl <| Seg.op (OpT.fld (o' := 3) fl70_3 rfl rfl) rfl <| Seg.rowOne (i := 0) rfl fun ho2 => Seg.stBlk1 (i := 2) rfl rfl ho2 ti66 rfl (Nat.le_of_ble_eq_true rfl) ?_
 refine Seg.own (O := .row v14 3 1 l4.length xs6 :: mapR (mkS u9) (meI u3) B2 m5 :: .blk B0 (.cells #[v1, v2, v3, v14] 70 (0, 0)) :: O) ?_ rfl
 refine Seg.nilT <| Wp.seq <| Wp.sr <| Seg.op (OpT.move rfl) rfl <| Seg.op (OpT.lenMap (K := (mkS u9)) (M := (meI u3)) (i := 1) u72 rfl rfl) rfl <| Seg.op (OpT.move rfl) rfl <| Seg.op (OpT.eql rfl rfl) rfl <| Seg.nilT ?_
 refine Wp.cond (b := decide ((m5.length:Int) = (k2:Int))) rfl (fun hb10 => ?_) (fun hb10 => ?_)
 ·
  replace hd := brT hb10 hd
  replace hb10 := of_decide_eq_true hb10
  refine Wp.exit <| At.then_x <| At.blk_miss rfl <| At.then_x <| At.blk_hit <| At.ng_n ?_
  refine At.rowLe (i := 0) rfl fun hb11 => ?_
  refine At.freeze (i := 0) rfl fun H6 hl6 hs2 => ?_
  have hv7 := SlD.of (c := cI64) hs2 rfl (hq6.mono hl6) hb11
  obtain rfl := Option.some.inj hd
  exact At.res0n rfl  (fun w hs => ⟨_, _, _, rfl, ((((hl1.trans hl2).trans hl3).trans hl4).trans hl6), (hs.permK [1] 2 rfl rfl rfl), ⟨_, ⟨v1, v2, v3, v14, rfl, (hv1.mono ((((hl1.trans hl2).trans hl3).trans hl4).trans hl6)), (hv2.mono ((((hl1.trans hl2).trans hl3).trans hl4).trans hl6)), (hv3.mono ((((hl1.trans hl2).trans hl3).trans hl4).trans hl6)), hv7, rfl⟩, rfl⟩⟩)
 replace hd := brF hb10 hd
 replace hb10 := of_decide_eq_false hb10
 refine Wp.skip <| At.then_n <| Wp.region <| Seg.op (OpT.move rfl) rfl <| Seg.op (OpT.lenMap (K := (mkS u9)) (M := (meI u3)) (i := 1) u72 rfl rfl) rfl <| Seg.op (OpT.assign rfl) rfl <| Seg.nil <| At.blk_n ?_
 refine At.permK [0, 2] 3 rfl rfl rfl ?_
 refine At.nextF (hl3.trans hl4) ⟨m5.length, l4, v14, xs6, rfl, rfl, (by rw [← hn2]; exact hd), hq6⟩ (Sub.of rfl)

set_option maxRecDepth 100000 in
set_option maxHeartbeats 4000000 in
theorem au_Minimal_w {fu : Nat} {a0 : List (Bool × (List (Int × Int × Int)))} {v1 : Value} {r : (List (Bool × (List (Int × Int × Int)))) × Int} (hv1 : SlD (cP cB (cL (cP cU8 (cP cU8 cI64)))) H a0 v1) (hG : LaidH Tryd.prog H) (hd : au_Minimal fu a0 = some r) :
    Tri Tryd.prog 9 [v1] H O (fun v H' O' => (∃ v2 : Value, (.tuple #[(.agg #[v2]), (.int .i64 r.2)]) = v ∧ SlD (cP cB (cL (cP cU8 (cP cU8 cI64)))) H' r.1 v2) ∧ O = O') := by
 intro w hs
 refine wp_of Tryd.func9 rfl rfl rfl ?_ hs
 clear hs w
 unfold au_Minimal at hd
 refine Wp.sr <| Seg.alloc (cs := #[(.slice none 0 0)]) ti32 rfl rfl fun B2 => Seg.op (OpT.assign rfl) rfl <| Seg.nilT <| Wp.seq <| Wp.seq ?_
 obtain ⟨x1, hx1, hd⟩ := bnd_some hd
 refine Wp.region <| Seg.op (OpT.move rfl) rfl <| Seg.op (OpT.call ent18 rfl (au_wellFormed_w hv1 hx1)) rfl <| Seg.op (OpT.not rfl) rfl <| Seg.nilT ?_
 refine Wp.cond (b := !x1) rfl (fun hb1 => ?_) (fun hb1 => ?_)
 ·
  replace hd := brT hb1 hd
  refine Wp.sr <| Seg.op (OpT.buildS (vs := []) (cs := #[(.slice none 0 0)]) plf32 ti32 rfl rfl (vc_nil) rfl) rfl <| Seg.stBlkW (i := 0) (cs' := #[(.slice none 0 0)]) rfl rfl ti32 rfl rfl (onesA (ones_cons rfl (ones_nil))) rfl ?_
  refine Seg.own (O := .blk B2 (.cells #[(.slice none 0 0)] 32 (0, 0)) :: O) ?_ rfl
  refine Seg.op (OpT.assign rfl) rfl <| Seg.nilT <| Wp.ret <| At.then_r ?_
  obtain rfl := Option.some.inj hd
  exact At.res2 rfl (RV.cellA (i := 0) rfl u32 rfl ti32 rfl rfl) (RV.tmp (v := (.int .i64 11)) rfl) (fun w hs => ⟨_, _, _, rfl, (Hp.le.refl _), (hs.dropN 1), ⟨⟨(.slice none 0 0), rfl, SlD.nil⟩, rfl⟩⟩)
 replace hd := brF hb1 hd
 refine Wp.skip <| At.then_n <| Wp.seq <| Wp.sr <| Seg.op (OpT.move rfl) rfl ?_
 have hb2 := hv1.le
 refine Seg.op (OpT.len u22 rfl hv1.sl) rfl <| Seg.op (OpT.eql rfl rfl) rfl <| Seg.nilT ?_
 refine Wp.cond (b := decide ((a0.length:Int) = 0)) rfl (fun hb3 => ?_) (fun hb3 => ?_)
 ·
  replace hd := brT hb3 hd
  replace hb3 := of_decide_eq_true hb3
  refine Wp.sr <| Seg.op (OpT.buildS (vs := []) (cs := #[(.slice none 0 0)]) plf32 ti32 rfl rfl (vc_nil) rfl) rfl <| Seg.stBlkW (i := 0) (cs' := #[(.slice none 0 0)]) rfl rfl ti32 rfl rfl (onesA (ones_cons rfl (ones_nil))) rfl ?_
  refine Seg.own (O := .blk B2 (.cells #[(.slice none 0 0)] 32 (0, 0)) :: O) ?_ rfl
  refine Seg.op (OpT.assign rfl) rfl <| Seg.nilT <| Wp.ret <| At.then_r ?_
  obtain rfl := Option.some.inj hd
  exact At.res2 rfl (RV.cellA (i := 0) rfl u32 rfl ti32 rfl rfl) (RV.tmp (v := (.int .i64 0)) rfl) (fun w hs => ⟨_, _, _, rfl, (Hp.le.refl _), (hs.dropN 1), ⟨⟨(.slice none 0 0), rfl, SlD.nil⟩, rfl⟩⟩)
 replace hd := brF hb3 hd
 replace hb3 := of_decide_eq_false hb3
 refine Wp.skip <| At.then_n <| Wp.seq ?_
 obtain ⟨x2, hx2, hd⟩ := bnd_some hd
 refine Wp.region <| Seg.op (OpT.move rfl) rfl <| Seg.opS (OpS.call ent19 rfl (au_complete_w hv1 hx2)) rfl ?_
 rintro _ H1 _ hl1 ⟨B3, v3, v4, v5, v6, rfl, hv2, hv3, hv4, hv5, rfl⟩
 refine Seg.op (OpT.assign rfl) rfl <| Seg.nilT <| Wp.seq ?_
 obtain ⟨x3, hx3, hd⟩ := bnd_some hd
 refine Wp.region <| Seg.op (OpT.move rfl) rfl <| Seg.opS (OpS.call ent20 rfl (Tri.at 0 rfl (au_table_refine_w hv2 hv3 hv4 hv5 (hG.mono hl1) hx3))) rfl ?_
 rintro _ H2 _ hl2 ⟨_, ⟨v7, v8, v9, v10, rfl, hv6, hv7, hv8, hv9, rfl⟩, rfl⟩
 refine Seg.nilT <| Wp.seq ?_
 obtain ⟨x4, hx4, hd⟩ := bnd_some hd
 refine Wp.region <| Seg.op (OpT.move rfl) rfl <| Seg.opS (OpS.call ent21 rfl (Tri.atR 0 rfl (au_table_canonical_w hv6 hv7 hv8 hv9 hx4))) rfl ?_
 rintro _ H3 _ hl3 ⟨⟨v11, rfl, hv10⟩, rfl⟩
 refine Seg.stBlkW (i := 1) (cs' := #[v11]) rfl rfl ti32 rfl rfl (onesA (ones_cons hv10.one (ones_nil))) rfl ?_
 refine Seg.own (O := .blk B3 (.cells #[v7, v8, v9, v10] 70 (0, 0)) :: .blk B2 (.cells #[v11] 32 (0, 0)) :: O) ?_ rfl
 refine Seg.op (OpT.assign rfl) rfl <| Seg.nilT <| Wp.ret ?_
 obtain rfl := Option.some.inj hd
 exact At.res2 rfl (RV.cellA (i := 1) rfl u32 rfl ti32 rfl rfl) (RV.tmp (v := (.int .i64 0)) rfl) (fun w hs => ⟨_, _, _, rfl, ((hl1.trans hl2).trans hl3), (hs.dropN 2), ⟨⟨v11, rfl, hv10⟩, rfl⟩⟩)

set_option maxRecDepth 100000 in
set_option maxHeartbeats 4000000 in
theorem au_Valid_w {fu : Nat} {a0 : List (Bool × (List (Int × Int × Int)))} {v1 : Value} {r : Bool} (hv1 : SlD (cP cB (cL (cP cU8 (cP cU8 cI64)))) H a0 v1) (hG : LaidH Tryd.prog H) (hd : au_Valid fu a0 = some r) :
    TriV Tryd.prog 17 [(.agg #[v1])] H O (.bool r) := by
 intro w hs
 refine wp_of Tryd.func17 rfl rfl rfl ?_ hs
 clear hs w
 unfold au_Valid at hd
 refine Wp.sr <| Seg.box (cs := #[v1]) rfl rfl rfl fun B2 => Seg.op (OpT.assign rfl) rfl <| Seg.nilT <| Wp.seq ?_
 obtain ⟨x1, hx1, hd⟩ := bnd_some hd
 refine Wp.region <| Seg.op (OpT.fld (o' := 0) fl32_0 rfl rfl) rfl <| Seg.op (OpT.ldBlk (i := 0) (v := v1) u22 rfl rfl rfl rfl) rfl <| Seg.opS (OpS.call ent9 rfl (au_Minimal_w hv1 hG hx1)) rfl ?_
 rintro _ H1 _ hl1 ⟨⟨v2, rfl, hv2⟩, rfl⟩
 refine Seg.op (OpT.move rfl) rfl <| Seg.op (OpT.extract rfl rfl) rfl <| Seg.op (OpT.extract rfl rfl) rfl <| Seg.alloc (cs := #[(.slice none 0 0)]) ti32 rfl rfl fun B3 => Seg.stBlkW (i := 0) (cs' := #[v2]) rfl rfl ti32 rfl rfl (onesA (ones_cons hv2.one (ones_nil))) rfl ?_
 refine Seg.own (O := .blk B3 (.cells #[v2] 32 (0, 0)) :: .blk B2 (.cells #[v1] 32 (0, 0)) :: O) ?_ rfl
 refine Seg.op (OpT.assign rfl) rfl <| Seg.nilT <| Wp.seq ?_
 rcases Bool.eq_false_or_eq_true (decide (x1.2 = 0)) with hg1 | hg1
 ·
  replace hd := brT hg1 hd
  have hg1_ := of_decide_eq_true hg1
  obtain ⟨x2, hx2, hd⟩ := bnd_some hd
  refine Wp.region <| Seg.op (OpT.move rfl) rfl <| Seg.op (OpT.asB (b := decide (x1.2 = 0)) (c := true) (OpT.eql rfl rfl) hg1) rfl <| Seg.op (OpT.move rfl) rfl <| Seg.opG rfl rfl (OpT.ldBlkW (i := 1) u32 rfl ti32 rfl rfl rfl) rfl <| Seg.opG rfl rfl (OpT.ldBlkW (i := 0) u32 rfl ti32 rfl rfl rfl) rfl <| Seg.opG rfl rfl (OpT.call ent10 rfl (au_Same_w (hv1.mono hl1) hv2 hx2)) rfl <| Seg.op (OpT.pickT rfl rfl) rfl ?_
  refine Seg.op (OpT.assign rfl) rfl <| Seg.nilT <| Wp.ret ?_
  obtain rfl := Option.some.inj hd
  exact At.res1 rfl (RV.tmp (v := (.bool x2)) rfl) (fun w hs => ⟨rfl, (hs.dropN 2).weaken hl1⟩)
 replace hd := brF hg1 hd
 have hg1_ := of_decide_eq_false hg1
 refine Wp.region <| Seg.op (OpT.move rfl) rfl <| Seg.op (OpT.asB (b := decide (x1.2 = 0)) (c := false) (OpT.eql rfl rfl) hg1) rfl <| Seg.op (OpT.move rfl) rfl <| Seg.skipG rfl rfl rfl rfl <| Seg.skipG rfl rfl rfl rfl <| Seg.skipG rfl rfl rfl rfl <| Seg.op (OpT.pickF rfl rfl) rfl ?_
 refine Seg.op (OpT.assign rfl) rfl <| Seg.nilT <| Wp.ret ?_
 obtain rfl := Option.some.inj hd
 exact At.res1 rfl (RV.tmp (v := (.bool false)) rfl) (fun w hs => ⟨rfl, (hs.dropN 2).weaken hl1⟩)

set_option maxRecDepth 100000 in
set_option maxHeartbeats 4000000 in
theorem au_net_sets_w {fu : Nat} {a0 : (List (List Int)) × (List (List (BSet × Int × Int))) × Int} {v1 v2 : Value} {B0 : Nat} {r : List BSet} (hv1 : SlD (cL cI64) H a0.1 v1) (hv2 : SlD (cL (cP cBs (cP cI64 cI64))) H a0.2.1 v2) (hd : au_net_sets fu a0 = some r) :
    Tri Tryd.prog 36 [(ptr B0 0)] H (.blk B0 (.cells #[v1, v2, (.int .i64 a0.2.2)] 61 (0, 0)) :: O) (fun v H' O' => (∃ v3 : Value, v3 = v ∧ SlD cBs H' r v3) ∧ .blk B0 (.cells #[v1, v2, (.int .i64 a0.2.2)] 61 (0, 0)) :: O = O') := by
 intro w hs
 refine wp_of Tryd.func36 rfl rfl rfl ?_ hs
 clear hs w
 unfold au_net_sets at hd
 refine Wp.sr <| Seg.op (OpT.assign rfl) rfl <| Seg.nilT <| Wp.sr <| Seg.op (OpT.assign rfl) rfl <| Seg.nilT <| Wp.seq <| Wp.sr ?_
 refine Seg.op (OpT.move rfl) rfl <| Seg.op (OpT.nilCheck rfl) rfl <| Seg.op (OpT.fld (o' := 1) fl61_1 rfl rfl) rfl <| Seg.op (OpT.ldBlk (i := 0) (v := v2) u59 rfl rfl rfl rfl) rfl ?_
 have hb1 := hv2.le
 refine Seg.op (OpT.len u59 rfl hv2.sl) rfl <| Seg.op (OpT.move rfl) rfl <| Seg.nilT <| Wp.block <| Wp.nilRow 40 4 <| Wp.loopF (fun m LL HH OO => ∃ (l1 : List BSet), ∃ (k1 : Nat), ∃ (v4 : Value), ∃ (xs1 : List Value), [(3, v4), (11, v2), (12, (.int .i64 (a0.2.1.length:Int))), (13, (.int .i64 (k1:Int)))] = LL ∧ .row v4 40 4 l1.length xs1 :: .blk B0 (.cells #[v1, v2, (.int .i64 a0.2.2)] 61 (0, 0)) :: O = OO ∧ loopK m (fun p nx => au_net_sets_b1 fu a0 p.1 p.2 nx) (l1, k1) = some r ∧ LayL cBs HH l1 xs1) fu ⟨([] : List BSet), 0, (.slice none 0 0), [], rfl, rfl, hd, (LayL.nil (c := cBs) (H := H))⟩ (Sub.of rfl) ?_
 intro m1 L1 H1 O1 hl1 hI1
 obtain ⟨l1, k1, v4, xs1, rfl, rfl, hd, hq1⟩ := hI1
 replace hd := loopK_some hd; obtain ⟨m2, rfl, hd⟩ := hd
 obtain ⟨nx1, hn1⟩ : ∃ f, f = loopK m2 (fun p nx => au_net_sets_b1 fu a0 p.1 p.2 nx) := ⟨_, rfl⟩
 rw [← hn1] at hd
 replace hd : au_net_sets_b1 fu a0 l1 k1 nx1 = some r := hd
 unfold au_net_sets_b1 at hd
 refine Wp.sr <| Seg.op (OpT.lss rfl rfl) rfl <| Seg.nilT <| Wp.seq ?_
 refine Wp.cond (b := decide ((k1:Int) < (a0.2.1.length:Int))) rfl (fun hb2 => ?_) (fun hb2 => ?_)
 ·
  replace hd := brT hb2 hd
  replace hb2 := of_decide_eq_true hb2
  refine Wp.skip <| At.then_n <| Wp.seq <| Wp.block <| Wp.seq ?_
  obtain ⟨x1, hx1, hd⟩ := bnd_some hd
  have hx1_ := idx_bd hx1
  refine Wp.region ?_
  obtain ⟨_, ⟨v5, rfl, hv3⟩, hc1⟩ := SlD.get (hv2.mono hl1) hx1
  refine Seg.op (OpT.ixSl u59 ti78 rfl (hv2.mono hl1).sl rfl (idx_bd hx1)) rfl <| Seg.op (OpT.ldH u78 rfl rfl (hc1 0 _ rfl)) rfl <| Seg.op (OpT.assign rfl) rfl <| Seg.nilT <| Wp.sr <| Seg.op (OpT.move rfl) rfl ?_
  have hb3 := hv3.le
  refine Seg.op (OpT.len u78 rfl hv3.sl) rfl <| Seg.op (OpT.move rfl) rfl <| Seg.nilT <| Wp.block <| Wp.loopF (fun m LL HH OO => ∃ (l2 : List BSet), ∃ (k2 : Nat), ∃ (v6 : Value), ∃ (xs2 : List Value), [(3, v6), (11, v2), (12, (.int .i64 (a0.2.1.length:Int))), (13, (.int .i64 (k1:Int))), (17, v5), (18, (.int .i64 (x1.length:Int))), (19, (.int .i64 (k2:Int)))] = LL ∧ .row v6 40 4 l2.length xs2 :: .blk B0 (.cells #[v1, v2, (.int .i64 a0.2.2)] 61 (0, 0)) :: O = OO ∧ loopK m (fun p nx => au_net_sets_b2 fu k1 nx1 x1 p.1 p.2 nx) (l2, k2) = some r ∧ LayL cBs HH l2 xs2) fu ⟨l1, 0, v4, xs1, rfl, rfl, hd, hq1⟩ (Sub.of rfl) ?_
  intro m3 L2 H2 O2 hl2 hI2
  obtain ⟨l2, k2, v6, xs2, rfl, rfl, hd, hq2⟩ := hI2
  replace hd := loopK_some hd; obtain ⟨m4, rfl, hd⟩ := hd
  obtain ⟨nx2, hn2⟩ : ∃ f, f = loopK m4 (fun p nx => au_net_sets_b2 fu k1 nx1 x1 p.1 p.2 nx) := ⟨_, rfl⟩
  rw [← hn2] at hd
  replace hd : au_net_sets_b2 fu k1 nx1 x1 l2 k2 nx2 = some r := hd
  unfold au_net_sets_b2 at hd
  refine Wp.sr <| Seg.op (OpT.lss rfl rfl) rfl <| Seg.nilT <| Wp.seq ?_
  refine Wp.cond (b := decide ((k2:Int) < (x1.length:Int))) rfl (fun hb4 => ?_) (fun hb4 => ?_)
  ·
   replace hd := brT hb4 hd
   replace hb4 := of_decide_eq_true hb4
   refine Wp.skip <| At.then_n <| Wp.seq <| Wp.block <| Wp.seq ?_
   obtain ⟨x2, hx2, hd⟩ := bnd_some hd
   have hx2_ := idx_bd hx2
   refine Wp.region ?_
   obtain ⟨_, ⟨_, _, rfl, rfl, ⟨_, _, rfl, rfl, rfl⟩⟩, hc2⟩ := SlD.get (hv3.mono hl2) hx2
   refine Seg.op (OpT.ixSl u78 ti80 rfl (hv3.mono hl2).sl rfl (idx_bd hx2)) rfl <| Seg.op (OpT.ldHA (vs := [(w64 (word x2.1 0)), (w64 (word x2.1 1)), (w64 (word x2.1 2)), (w64 (word x2.1 3)), (.int .i64 x2.2.1), (.int .i64 x2.2.2)]) u80 rfl ti80 rfl rfl (fun j u hj => (hc2 j u hj))) rfl <| Seg.alloc (cs := #[(w64 (word (fun _ => false) 0)), (w64 (word (fun _ => false) 1)), (w64 (word (fun _ => false) 2)), (w64 (word (fun _ => false) 3)), (.int .i64 0), (.int .i64 0)]) ti80 (by simp only [zw]; rfl) rfl fun B2 => Seg.stBlkW (i := 0) (cs' := #[(w64 (word x2.1 0)), (w64 (word x2.1 1)), (w64 (word x2.1 2)), (w64 (word x2.1 3)), (.int .i64 x2.2.1), (.int .i64 x2.2.2)]) rfl rfl ti80 rfl rfl (onesA (ones_cons rfl (ones_cons rfl (ones_cons rfl (ones_cons rfl (ones_cons rfl (ones_cons rfl (ones_nil)))))))) rfl ?_
   refine Seg.own (O := .blk B2 (.cells #[(w64 (word x2.1 0)), (w64 (word x2.1 1)), (w64 (word x2.1 2)), (w64 (word x2.1 3)), (.int .i64 x2.2.1), (.int .i64 x2.2.2)] 80 (0, 0)) :: .row v6 40 4 l2.length xs2 :: .blk B0 (.cells #[v1, v2, (.int .i64 a0.2.2)] 61 (0, 0)) :: O) ?_ rfl
   refine Seg.nilT ?_
   obtain ⟨ha1, hd⟩ := chk_some hd
   refine Wp.region <| Seg.op (OpT.move rfl) rfl <| Seg.op (OpT.fld (o' := 0) fl80_0 rfl rfl) rfl <| Seg.op (OpT.ldBlkX (i := 0) (vs := [(w64 (word x2.1 0)), (w64 (word x2.1 1)), (w64 (word x2.1 2)), (w64 (word x2.1 3))]) u40 rfl ti40 rfl rfl rfl) rfl <| Seg.buildD1 (c := cBs) (y := x2.1) (cs := [(w64 (word x2.1 0)), (w64 (word x2.1 1)), (w64 (word x2.1 2)), (w64 (word x2.1 3))]) u81 ti40 rfl rfl rfl rfl (rfl) rfl fun v7 xs3 hq3 => Seg.appD (i := 2) (j := 0) hq2 hq3 u81 ti40 rfl (by decide) rfl rfl rfl rfl (by decide) ha1 rfl fun v8 xs4 hq4 => Seg.drop (i := 0) <| Seg.op (OpT.assign rfl) rfl ?_
   refine Seg.nil <| At.blk_n <| At.then_n <| Wp.region <| Seg.op (OpT.add rfl rfl (fits64 (by omega))) rfl <| Seg.op (OpT.move rfl) rfl <| Seg.nil <| At.permK [1, 2] 3 rfl rfl rfl ?_
   refine At.nextF (Hp.le.refl _) ⟨(l2 ++ ([x2.1] : List BSet)), (k2 + 1), v8, xs4, rfl, rfl, (by rw [← hn2]; exact hd), hq4⟩ (Sub.of rfl)
  replace hd := brF hb4 hd
  replace hb4 := of_decide_eq_false hb4
  refine Wp.exit <| At.then_x <| At.then_x <| At.blk_hit <| At.blk_n <| At.then_n <| Wp.region <| Seg.op (OpT.add rfl rfl (fits64 (by omega))) rfl ?_
  refine Seg.op (OpT.move rfl) rfl <| Seg.nil ?_
  refine At.nextF hl2 ⟨l2, (k1 + 1), v6, xs2, rfl, rfl, (by rw [← hn1]; exact hd), hq2⟩ (Sub.of rfl)
 replace hd := brF hb2 hd
 replace hb2 := of_decide_eq_false hb2
 refine Wp.exit <| At.then_x <| At.then_x <| At.blk_hit <| At.then_n <| Wp.sr <| Seg.op (OpT.move rfl) rfl <| Seg.op (OpT.assign rfl) rfl ?_
 refine Seg.nilT <| Wp.ret ?_
 refine At.rowLe (i := 0) rfl fun hb5 => ?_
 refine At.freeze (i := 0) rfl fun H3 hl3 hs1 => ?_
 have hv4 := SlD.of (c := cBs) hs1 rfl (hq1.mono hl3) hb5
 obtain rfl := Option.some.inj hd
 exact At.res1 rfl (RV.tmp (v := v4) rfl) (fun w hs => ⟨_, _, _, rfl, (hl1.trans hl3), (hs.permK [0] 1 rfl rfl rfl), ⟨⟨v4, rfl, hv4⟩, rfl⟩⟩)

set_option maxRecDepth 100000 in
set_option maxHeartbeats 4000000 in
theorem au_net_closure_w {fu : Nat} {a0 : (List (List Int)) × (List (List (BSet × Int × Int))) × Int} {a1 : List Int} {v1 v2 v3 : Value} {xs1 : List Value} {B0 : Nat} {r : List Int} (hv1 : SlD (cL cI64) H a0.1 v1) (hv2 : SlD (cL (cP cBs (cP cI64 cI64))) H a0.2.1 v2) (hq1 : LayL cI64 H a1 xs1) (hd : au_net_closure fu a0 a1 = some r) :
    Tri Tryd.prog 37 [(ptr B0 0), v3] H (.blk B0 (.cells #[v1, v2, (.int .i64 a0.2.2)] 61 (0, 0)) :: .row v3 3 1 a1.length xs1 :: O) (fun v H' O' => (∃ v4 : Value, v4 = v ∧ SlD cI64 H' r v4) ∧ .blk B0 (.cells #[v1, v2, (.int .i64 a0.2.2)] 61 (0, 0)) :: O = O') := by
 intro w hs
 refine wp_of Tryd.func37 rfl rfl rfl ?_ hs
 clear hs w
 unfold au_net_closure at hd
 refine Wp.sr <| Seg.op (OpT.assign rfl) rfl <| Seg.nilT <| Wp.seq ?_
 obtain ⟨ha1, hd⟩ := chk_some hd
 refine Wp.region <| Seg.op (OpT.move rfl) rfl <| Seg.op (OpT.nilCheck rfl) rfl <| Seg.op (OpT.fld (o' := 1) fl61_1 rfl rfl) rfl <| Seg.op (OpT.ldBlk (i := 0) (v := v2) u59 rfl rfl rfl rfl) rfl ?_
 have hb1 := hv2.le
 refine Seg.op (OpT.len u59 rfl hv2.sl) rfl <| Seg.makeD (c := cB) (z := false) (m := a0.2.1.length) u68 ti4 rfl rfl ha1 (rfl) rfl rfl rfl fun v5 xs2 hq2 => Seg.op (OpT.assign rfl) rfl <| Seg.nilT <| Wp.seq <| Wp.block <| Wp.loopF (fun m LL HH OO => ∃ (l1 : List Int), ∃ (l2 : List Bool), ∃ (v6 : Value), ∃ (xs3 : List Value), ∃ (v7 : Value), ∃ (xs4 : List Value), [(0, (ptr B0 0)), (1, v6), (5, v7)] = LL ∧ .row v7 4 1 l2.length xs4 :: .blk B0 (.cells #[v1, v2, (.int .i64 a0.2.2)] 61 (0, 0)) :: .row v6 3 1 l1.length xs3 :: O = OO ∧ loopK m (fun p nx => au_net_closure_b1 fu a0 p.1 p.2 nx) (l1, l2) = some r ∧ LayL cI64 HH l1 xs3 ∧ LayL cB HH l2 xs4) fu ⟨a1, (List.replicate a0.2.1.length false : List Bool), v3, xs1, v5, xs2, rfl, rfl, hd, hq1, hq2⟩ (Sub.of rfl) ?_
 intro m1 L1 H1 O1 hl1 hI1
 obtain ⟨l1, l2, v6, xs3, v7, xs4, rfl, rfl, hd, hq3, hq4⟩ := hI1
 replace hd := loopK_some hd; obtain ⟨m2, rfl, hd⟩ := hd
 obtain ⟨nx1, hn1⟩ : ∃ f, f = loopK m2 (fun p nx => au_net_closure_b1 fu a0 p.1 p.2 nx) := ⟨_, rfl⟩
 rw [← hn1] at hd
 replace hd : au_net_closure_b1 fu a0 l1 l2 nx1 = some r := hd
 unfold au_net_closure_b1 at hd
 refine Wp.seq <| Wp.sr <| Seg.op (OpT.move rfl) rfl ?_
 refine Seg.rowLe (i := 2) rfl fun hb2 => ?_
 refine Seg.op (OpT.lenRow (i := 2) u66 rfl rfl) rfl <| Seg.op (OpT.gtr rfl rfl) rfl <| Seg.nilT ?_
 refine Wp.cond (b := decide (0 < (l1.length:Int))) rfl (fun hb3 => ?_) (fun hb3 => ?_)
 ·
  replace hd := brT hb3 hd
  replace hb3 := of_decide_eq_true hb3
  refine Wp.skip <| At.then_n <| Wp.block <| Wp.seq ?_
  obtain ⟨ha2, hd⟩ := chk_some hd
  obtain ⟨x1, hx1, hd⟩ := bnd_some hd
  have hx1_ := idx_bd hx1
  refine Wp.region <| Seg.op (OpT.move rfl) rfl <| Seg.op (OpT.move rfl) rfl ?_
  refine Seg.rowLe (i := 2) rfl fun hb4 => ?_
  refine Seg.op (OpT.lenRow (i := 2) u66 rfl rfl) rfl <| Seg.op (OpT.sub rfl rfl (fits64 ha2)) rfl ?_
  obtain ⟨_, rfl, hc1, hc1_⟩ := LayL.get hq3 (idx_some hx1).2
  refine Seg.op (OpT.ixRow (j := 2) u66 ti3 rfl rfl rfl (idx_bd hx1)) rfl <| Seg.op (OpT.ldRow (i := 2) (k := (((l1.length:Int) - 1).toNat) * 1 + 0) u3 rfl rfl rfl (hc1 0 _ rfl)) rfl <| Seg.op (OpT.assign rfl) rfl <| Seg.nilT <| Wp.seq ?_
  obtain ⟨ha3, hd⟩ := chk_some hd
  obtain ⟨ha4, hd⟩ := chk_some hd
  refine Wp.region <| Seg.op (OpT.move rfl) rfl <| Seg.op (OpT.move rfl) rfl ?_
  refine Seg.rowLe (i := 2) rfl fun hb5 => ?_
  refine Seg.op (OpT.lenRow (i := 2) u66 rfl rfl) rfl <| Seg.op (OpT.sub rfl rfl (fits64 ha3)) rfl <| Seg.sliceR (c := cI64) 2 hq3 u66 ti3 rfl rfl rfl ha4 rfl fun v8 xs5 hq5 => Seg.op (OpT.assign rfl) rfl <| Seg.nilT <| Wp.seq ?_
  obtain ⟨x2, hx2, hd⟩ := bnd_some hd
  have hx2_ := idx_bd hx2
  refine Wp.region <| Seg.op (OpT.move rfl) rfl <| Seg.op (OpT.move rfl) rfl ?_
  obtain ⟨_, rfl, hc2, hc2_⟩ := LayL.get hq4 (idx_some hx2).2
  refine Seg.op (OpT.ixRow (j := 0) u68 ti4 rfl rfl rfl (idx_bd hx2)) rfl <| Seg.op (OpT.ldRow (i := 0) (k := x1.toNat * 1 + 0) u4 rfl rfl rfl (hc2 0 _ rfl)) rfl <| Seg.op (OpT.not rfl) rfl <| Seg.nilT ?_
  refine Wp.cond (b := !x2) rfl (fun hb6 => ?_) (fun hb6 => ?_)
  ·
   replace hd := brT hb6 hd
   refine Wp.seq ?_
   obtain ⟨x3, hx3, hd⟩ := bnd_some hd
   have hx3_ := idx_bd hx3
   refine Wp.region <| Seg.op (OpT.move rfl) rfl <| Seg.op (OpT.move rfl) rfl ?_
   obtain ⟨_, rfl, hc3, hc3_⟩ := LayL.get hq4 (idx_some hx3).2
   refine Seg.op (OpT.ixRow (j := 0) u68 ti4 rfl rfl rfl (idx_bd hx3)) rfl ?_
   refine Seg.stD (q := 0) (off := 0) (vs := [(.bool true)]) (y := true) (cs := [(.bool x3)]) hq4 hx3 hc3_ rfl rfl rfl ti4 rfl rfl (ones_cons rfl (ones_nil)) rfl (rfl) rfl (fun xs6 hq6 => ?_)
   refine Seg.nilT ?_
   obtain ⟨x4, hx4, hd⟩ := bnd_some hd
   have hx4_ := idx_bd hx4
   obtain ⟨ha5, hd⟩ := chk_some hd
   refine Wp.region <| Seg.op (OpT.move rfl) rfl <| Seg.op (OpT.move rfl) rfl <| Seg.op (OpT.nilCheck rfl) rfl <| Seg.op (OpT.fld (o' := 0) fl61_0 rfl rfl) rfl <| Seg.op (OpT.ldBlk (i := 1) (v := v1) u58 rfl rfl rfl rfl) rfl <| Seg.op (OpT.move rfl) rfl ?_
   obtain ⟨_, ⟨v9, rfl, hv3⟩, hc4⟩ := SlD.get (hv1.mono hl1) hx4
   refine Seg.op (OpT.ixSl u58 ti66 rfl (hv1.mono hl1).sl rfl (idx_bd hx4)) rfl <| Seg.op (OpT.ldH u66 rfl rfl (hc4 0 _ rfl)) rfl <| Seg.appF (i := 2) hq5 hv3 u66 ti3 rfl (by decide) rfl rfl rfl (by decide) ha5 rfl fun v10 xs7 hq7 => Seg.op (OpT.assign rfl) rfl <| Seg.nil <| At.blk_n ?_
   refine At.nextF (Hp.le.refl _) ⟨((l1.take ((l1.length:Int) - 1).toNat) ++ x4), (l2.set x1.toNat true), v10, xs7, v7, xs6, rfl, rfl, (by rw [← hn1]; exact hd), hq7, hq6⟩ (Sub.of rfl)
  replace hd := brF hb6 hd
  refine Wp.skip <| At.blk_n ?_
  refine At.nextF (Hp.le.refl _) ⟨(l1.take ((l1.length:Int) - 1).toNat), l2, v8, xs5, v7, xs4, rfl, rfl, (by rw [← hn1]; exact hd), hq5, hq4⟩ (Sub.of rfl)
 replace hd := brF hb3 hd
 replace hb3 := of_decide_eq_false hb3
 refine Wp.exit <| At.then_x <| At.then_x <| At.blk_hit <| At.then_n <| Wp.sr <| Seg.op (OpT.assign rfl) rfl <| Seg.nilT ?_
 refine Wp.seq <| Wp.sr <| Seg.op (OpT.move rfl) rfl ?_
 refine Seg.rowLe (i := 0) rfl fun hb7 => ?_
 refine Seg.op (OpT.lenRow (i := 0) u68 rfl rfl) rfl <| Seg.op (OpT.move rfl) rfl <| Seg.nilT <| Wp.block <| Wp.nilRow 3 1 <| Wp.loopF (fun m LL HH OO => ∃ (l3 : List Int), ∃ (k1 : Nat), ∃ (v11 : Value), ∃ (xs8 : List Value), [(7, v11), (47, v7), (48, (.int .i64 (l2.length:Int))), (49, (.int .i64 (k1:Int)))] = LL ∧ .row v11 3 1 l3.length xs8 :: .row v7 4 1 l2.length xs4 :: .blk B0 (.cells #[v1, v2, (.int .i64 a0.2.2)] 61 (0, 0)) :: .row v6 3 1 l1.length xs3 :: O = OO ∧ loopK m (fun p nx => au_net_closure_b2 fu l2 p.1 p.2 nx) (l3, k1) = some r ∧ LayL cI64 HH l3 xs8) fu ⟨([] : List Int), 0, (.slice none 0 0), [], rfl, rfl, hd, (LayL.nil (c := cI64) (H := H1))⟩ (Sub.of rfl) ?_
 intro m3 L2 H2 O2 hl2 hI2
 obtain ⟨l3, k1, v11, xs8, rfl, rfl, hd, hq8⟩ := hI2
 replace hd := loopK_some hd; obtain ⟨m4, rfl, hd⟩ := hd
 obtain ⟨nx2, hn2⟩ : ∃ f, f = loopK m4 (fun p nx => au_net_closure_b2 fu l2 p.1 p.2 nx) := ⟨_, rfl⟩
 rw [← hn2] at hd
 replace hd : au_net_closure_b2 fu l2 l3 k1 nx2 = some r := hd
 unfold au_net_closure_b2 at hd
 refine Wp.sr <| Seg.op (OpT.lss rfl rfl) rfl <| Seg.nilT <| Wp.seq ?_
 refine Wp.cond (b := decide ((k1:Int) < (l2.length:Int))) rfl (fun hb8 => ?_) (fun hb8 => ?_)
 ·
  replace hd := brT hb8 hd
  replace hb8 := of_decide_eq_true hb8
  refine Wp.skip <| At.then_n <| Wp.seq <| Wp.block <| Wp.seq ?_
  obtain ⟨x5, hx5, hd⟩ := bnd_some hd
  have hx5_ := idx_bd hx5
  refine Wp.region <| Seg.op (OpT.move rfl) rfl ?_
  obtain ⟨_, rfl, hc5, hc5_⟩ := LayL.get (hq4.mono hl2) (idx_some hx5).2
  refine Seg.op (OpT.ixRow (j := 1) u68 ti4 rfl rfl rfl (idx_bd hx5)) rfl <| Seg.op (OpT.ldRow (i := 1) (k := k1 * 1 + 0) u4 rfl rfl rfl (hc5 0 _ rfl)) rfl <| Seg.op (OpT.assign rfl) rfl <| Seg.op (OpT.assign rfl) rfl <| Seg.nilT <| Wp.sr <| Seg.op (OpT.move rfl) rfl <| Seg.nilT ?_
  refine Wp.cond (b := x5) rfl (fun hb9 => ?_) (fun hb9 => ?_)
  ·
   replace hd := brT hb9 hd
   obtain ⟨ha6, hd⟩ := chk_some hd
   refine Wp.region <| Seg.op (OpT.move rfl) rfl <| Seg.op (OpT.move rfl) rfl <| Seg.buildD1 (c := cI64) (y := (k1:Int)) (cs := [(.int .i64 (k1:Int))]) u66 ti3 rfl rfl rfl rfl (rfl) rfl fun v12 xs9 hq9 => Seg.appD (i := 1) (j := 0) hq8 hq9 u66 ti3 rfl (by decide) rfl rfl rfl rfl (by decide) ha6 rfl fun v13 xs10 hq10 => Seg.drop (i := 0) <| Seg.op (OpT.assign rfl) rfl <| Seg.nil ?_
   refine At.blk_n <| At.then_n <| Wp.region <| Seg.op (OpT.add rfl rfl (fits64 (by omega))) rfl <| Seg.op (OpT.move rfl) rfl <| Seg.nil ?_
   refine At.nextF (Hp.le.refl _) ⟨(l3 ++ ([(k1:Int)] : List Int)), (k1 + 1), v13, xs10, rfl, rfl, (by rw [← hn2]; exact hd), hq10⟩ (Sub.of rfl)
  replace hd := brF hb9 hd
  refine Wp.skip <| At.blk_n <| At.then_n <| Wp.region <| Seg.op (OpT.add rfl rfl (fits64 (by omega))) rfl <| Seg.op (OpT.move rfl) rfl <| Seg.nil ?_
  refine At.nextF (Hp.le.refl _) ⟨l3, (k1 + 1), v11, xs8, rfl, rfl, (by rw [← hn2]; exact hd), hq8⟩ (Sub.of rfl)
 replace hd := brF hb8 hd
 replace hb8 := of_decide_eq_false hb8
 refine Wp.exit <| At.then_x <| At.then_x <| At.blk_hit <| At.then_n <| Wp.sr <| Seg.op (OpT.move rfl) rfl <| Seg.op (OpT.assign rfl) rfl ?_
 refine Seg.nilT <| Wp.ret ?_
 refine At.rowLe (i := 0) rfl fun hb10 => ?_
 refine At.freeze (i := 0) rfl fun H3 hl3 hs1 => ?_
 have hv4 := SlD.of (c := cI64) hs1 rfl (hq8.mono hl3) hb10
 obtain rfl := Option.some.inj hd
 exact At.res1 rfl (RV.tmp (v := v11) rfl) (fun w hs => ⟨_, _, _, rfl, ((hl1.trans hl2).trans hl3), (hs.permK [1] 3 rfl rfl rfl), ⟨⟨v11, rfl, hv4⟩, rfl⟩⟩)

set_option maxRecDepth 100000 in
set_option maxHeartbeats 4000000 in
theorem au_key_w {fu : Nat} {a0 : List Int} {v1 : Value} {r : Str} (hv1 : SlD cI64 H a0 v1) (hG : LaidH Tryd.prog H) (hd : au_key fu a0 = some r) :
    TriV Tryd.prog 41 [v1] H O (sv r) := by
 intro w hs
 refine wp_of Tryd.func41 rfl rfl rfl ?_ hs
 clear hs w
 unfold au_key at hd
 refine Wp.sr <| Seg.op (OpT.assign rfl) rfl <| Seg.nilT <| Wp.sr <| Seg.alloc (cs := #[.pointer none, .slice none 0 0]) ti104 rfl rfl fun B2 => Seg.nilRow 5 1 ?_
 have hB4 : BldOk H B2 (.pointer none) (.slice none 0 0) [] [] := BldOk.new
 refine Seg.nilT <| Wp.seq <| Wp.sr <| Seg.op (OpT.move rfl) rfl ?_
 have hb1 := hv1.le
 refine Seg.op (OpT.len u66 rfl hv1.sl) rfl <| Seg.op (OpT.move rfl) rfl <| Seg.nilT <| Wp.block <| Wp.loopF (fun m LL HH OO => ∃ (l1 : Str), ∃ (k1 : Nat), ∃ (a30 : Value), ∃ (v2 : Value), ∃ (xs1 : List Value), [(3, (ptr B2 0)), (6, v1), (7, (.int .i64 (a0.length:Int))), (8, (.int .i64 (k1:Int)))] = LL ∧ .row v2 5 1 l1.length xs1 :: .blk B2 (.cells #[a30, v2] 104 (0, 0)) :: O = OO ∧ loopK m (fun p nx => au_key_b1 fu a0 p.1 p.2 nx) (l1, k1) = some r ∧ BldOk HH B2 a30 v2 l1 xs1) fu ⟨([] : Str), 0, (.pointer none), (.slice none 0 0), [], rfl, rfl, hd, hB4⟩ (Sub.of rfl) ?_
 intro m1 L1 H1 O1 hl1 hI1
 obtain ⟨l1, k1, a30, v2, xs1, rfl, rfl, hd, hB42⟩ := hI1
 replace hd := loopK_some hd; obtain ⟨m2, rfl, hd⟩ := hd
 obtain ⟨nx1, hn1⟩ : ∃ f, f = loopK m2 (fun p nx => au_key_b1 fu a0 p.1 p.2 nx) := ⟨_, rfl⟩
 rw [← hn1] at hd
 replace hd : au_key_b1 fu a0 l1 k1 nx1 = some r := hd
 unfold au_key_b1 at hd
 refine Wp.sr <| Seg.op (OpT.lss rfl rfl) rfl <| Seg.nilT <| Wp.seq ?_
 refine Wp.cond (b := decide ((k1:Int) < (a0.length:Int))) rfl (fun hb2 => ?_) (fun hb2 => ?_)
 ·
  replace hd := brT hb2 hd
  replace hb2 := of_decide_eq_true hb2
  refine Wp.skip <| At.then_n <| Wp.seq <| Wp.block <| Wp.seq ?_
  obtain ⟨x1, hx1, hd⟩ := bnd_some hd
  have hx1_ := idx_bd hx1
  refine Wp.region ?_
  obtain ⟨_, rfl, hc1⟩ := SlD.get (hv1.mono hl1) hx1
  refine Seg.op (OpT.ixSl u66 ti3 rfl (hv1.mono hl1).sl rfl (idx_bd hx1)) rfl <| Seg.op (OpT.ldH u3 rfl rfl (hc1 0 _ rfl)) rfl <| Seg.op (OpT.assign rfl) rfl <| Seg.nilT ?_
  obtain ⟨ha1, hd⟩ := chk_some hd
  obtain ⟨ha2, hd⟩ := chk_some hd
  obtain ⟨ha3, hd⟩ := chk_some hd
  refine Wp.region <| Seg.op (OpT.move rfl) rfl <| Seg.op (OpT.call ent47 rfl (itoaT (hG.mono hl1) ha1)) rfl <| Seg.op (OpT.catStr rfl rfl ha2) rfl <| Seg.permK [1, 0] 2 rfl rfl rfl <| Seg.opS (OpS.call ent46 rfl (bldW2 hB42 ha3)) rfl ?_
  rintro _ H2 _ hl2 ⟨v3, xs2, rfl, hB63, rfl⟩
  refine Seg.nil <| At.blk_n <| At.then_n <| Wp.region <| Seg.op (OpT.add rfl rfl (fits64 (by omega))) rfl <| Seg.op (OpT.move rfl) rfl <| Seg.nil <| At.permK [1, 0] 2 rfl rfl rfl ?_
  refine At.nextF hl2 ⟨(l1 ++ ((Lib.itoa x1) ++ ([44] : Str))), (k1 + 1), (ptr B2 0), v3, xs2, rfl, rfl, (by rw [← hn1]; exact hd), hB63⟩ (Sub.of rfl)
 replace hd := brF hb2 hd
 replace hb2 := of_decide_eq_false hb2
 refine Wp.exit <| At.then_x <| At.then_x <| At.blk_hit <| At.then_n <| Wp.sr <| Seg.permK [1, 0] 2 rfl rfl rfl <| Seg.opS (OpS.call ent48 rfl (bldS2 hB42)) rfl ?_
 rintro _ H3 _ hl3 ⟨rfl, rfl⟩
 refine Seg.op (OpT.assign rfl) rfl <| Seg.nilT <| Wp.ret ?_
 obtain rfl := Option.some.inj hd
 exact At.res1 rfl (RV.tmp (v := (sv l1)) rfl) (fun w hs => ⟨rfl, (hs.dropN 0).weaken (hl1.trans hl3)⟩)

set_option maxRecDepth 100000 in
set_option maxHeartbeats 4000000 in
theorem au_net_many_w {fu : Nat} {a0 : (List (List Int)) × (List (List (BSet × Int × Int))) × Int} {a1 : Int} {v1 v2 : Value} {B0 : Nat} {r : Bool} (hv1 : SlD (cL cI64) H a0.1 v1) (hv2 : SlD (cL (cP cBs (cP cI64 cI64))) H a0.2.1 v2) (hG : LaidH Tryd.prog H) (hd : au_net_many fu a0 a1 = some r) :
    TriV Tryd.prog 28 [(ptr B0 0), (.int .i64 a1)] H (.blk B0 (.cells #[v1, v2, (.int .i64 a0.2.2)] 61 (0, 0)) :: O) (.bool r) := by
 intro w hs
 refine wp_of Tryd.func28 rfl rfl rfl ?_ hs
 clear hs w
 unfold au_net_many at hd
 refine Wp.sr <| Seg.op (OpT.assign rfl) rfl <| Seg.nilT <| Wp.seq ?_
 obtain ⟨x1, hx1, hd⟩ := bnd_some hd
 obtain ⟨ha1, hd⟩ := chk_some hd
 refine Wp.region <| Seg.op (OpT.move rfl) rfl <| Seg.opS (OpS.call ent36 rfl (Tri.atR 0 rfl (au_net_sets_w hv1 hv2 hx1))) rfl ?_
 rintro _ H1 _ hl1 ⟨⟨v3, rfl, hv3⟩, rfl⟩
 refine Seg.opS (OpS.call ent35 rfl (part_i hv3 ha1)) rfl ?_
 rintro _ H2 _ hl2 ⟨⟨v4, rfl, hv4⟩, rfl⟩
 refine Seg.op (OpT.assign rfl) rfl <| Seg.nilT <| Wp.sr <| Seg.makeMap (mkS u9) (meB u4) rfl fun B2 => Seg.op (OpT.assign rfl) rfl <| Seg.nilT <| Wp.seq ?_
 obtain ⟨x2, hx2, hd⟩ := bnd_some hd
 refine Wp.region <| Seg.op (OpT.move rfl) rfl <| Seg.op (OpT.move rfl) rfl <| Seg.buildD1 (c := cI64) (y := a1) (cs := [(.int .i64 a1)]) u66 ti3 rfl rfl rfl rfl (rfl) rfl fun v5 xs1 hq1 => Seg.permK [2, 0, 1] 3 rfl rfl rfl <| Seg.opS (OpS.call ent37 rfl (au_net_closure_w (hv1.mono (hl1.trans hl2)) (hv2.mono (hl1.trans hl2)) hq1 hx2)) rfl ?_
 rintro _ H3 _ hl3 ⟨⟨v6, rfl, hv5⟩, rfl⟩
 refine Seg.buildD1 (c := (cL cI64)) (y := x2) (cs := [v6]) u58 ti66 rfl rfl rfl (cellsL hv5.one) (⟨_, rfl, hv5⟩) rfl fun v7 xs2 hq2 => Seg.op (OpT.assign rfl) rfl <| Seg.nilT <| Wp.seq <| Wp.sr <| Seg.op (OpT.assign rfl) rfl <| Seg.nilT <| Wp.block ?_
 refine Wp.loopF (fun m LL HH OO => ∃ (l1 : List (List Int)), ∃ (m1 : List (Str × Bool)), ∃ (k1 : Nat), ∃ (v8 : Value), ∃ (xs3 : List Value), [(0, (ptr B0 0)), (5, v4), (6, (.map (some B2))), (7, v8), (8, (.int .i64 (k1:Int)))] = LL ∧ .row v8 66 1 l1.length xs3 :: .blk B0 (.cells #[v1, v2, (.int .i64 a0.2.2)] 61 (0, 0)) :: mapR (mkS u9) (meB u4) B2 m1 :: O = OO ∧ loopK m (fun p nx => au_net_many_b1 fu a0 x1 p.1 p.2.1 p.2.2 nx) (l1, m1, k1) = some r ∧ LayL (cL cI64) HH l1 xs3) fu ⟨([x2] : List (List Int)), ([] : List (Str × Bool)), 0, v7, xs2, rfl, rfl, hd, hq2⟩ (Sub.of rfl) ?_
 intro m2 L1 H4 O1 hl4 hI1
 obtain ⟨l1, m1, k1, v8, xs3, rfl, rfl, hd, hq3⟩ := hI1
 replace hd := loopK_some hd; obtain ⟨m3, rfl, hd⟩ := hd
 obtain ⟨nx1, hn1⟩ : ∃ f, f = loopK m3 (fun p nx => au_net_many_b1 fu a0 x1 p.1 p.2.1 p.2.2 nx) := ⟨_, rfl⟩
 rw [← hn1] at hd
 replace hd : au_net_many_b1 fu a0 x1 l1 m1 k1 nx1 = some r := hd
 unfold au_net_many_b1 at hd
 refine Wp.seq <| Wp.sr <| Seg.op (OpT.move rfl) rfl <| Seg.op (OpT.move rfl) rfl ?_
 refine Seg.rowLe (i := 0) rfl fun hb1 => ?_
 refine Seg.op (OpT.lenRow (i := 0) u58 rfl rfl) rfl <| Seg.op (OpT.lss rfl rfl) rfl <| Seg.nilT ?_
 refine Wp.cond (b := decide ((k1:Int) < (l1.length:Int))) rfl (fun hb2 => ?_) (fun hb2 => ?_)
 ·
  replace hd := brT hb2 hd
  replace hb2 := of_decide_eq_true hb2
  refine Wp.skip <| At.then_n <| Wp.seq <| Wp.block <| Wp.sr <| Seg.op (OpT.move rfl) rfl ?_
  have hb3 := hv4.le
  refine Seg.op (OpT.len u81 rfl (hv4.mono (hl3.trans hl4)).sl) rfl <| Seg.op (OpT.move rfl) rfl <| Seg.nilT <| Wp.block <| Wp.loopF (fun m LL HH OO => ∃ (l2 : List (List Int)), ∃ (m4 : List (Str × Bool)), ∃ (k2 : Nat), ∃ (v9 : Value), ∃ (xs4 : List Value), [(0, (ptr B0 0)), (5, v4), (6, (.map (some B2))), (7, v9), (8, (.int .i64 (k1:Int))), (35, v4), (36, (.int .i64 (((partsD x1).length : Nat) : Int))), (37, (.int .i64 (k2:Int)))] = LL ∧ .row v9 66 1 l2.length xs4 :: .blk B0 (.cells #[v1, v2, (.int .i64 a0.2.2)] 61 (0, 0)) :: mapR (mkS u9) (meB u4) B2 m4 :: O = OO ∧ loopK m (fun p nx => au_net_many_b2 fu a0 x1 k1 nx1 p.1 p.2.1 p.2.2 nx) (l2, m4, k2) = some r ∧ LayL (cL cI64) HH l2 xs4) fu ⟨l1, m1, 0, v8, xs3, rfl, rfl, hd, hq3⟩ (Sub.of rfl) ?_
  intro m5 L2 H5 O2 hl5 hI2
  obtain ⟨l2, m4, k2, v9, xs4, rfl, rfl, hd, hq4⟩ := hI2
  replace hd := loopK_some hd; obtain ⟨m6, rfl, hd⟩ := hd
  obtain ⟨nx2, hn2⟩ : ∃ f, f = loopK m6 (fun p nx => au_net_many_b2 fu a0 x1 k1 nx1 p.1 p.2.1 p.2.2 nx) := ⟨_, rfl⟩
  rw [← hn2] at hd
  replace hd : au_net_many_b2 fu a0 x1 k1 nx1 l2 m4 k2 nx2 = some r := hd
  unfold au_net_many_b2 at hd
  refine Wp.sr <| Seg.op (OpT.lss rfl rfl) rfl <| Seg.nilT <| Wp.seq ?_
  refine Wp.cond (b := decide ((k2:Int) < (((partsD x1).length : Nat) : Int))) rfl (fun hb4 => ?_) (fun hb4 => ?_)
  ·
   replace hd := brT hb4 hd
   replace hb4 := of_decide_eq_true hb4
   refine Wp.skip <| At.then_n <| Wp.seq <| Wp.block <| Wp.seq ?_
   obtain ⟨x3, hx3, hd⟩ := bnd_some hd
   have hx3_ := idx_bd hx3
   refine Wp.region ?_
   obtain ⟨_, rfl, hc1⟩ := SlD.get (hv4.mono ((hl3.trans hl4).trans hl5)) hx3
   refine Seg.op (OpT.ixSl u81 ti40 rfl (hv4.mono ((hl3.trans hl4).trans hl5)).sl rfl (idx_bd hx3)) rfl <| Seg.op (OpT.ldHA (vs := [(w64 (word x3 0)), (w64 (word x3 1)), (w64 (word x3 2)), (w64 (word x3 3))]) u40 rfl ti40 rfl rfl (fun j u hj => (hc1 j u hj))) rfl <| Seg.alloc (cs := bcs (fun _ => false)) ti40 bcs_empty rfl fun B3 => Seg.stBlkW (i := 0) (cs' := #[(w64 (word x3 0)), (w64 (word x3 1)), (w64 (word x3 2)), (w64 (word x3 3))]) rfl rfl ti40 rfl rfl (onesA (ones_cons rfl (ones_cons rfl (ones_cons rfl (ones_cons rfl (ones_nil)))))) rfl ?_
   refine Seg.own (O := .blk B3 (.cells #[(w64 (word x3 0)), (w64 (word x3 1)), (w64 (word x3 2)), (w64 (word x3 3))] 40 (0, 0)) :: .row v9 66 1 l2.length xs4 :: .blk B0 (.cells #[v1, v2, (.int .i64 a0.2.2)] 61 (0, 0)) :: mapR (mkS u9) (meB u4) B2 m4 :: O) ?_ rfl
   refine Seg.nilT <| Wp.seq ?_
   have := lst_lt x3
   refine Wp.region <| Seg.op (OpT.ldBlkW (i := 0) u40 rfl ti40 rfl rfl rfl) rfl <| Seg.op (OpT.call ent38 rfl (@least_i _ _ x3)) rfl <| Seg.op (OpT.move rfl) rfl <| Seg.op (OpT.extract rfl rfl) rfl <| Seg.op (OpT.extract rfl rfl) rfl <| Seg.op (OpT.assign rfl) rfl <| Seg.op (OpT.assign rfl) rfl ?_
   refine Seg.nilT <| Wp.sr <| Seg.op (OpT.assign rfl) rfl <| Seg.op (OpT.assign rfl) rfl <| Seg.nilT <| Wp.seq <| Wp.seq ?_
   obtain ⟨x4, hx4, hd⟩ := bnd_some hd
   have hx4_ := idx_bd hx4
   refine Wp.region <| Seg.op (OpT.move rfl) rfl <| Seg.op (OpT.move rfl) rfl ?_
   obtain ⟨_, ⟨v10, rfl, hv6⟩, hc2, hc2_⟩ := LayL.get hq4 (idx_some hx4).2
   refine Seg.op (OpT.ixRow (j := 1) u58 ti66 rfl rfl rfl (idx_bd hx4)) rfl <| Seg.op (OpT.ldRow (i := 1) (k := k1 * 1 + 0) u66 rfl rfl rfl (hc2 0 _ rfl)) rfl ?_
   have hb5 := hv6.le
   refine Seg.op (OpT.len u66 rfl hv6.sl) rfl <| Seg.op (OpT.move rfl) rfl <| Seg.nilT <| Wp.block <| Wp.nilRow 3 1 <| Wp.nilRow 3 1 <| Wp.loopF (fun m LL HH OO => ∃ (l3 : List Int), ∃ (l4 : List Int), ∃ (k3 : Nat), ∃ (v11 : Value), ∃ (xs5 : List Value), ∃ (v12 : Value), ∃ (xs6 : List Value), [(0, (ptr B0 0)), (5, v4), (6, (.map (some B2))), (7, v9), (8, (.int .i64 (k1:Int))), (11, (.int .u8 ((lst x3 : Nat) : Int))), (13, v11), (14, v12), (35, v4), (36, (.int .i64 (((partsD x1).length : Nat) : Int))), (37, (.int .i64 (k2:Int))), (49, v10), (50, (.int .i64 (x4.length:Int))), (51, (.int .i64 (k3:Int)))] = LL ∧ .row v12 3 1 l4.length xs6 :: .row v11 3 1 l3.length xs5 :: .blk B3 (.cells #[(w64 (word x3 0)), (w64 (word x3 1)), (w64 (word x3 2)), (w64 (word x3 3))] 40 (0, 0)) :: .row v9 66 1 l2.length xs4 :: .blk B0 (.cells #[v1, v2, (.int .i64 a0.2.2)] 61 (0, 0)) :: mapR (mkS u9) (meB u4) B2 m4 :: O = OO ∧ loopK m (fun p nx => au_net_many_b3 fu a0 l2 m4 k2 nx2 x3 x4 p.1 p.2.1 p.2.2 nx) (l3, l4, k3) = some r ∧ LayL cI64 HH l3 xs5 ∧ LayL cI64 HH l4 xs6) fu ⟨([] : List Int), ([] : List Int), 0, (.slice none 0 0), [], (.slice none 0 0), [], rfl, rfl, hd, (LayL.nil (c := cI64) (H := H5)), (LayL.nil (c := cI64) (H := H5))⟩ (Sub.of rfl) ?_
   intro m7 L3 H6 O3 hl6 hI3
   obtain ⟨l3, l4, k3, v11, xs5, v12, xs6, rfl, rfl, hd, hq5, hq6⟩ := hI3
   replace hd := loopK_some hd; obtain ⟨m8, rfl, hd⟩ := hd
   obtain ⟨nx3, hn3⟩ : ∃ f, f = loopK m8 (fun p nx => au_net_many_b3 fu a0 l2 m4 k2 nx2 x3 x4 p.1 p.2.1 p.2.2 nx) := ⟨_, rfl⟩
   rw [← hn3] at hd
   replace hd : au_net_many_b3 fu a0 l2 m4 k2 nx2 x3 x4 l3 l4 k3 nx3 = some r := hd
   unfold au_net_many_b3 at hd
   refine Wp.sr <| Seg.op (OpT.lss rfl rfl) rfl <| Seg.nilT <| Wp.seq ?_
   refine Wp.cond (b := decide ((k3:Int) < (x4.length:Int))) rfl (fun hb6 => ?_) (fun hb6 => ?_)
   ·
    replace hd := brT hb6 hd
    replace hb6 := of_decide_eq_true hb6
    refine Wp.skip <| At.then_n <| Wp.seq <| Wp.block <| Wp.seq ?_
    obtain ⟨x5, hx5, hd⟩ := bnd_some hd
    have hx5_ := idx_bd hx5
    refine Wp.region ?_
    obtain ⟨_, rfl, hc3⟩ := SlD.get (hv6.mono hl6) hx5
    refine Seg.op (OpT.ixSl u66 ti3 rfl (hv6.mono hl6).sl rfl (idx_bd hx5)) rfl <| Seg.op (OpT.ldH u3 rfl rfl (hc3 0 _ rfl)) rfl <| Seg.op (OpT.assign rfl) rfl <| Seg.nilT <| Wp.seq ?_
    obtain ⟨x6, hx6, hd⟩ := bnd_some hd
    have hx6_ := idx_bd hx6
    refine Wp.region <| Seg.op (OpT.move rfl) rfl <| Seg.op (OpT.nilCheck rfl) rfl <| Seg.op (OpT.fld (o' := 1) fl61_1 rfl rfl) rfl <| Seg.op (OpT.ldBlk (i := 4) (v := v2) u59 rfl rfl rfl rfl) rfl <| Seg.op (OpT.move rfl) rfl ?_
    obtain ⟨_, ⟨v13, rfl, hv7⟩, hc4⟩ := SlD.get (hv2.mono (((((hl1.trans hl2).trans hl3).trans hl4).trans hl5).trans hl6)) hx6
    refine Seg.op (OpT.ixSl u59 ti78 rfl (hv2.mono (((((hl1.trans hl2).trans hl3).trans hl4).trans hl5).trans hl6)).sl rfl (idx_bd hx6)) rfl <| Seg.op (OpT.ldH u78 rfl rfl (hc4 0 _ rfl)) rfl ?_
    have hb7 := hv7.le
    refine Seg.op (OpT.len u78 rfl hv7.sl) rfl <| Seg.op (OpT.move rfl) rfl <| Seg.nilT <| Wp.block <| Wp.loopF (fun m LL HH OO => ∃ (l5 : List Int), ∃ (l6 : List Int), ∃ (k4 : Nat), ∃ (v14 : Value), ∃ (xs7 : List Value), ∃ (v15 : Value), ∃ (xs8 : List Value), [(0, (ptr B0 0)), (5, v4), (6, (.map (some B2))), (7, v9), (8, (.int .i64 (k1:Int))), (11, (.int .u8 ((lst x3 : Nat) : Int))), (13, v14), (14, v15), (35, v4), (36, (.int .i64 (((partsD x1).length : Nat) : Int))), (37, (.int .i64 (k2:Int))), (49, v10), (50, (.int .i64 (x4.length:Int))), (51, (.int .i64 (k3:Int))), (61, v13), (62, (.int .i64 (x6.length:Int))), (63, (.int .i64 (k4:Int)))] = LL ∧ .row v15 3 1 l6.length xs8 :: .row v14 3 1 l5.length xs7 :: .blk B3 (.cells #[(w64 (word x3 0)), (w64 (word x3 1)), (w64 (word x3 2)), (w64 (word x3 3))] 40 (0, 0)) :: .row v9 66 1 l2.length xs4 :: .blk B0 (.cells #[v1, v2, (.int .i64 a0.2.2)] 61 (0, 0)) :: mapR (mkS u9) (meB u4) B2 m4 :: O = OO ∧ loopK m (fun p nx => au_net_many_b4 fu x3 k3 nx3 x6 p.1 p.2.1 p.2.2 nx) (l5, l6, k4) = some r ∧ LayL cI64 HH l5 xs7 ∧ LayL cI64 HH l6 xs8) fu ⟨l3, l4, 0, v11, xs5, v12, xs6, rfl, rfl, hd, hq5, hq6⟩ (Sub.of rfl) ?_
    intro m9 L4 H7 O4 hl7 hI4
    obtain ⟨l5, l6, k4, v14, xs7, v15, xs8, rfl, rfl, hd, hq7, hq8⟩ := hI4
    replace hd := loopK_some hd; obtain ⟨m10, rfl, hd⟩ := hd
    obtain ⟨nx4, hn4⟩ : ∃ f, f = loopK m10 (fun p nx => au_net_many_b4 fu x3 k3 nx3 x6 p.1 p.2.1 p.2.2 nx) := ⟨_, rfl⟩
    rw [← hn4] at hd
    replace hd : au_net_many_b4 fu x3 k3 nx3 x6 l5 l6 k4 nx4 = some r := hd
    unfold au_net_many_b4 at hd
    refine Wp.sr <| Seg.op (OpT.lss rfl rfl) rfl <| Seg.nilT <| Wp.seq ?_
    refine Wp.cond (b := decide ((k4:Int) < (x6.length:Int))) rfl (fun hb8 => ?_) (fun hb8 => ?_)
    ·
     replace hd := brT hb8 hd
     replace hb8 := of_decide_eq_true hb8
     refine Wp.skip <| At.then_n <| Wp.seq <| Wp.block <| Wp.seq ?_
     obtain ⟨x7, hx7, hd⟩ := bnd_some hd
     have hx7_ := idx_bd hx7
     refine Wp.region ?_
     obtain ⟨_, ⟨_, _, rfl, rfl, ⟨_, _, rfl, rfl, rfl⟩⟩, hc5⟩ := SlD.get (hv7.mono hl7) hx7
     refine Seg.op (OpT.ixSl u78 ti80 rfl (hv7.mono hl7).sl rfl (idx_bd hx7)) rfl <| Seg.op (OpT.ldHA (vs := [(w64 (word x7.1 0)), (w64 (word x7.1 1)), (w64 (word x7.1 2)), (w64 (word x7.1 3)), (.int .i64 x7.2.1), (.int .i64 x7.2.2)]) u80 rfl ti80 rfl rfl (fun j u hj => (hc5 j u hj))) rfl <| Seg.alloc (cs := #[(w64 (word (fun _ => false) 0)), (w64 (word (fun _ => false) 1)), (w64 (word (fun _ => false) 2)), (w64 (word (fun _ => false) 3)), (.int .i64 0), (.int .i64 0)]) ti80 (by simp only [zw]; rfl) rfl fun B4 => Seg.stBlkW (i := 0) (cs' := #[(w64 (word x7.1 0)), (w64 (word x7.1 1)), (w64 (word x7.1 2)), (w64 (word x7.1 3)), (.int .i64 x7.2.1), (.int .i64 x7.2.2)]) rfl rfl ti80 rfl rfl (onesA (ones_cons rfl (ones_cons rfl (ones_cons rfl (ones_cons rfl (ones_cons rfl (ones_cons rfl (ones_nil)))))))) rfl ?_
     refine Seg.own (O := .blk B4 (.cells #[(w64 (word x7.1 0)), (w64 (word x7.1 1)), (w64 (word x7.1 2)), (w64 (word x7.1 3)), (.int .i64 x7.2.1), (.int .i64 x7.2.2)] 80 (0, 0)) :: .row v15 3 1 l6.length xs8 :: .row v14 3 1 l5.length xs7 :: .blk B3 (.cells #[(w64 (word x3 0)), (w64 (word x3 1)), (w64 (word x3 2)), (w64 (word x3 3))] 40 (0, 0)) :: .row v9 66 1 l2.length xs4 :: .blk B0 (.cells #[v1, v2, (.int .i64 a0.2.2)] 61 (0, 0)) :: mapR (mkS u9) (meB u4) B2 m4 :: O) ?_ rfl
     refine Seg.nilT <| Wp.sr <| Seg.op (OpT.fld (o' := 0) fl80_0 rfl rfl) rfl <| Seg.op (OpT.ldBlkX (i := 0) (vs := [(w64 (word x7.1 0)), (w64 (word x7.1 1)), (w64 (word x7.1 2)), (w64 (word x7.1 3))]) u40 rfl ti40 rfl rfl rfl) rfl <| Seg.op (OpT.move rfl) rfl <| Seg.op (OpT.call ent39 rfl (@has_i _ _ x7.1 ((lst x3 : Nat) : Int) (by omega) (by omega))) rfl <| Seg.nilT ?_
     refine Wp.cond (b := x7.1 (((lst x3 : Nat) : Int)).toNat) rfl (fun hb9 => ?_) (fun hb9 => ?_)
     ·
      replace hd := brT hb9 hd
      obtain ⟨ha2, hd⟩ := chk_some hd
      obtain ⟨ha3, hd⟩ := chk_some hd
      refine Wp.emp <| Wp.emp <| SegO.runK 9 [an0, an0, ⟨[2], [], []⟩, ⟨[0], [0], [3]⟩, ⟨[0, 4], [4], [4]⟩, an0, an0, ⟨[2], [], []⟩, ⟨[1], [1], [8]⟩, ⟨[1, 3], [3], [9]⟩, ⟨[], [], [4]⟩, ⟨[], [], [9]⟩] follows rfl (by kernel_rfl) <| SegO.op (val := fun p1 => v14) rfl rfl (fun _ => rfl) (fun _ p1 _ hx hf hy => OpT.move rfl) rfl <| SegO.op (val := fun p1 => (ptr B4 5)) rfl rfl (fun _ => rfl) (fun _ p1 _ hx hf hy => OpT.fld (o' := 5) fl80_2 rfl rfl) rfl <| SegO.op (val := fun p1 => (.int .i64 x7.2.2)) rfl rfl (fun _ => rfl) (fun _ p1 _ hx hf hy => OpT.ldBlk (i := 2) (v := (.int .i64 x7.2.2)) u3 rfl rfl (hy 2 _ rfl rfl) rfl) rfl <| SegO.op1s (res := fun p1 => .row (p1 3) 3 1 1 [(.int .i64 x7.2.2)]) 0 rfl rfl rfl (fun _ => rfl) (fun _ p1 _ hx hf hy => OpS.buildR1 (v := (.int .i64 x7.2.2)) (cs := [(.int .i64 x7.2.2)]) 0 u66 ti3 rfl rfl rfl rfl rfl (hy 0 _ rfl rfl)) rfl (fun _ => ⟨_, _, _, _, rfl⟩) <| SegO.op1s (res := fun p1 => .row (p1 4) 3 1 (l5.length + 1) (xs7 ++ [(.int .i64 x7.2.2)])) 4 rfl rfl rfl (fun _ => rfl) (fun _ p1 _ hx hf hy => OpS.appR 4 0 u66 ti3 rfl rfl rfl rfl (hy 4 _ rfl rfl) (hy 0 _ rfl rfl) (ones_cons rfl (ones_nil)) rfl ha2) rfl (fun _ => ⟨_, _, _, _, rfl⟩) ?_
      refine SegO.op (val := fun p1 => v15) rfl rfl (fun _ => rfl) (fun _ p1 _ hx hf hy => OpT.move rfl) rfl <| SegO.op (val := fun p1 => (ptr B4 4)) rfl rfl (fun _ => rfl) (fun _ p1 _ hx hf hy => OpT.fld (o' := 4) fl80_1 rfl rfl) rfl <| SegO.op (val := fun p1 => (.int .i64 x7.2.1)) rfl rfl (fun _ => rfl) (fun _ p1 _ hx hf hy => OpT.ldBlk (i := 2) (v := (.int .i64 x7.2.1)) u3 rfl rfl (hy 2 _ rfl rfl) rfl) rfl <| SegO.op1s (res := fun p1 => .row (p1 8) 3 1 1 [(.int .i64 x7.2.1)]) 1 rfl rfl rfl (fun _ => rfl) (fun _ p1 _ hx hf hy => OpS.buildR1 (v := (.int .i64 x7.2.1)) (cs := [(.int .i64 x7.2.1)]) 1 u66 ti3 rfl rfl rfl rfl rfl (hy 1 _ rfl rfl)) rfl (fun _ => ⟨_, _, _, _, rfl⟩) <| SegO.op1s (res := fun p1 => .row (p1 9) 3 1 (l6.length + 1) (xs8 ++ [(.int .i64 x7.2.1)])) 3 rfl rfl rfl (fun _ => rfl) (fun _ p1 _ hx hf hy => OpS.appR 3 1 u66 ti3 rfl rfl rfl rfl (hy 3 _ rfl rfl) (hy 1 _ rfl rfl) (ones_cons rfl (ones_nil)) rfl ha3) rfl (fun _ => ⟨_, _, _, _, rfl⟩) <| SegO.op (val := fun p1 => (p1 4)) rfl rfl (fun _ => rfl) (fun _ p1 _ hx hf hy => OpT.assign rfl) rfl <| SegO.op (val := fun p1 => (p1 9)) rfl rfl (fun _ => rfl) (fun _ p1 _ hx hf hy => OpT.assign rfl) rfl <| SegO.done fun H8 p1 hl8 hF1 => ?_
      refine At.sub (L' := [(0, (ptr B0 0)), (5, v4), (6, (.map (some B2))), (7, v9), (8, (.int .i64 (k1:Int))), (11, (.int .u8 ((lst x3 : Nat) : Int))), (13, (p1 4)), (14, (p1 9)), (35, v4), (36, (.int .i64 (((partsD x1).length : Nat) : Int))), (37, (.int .i64 (k2:Int))), (49, v10), (50, (.int .i64 (x4.length:Int))), (51, (.int .i64 (k3:Int))), (61, v13), (62, (.int .i64 (x6.length:Int))), (63, (.int .i64 (k4:Int)))]) (Sub.of rfl) ?_
      refine At.own (O := .row (p1 3) 3 1 ([x7.2.2] : List Int).length [(.int .i64 x7.2.2)] :: .row (p1 8) 3 1 ([x7.2.1] : List Int).length [(.int .i64 x7.2.1)] :: .blk B4 (.cells #[(w64 (word x7.1 0)), (w64 (word x7.1 1)), (w64 (word x7.1 2)), (w64 (word x7.1 3)), (.int .i64 x7.2.1), (.int .i64 x7.2.2)] 80 (0, 0)) :: .row (p1 9) 3 1 (l6 ++ ([x7.2.1] : List Int)).length (xs8 ++ [(.int .i64 x7.2.1)]) :: .row (p1 4) 3 1 (l5 ++ ([x7.2.2] : List Int)).length (xs7 ++ [(.int .i64 x7.2.2)]) :: .blk B3 (.cells #[(w64 (word x3 0)), (w64 (word x3 1)), (w64 (word x3 2)), (w64 (word x3 3))] 40 (0, 0)) :: .row v9 66 1 l2.length xs4 :: .blk B0 (.cells #[v1, v2, (.int .i64 a0.2.2)] 61 (0, 0)) :: mapR (mkS u9) (meB u4) B2 m4 :: O) ?_ (by first | rfl | (simp only [List.length_append, List.length_set]; rfl) | simp)
      have hq9 : LayL cI64 H8 (l6 ++ ([x7.2.1] : List Int)) (xs8 ++ [(.int .i64 x7.2.1)]) := (LayL.app (hq8.mono hl8) (LayL.sing (c := cI64) (a := x7.2.1) (cs := [(.int .i64 x7.2.1)]) rfl))
      have hq10 : LayL cI64 H8 (l5 ++ ([x7.2.2] : List Int)) (xs7 ++ [(.int .i64 x7.2.2)]) := (LayL.app (hq7.mono hl8) (LayL.sing (c := cI64) (a := x7.2.2) (cs := [(.int .i64 x7.2.2)]) rfl))
      refine At.permK [2, 3, 4, 5, 6, 7, 8] 9 rfl rfl rfl <| At.blk_n <| At.then_n <| Wp.region <| Seg.op (OpT.add rfl rfl (fits64 (by omega))) rfl <| Seg.op (OpT.move rfl) rfl <| Seg.nil <| At.permK [1, 2, 3, 4, 5, 6] 7 rfl rfl rfl ?_
      refine At.nextF hl8 ⟨(l5 ++ ([x7.2.2] : List Int)), (l6 ++ ([x7.2.1] : List Int)), (k4 + 1), (p1 4), xs7 ++ [(.int .i64 x7.2.2)], (p1 9), xs8 ++ [(.int .i64 x7.2.1)], rfl, rfl, (by rw [← hn4]; exact hd), hq10, hq9⟩ (Sub.of rfl)
     replace hd := brF hb9 hd
     refine Wp.skip <| At.blk_n <| At.then_n <| Wp.region <| Seg.op (OpT.add rfl rfl (fits64 (by omega))) rfl <| Seg.op (OpT.move rfl) rfl <| Seg.nil <| At.permK [1, 2, 3, 4, 5, 6] 7 rfl rfl rfl ?_
     refine At.nextF (Hp.le.refl _) ⟨l5, l6, (k4 + 1), v14, xs7, v15, xs8, rfl, rfl, (by rw [← hn4]; exact hd), hq7, hq8⟩ (Sub.of rfl)
    replace hd := brF hb8 hd
    replace hb8 := of_decide_eq_false hb8
    refine Wp.exit <| At.then_x <| At.then_x <| At.blk_hit <| At.blk_n <| At.then_n <| Wp.region <| Seg.op (OpT.add rfl rfl (fits64 (by omega))) rfl ?_
    refine Seg.op (OpT.move rfl) rfl <| Seg.nil ?_
    refine At.nextF hl7 ⟨l5, l6, (k3 + 1), v14, xs7, v15, xs8, rfl, rfl, (by rw [← hn3]; exact hd), hq7, hq8⟩ (Sub.of rfl)
   replace hd := brF hb6 hd
   replace hb6 := of_decide_eq_false hb6
   refine Wp.exit <| At.then_x <| At.then_x <| At.blk_hit <| At.then_n <| Wp.seq ?_
   obtain ⟨ha4, hd⟩ := chk_some hd
   refine Wp.region <| Seg.op (OpT.move rfl) rfl <| Seg.permK [1, 0, 2, 3, 4, 5] 6 rfl rfl rfl <| Seg.opS (OpS.call ent40 rfl (sortT hq5 ha4)) rfl ?_
   rintro _ H9 _ hl9 ⟨xs9, rfl, hq11, rfl⟩
   refine Seg.nilT <| Wp.seq ?_
   obtain ⟨x8, hx8, hd⟩ := bnd_some hd
   refine Wp.region <| Seg.op (OpT.move rfl) rfl ?_
   refine Seg.rowLe (i := 0) rfl fun hb10 => ?_
   refine Seg.freeze (i := 0) rfl fun H10 hl10 hs1 => ?_
   have hv8 := SlD.of (c := cI64) hs1 rfl (hq11.mono hl10) hb10
   refine Seg.op (OpT.call ent41 rfl (au_key_w hv8 (hG.mono (((((((hl1.trans hl2).trans hl3).trans hl4).trans hl5).trans hl6).trans hl9).trans hl10)) hx8)) rfl <| Seg.op (OpT.assign rfl) rfl <| Seg.nilT <| Wp.seq <| Wp.seq ?_
   rcases Bool.eq_false_or_eq_true (decide ((((sortI l3).length : Nat) : Int) = 0)) with hg1 | hg1
   ·
    replace hd := brT hg1 hd
    have hg1_ := of_decide_eq_true hg1
    refine Wp.region <| Seg.op (OpT.move rfl) rfl ?_
    have hb11 := hv8.le
    refine Seg.op (OpT.len u66 rfl hv8.sl) rfl <| Seg.op (OpT.asB (b := decide ((((sortI l3).length : Nat) : Int) = 0)) (c := true) (OpT.eql rfl rfl) hg1) rfl <| Seg.op (OpT.move rfl) rfl <| Seg.skipG rfl rfl rfl rfl <| Seg.skipG rfl rfl rfl rfl <| Seg.skipG rfl rfl rfl rfl <| Seg.op (OpT.pickT rfl rfl) rfl <| Seg.nilT ?_
    refine Wp.condT rfl <| Wp.exit <| At.then_x <| At.blk_hit <| At.then_n <| Wp.region <| Seg.op (OpT.add rfl rfl (fits64 (by omega))) rfl <| Seg.op (OpT.move rfl) rfl ?_
    refine Seg.nil <| At.permK [2, 3, 4] 5 rfl rfl rfl ?_
    refine At.nextF ((hl6.trans hl9).trans hl10) ⟨l2, m4, (k2 + 1), v9, xs4, rfl, rfl, (by rw [← hn2]; exact hd), (hq4.mono ((hl6.trans hl9).trans hl10))⟩ (Sub.of rfl)
   replace hd := brF hg1 hd
   have hg1_ := of_decide_eq_false hg1
   obtain ⟨ha5, hd⟩ := chk_some hd
   refine Wp.region <| Seg.op (OpT.move rfl) rfl ?_
   have hb11 := hv8.le
   refine Seg.op (OpT.len u66 rfl hv8.sl) rfl <| Seg.op (OpT.asB (b := decide ((((sortI l3).length : Nat) : Int) = 0)) (c := false) (OpT.eql rfl rfl) hg1) rfl <| Seg.op (OpT.move rfl) rfl <| Seg.opG rfl rfl (OpT.move rfl) rfl <| Seg.opG rfl rfl (OpT.move rfl) rfl <| Seg.opG rfl rfl (OpT.lookup (K := (mkS u9)) (M := (meB u4)) (i := 4) (k := x8) (z := false) u84 ti4 trivial rfl rfl ha5 rfl) rfl <| Seg.op (OpT.pickF rfl rfl) rfl <| Seg.nilT ?_
   refine Wp.cond (b := (fmGet m4 x8).getD false) rfl (fun hb12 => ?_) (fun hb12 => ?_)
   ·
    replace hd := brT hb12 hd
    refine Wp.exit <| At.then_x <| At.blk_hit <| At.then_n <| Wp.region <| Seg.op (OpT.add rfl rfl (fits64 (by omega))) rfl <| Seg.op (OpT.move rfl) rfl <| Seg.nil ?_
    refine At.permK [2, 3, 4] 5 rfl rfl rfl ?_
    refine At.nextF ((hl6.trans hl9).trans hl10) ⟨l2, m4, (k2 + 1), v9, xs4, rfl, rfl, (by rw [← hn2]; exact hd), (hq4.mono ((hl6.trans hl9).trans hl10))⟩ (Sub.of rfl)
   replace hd := brF hb12 hd
   refine Wp.skip <| At.then_n <| Wp.seq <| Wp.sr <| Seg.op (OpT.move rfl) rfl <| Seg.op (OpT.lenMap (K := (mkS u9)) (M := (meB u4)) (i := 4) u84 rfl rfl) rfl <| Seg.op (OpT.eql rfl rfl) rfl <| Seg.nilT ?_
   refine Wp.cond (b := decide ((m4.length:Int) = 500)) rfl (fun hb13 => ?_) (fun hb13 => ?_)
   ·
    replace hd := brT hb13 hd
    replace hb13 := of_decide_eq_true hb13
    refine Wp.sr <| Seg.op (OpT.assign rfl) rfl <| Seg.nilT <| Wp.ret <| At.then_r <| At.blk_r <| At.then_r <| At.then_r ?_
    refine At.blk_r <| At.blk_r <| At.then_r <| At.then_r <| At.blk_r <| At.then_r ?_
    obtain rfl := Option.some.inj hd
    exact At.res1 rfl (RV.tmp (v := (.bool true)) rfl) (fun w hs => ⟨rfl, (hs.permK [3] 5 rfl rfl rfl).weaken (((((((hl1.trans hl2).trans hl3).trans hl4).trans hl5).trans hl6).trans hl9).trans hl10)⟩)
   replace hd := brF hb13 hd
   replace hb13 := of_decide_eq_false hb13
   refine Wp.skip <| At.then_n <| Wp.seq ?_
   obtain ⟨ha6, hd⟩ := chk_some hd
   obtain ⟨ha7, hd⟩ := chk_some hd
   refine Wp.region <| Seg.op (OpT.move rfl) rfl <| Seg.op (OpT.move rfl) rfl <| Seg.mapUpdate (K := (mkS u9)) (M := (meB u4)) (k := x8) (v := true) 4 u84 rfl rfl rfl ha6 trivial ha7 rfl <| Seg.nilT ?_
   obtain ⟨x9, hx9, hd⟩ := bnd_some hd
   obtain ⟨ha8, hd⟩ := chk_some hd
   refine Wp.region <| Seg.op (OpT.move rfl) rfl <| Seg.op (OpT.move rfl) rfl <| Seg.op (OpT.move rfl) rfl <| Seg.permK [3, 0, 1, 2, 4] 5 rfl rfl rfl <| Seg.opS (OpS.call ent37 rfl (au_net_closure_w (hv1.mono (((((((hl1.trans hl2).trans hl3).trans hl4).trans hl5).trans hl6).trans hl9).trans hl10)) (hv2.mono (((((((hl1.trans hl2).trans hl3).trans hl4).trans hl5).trans hl6).trans hl9).trans hl10)) (hq6.mono (hl9.trans hl10)) hx9)) rfl ?_
   rintro _ H11 _ hl11 ⟨⟨v16, rfl, hv9⟩, rfl⟩
   refine Seg.buildD1 (c := (cL cI64)) (y := x9) (cs := [v16]) u58 ti66 rfl rfl rfl (cellsL hv9.one) (⟨_, rfl, hv9⟩) rfl fun v17 xs10 hq12 => Seg.appD (i := 3) (j := 0) (hq4.mono (((hl6.trans hl9).trans hl10).trans hl11)) hq12 u58 ti66 rfl (by decide) rfl rfl rfl rfl (by decide) ha8 rfl fun v18 xs11 hq13 => Seg.drop (i := 0) <| Seg.op (OpT.assign rfl) rfl <| Seg.nil <| At.blk_n <| At.then_n <| Wp.region ?_
   refine Seg.op (OpT.add rfl rfl (fits64 (by omega))) rfl <| Seg.op (OpT.move rfl) rfl <| Seg.nil <| At.permK [2, 0, 3] 4 rfl rfl rfl ?_
   refine At.nextF (((hl6.trans hl9).trans hl10).trans hl11) ⟨(l2 ++ ([x9] : List (List Int))), (fmPut m4 x8 true), (k2 + 1), v18, xs11, rfl, rfl, (by rw [← hn2]; exact hd), hq13⟩ (Sub.of rfl)
  replace hd := brF hb4 hd
  replace hb4 := of_decide_eq_false hb4
  refine Wp.exit <| At.then_x <| At.then_x <| At.blk_hit <| At.blk_n <| At.then_n <| Wp.region <| Seg.op (OpT.move rfl) rfl ?_
  refine Seg.op (OpT.add rfl rfl (fits64 (by omega))) rfl <| Seg.op (OpT.assign rfl) rfl <| Seg.nil ?_
  refine At.nextF hl5 ⟨l2, m4, (k1 + 1), v9, xs4, rfl, rfl, (by rw [← hn1]; exact hd), hq4⟩ (Sub.of rfl)
 replace hd := brF hb2 hd
 replace hb2 := of_decide_eq_false hb2
 refine Wp.exit <| At.then_x <| At.then_x <| At.blk_hit <| At.then_n <| Wp.sr <| Seg.op (OpT.assign rfl) rfl <| Seg.nilT ?_
 refine Wp.ret ?_
 obtain rfl := Option.some.inj hd
 exact At.res1 rfl (RV.tmp (v := (.bool false)) rfl) (fun w hs => ⟨rfl, (hs.permK [1] 3 rfl rfl rfl).weaken (((hl1.trans hl2).trans hl3).trans hl4)⟩)

set_option maxRecDepth 100000 in
set_option maxHeartbeats 4000000 in
theorem slices_Index_w {fu : Nat} {a0 : List Int} {a1 : Int} {v1 : Value} {r : Int} (hv1 : SlD cI64 H a0 v1) (hd : slices_Index fu a0 a1 = some r) :
    TriV Tryd.prog 55 [v1, (.int .i64 a1)] H O (.int .i64 r) := by
 intro w hs
 refine wp_of Tryd.func55 rfl rfl rfl ?_ hs
 clear hs w
 unfold slices_Index at hd
 refine Wp.sr <| Seg.op (OpT.assign rfl) rfl <| Seg.nilT <| Wp.seq <| Wp.sr <| Seg.op (OpT.move rfl) rfl ?_
 have hb1 := hv1.le
 refine Seg.op (OpT.len u66 rfl hv1.sl) rfl <| Seg.op (OpT.move rfl) rfl <| Seg.nilT <| Wp.block <| Wp.loopF (fun m LL HH OO => ∃ (k1 : Nat), [(0, v1), (1, (.int .i64 a1)), (7, (.int .i64 (a0.length:Int))), (8, (.int .i64 (k1:Int)))] = LL ∧ O = OO ∧ loopK m (slices_Index_b1 fu a0 a1) k1 = some r) fu ⟨0, rfl, rfl, hd⟩ (Sub.of rfl) ?_
 intro m1 L1 H1 O1 hl1 hI1
 obtain ⟨k1, rfl, rfl, hd⟩ := hI1
 replace hd := loopK_some hd; obtain ⟨m2, rfl, hd⟩ := hd
 obtain ⟨nx1, hn1⟩ : ∃ f, f = loopK m2 (slices_Index_b1 fu a0 a1) := ⟨_, rfl⟩
 rw [← hn1] at hd
 replace hd : slices_Index_b1 fu a0 a1 k1 nx1 = some r := hd
 unfold slices_Index_b1 at hd
 refine Wp.sr <| Seg.op (OpT.lss rfl rfl) rfl <| Seg.nilT <| Wp.seq ?_
 refine Wp.cond (b := decide ((k1:Int) < (a0.length:Int))) rfl (fun hb2 => ?_) (fun hb2 => ?_)
 ·
  replace hd := brT hb2 hd
  replace hb2 := of_decide_eq_true hb2
  refine Wp.skip <| At.then_n <| Wp.seq <| Wp.block <| Wp.sr <| Seg.op (OpT.move rfl) rfl <| Seg.op (OpT.assign rfl) rfl <| Seg.nilT ?_
  refine Wp.seq ?_
  obtain ⟨x1, hx1, hd⟩ := bnd_some hd
  have hx1_ := idx_bd hx1
  refine Wp.region <| Seg.op (OpT.move rfl) rfl <| Seg.op (OpT.move rfl) rfl <| Seg.op (OpT.move rfl) rfl ?_
  obtain ⟨_, rfl, hc1⟩ := SlD.get (hv1.mono hl1) hx1
  refine Seg.op (OpT.ixSl u66 ti3 rfl (hv1.mono hl1).sl rfl (idx_bd hx1)) rfl <| Seg.op (OpT.ldH u3 rfl rfl (hc1 0 _ rfl)) rfl <| Seg.op (OpT.eql rfl rfl) rfl <| Seg.nilT ?_
  refine Wp.cond (b := decide (a1 = x1)) rfl (fun hb3 => ?_) (fun hb3 => ?_)
  ·
   replace hd := brT hb3 hd
   replace hb3 := of_decide_eq_true hb3
   refine Wp.sr <| Seg.op (OpT.move rfl) rfl <| Seg.op (OpT.assign rfl) rfl <| Seg.nilT <| Wp.ret <| At.blk_r <| At.then_r <| At.then_r ?_
   refine At.blk_r <| At.then_r ?_
   obtain rfl := Option.some.inj hd
   exact At.res1 rfl (RV.tmp (v := (.int .i64 (k1:Int))) rfl) (fun w hs => ⟨rfl, (hs.dropN 0).weaken hl1⟩)
  replace hd := brF hb3 hd
  replace hb3 := of_decide_eq_false hb3
  refine Wp.skip <| At.blk_n <| At.then_n <| Wp.region <| Seg.op (OpT.add rfl rfl (fits64 (by omega))) rfl <| Seg.op (OpT.move rfl) rfl <| Seg.nil ?_
  refine At.nextF (Hp.le.refl _) ⟨(k1 + 1), rfl, rfl, (by rw [← hn1]; exact hd)⟩ (Sub.of rfl)
 replace hd := brF hb2 hd
 replace hb2 := of_decide_eq_false hb2
 refine Wp.exit <| At.then_x <| At.then_x <| At.blk_hit <| At.then_n <| Wp.sr <| Seg.op (OpT.assign rfl) rfl <| Seg.nilT ?_
 refine Wp.ret ?_
 obtain rfl := Option.some.inj hd
 exact At.res1 rfl (RV.tmp (v := (.int .i64 (-1))) rfl) (fun w hs => ⟨rfl, (hs.dropN 0).weaken hl1⟩)

set_option maxRecDepth 100000 in
set_option maxHeartbeats 4000000 in
theorem slices_Contains_w {fu : Nat} {a0 : List Int} {a1 : Int} {v1 : Value} {r : Bool} (hv1 : SlD cI64 H a0 v1) (hd : slices_Contains fu a0 a1 = some r) :
    TriV Tryd.prog 42 [v1, (.int .i64 a1)] H O (.bool r) := by
 intro w hs
 refine wp_of Tryd.func42 rfl rfl rfl ?_ hs
 clear hs w
 unfold slices_Contains at hd
 refine Wp.sr <| Seg.op (OpT.assign rfl) rfl <| Seg.nilT <| Wp.seq ?_
 obtain ⟨x1, hx1, hd⟩ := bnd_some hd
 refine Wp.region <| Seg.op (OpT.move rfl) rfl <| Seg.op (OpT.move rfl) rfl <| Seg.op (OpT.call ent55 rfl (slices_Index_w hv1 hx1)) rfl <| Seg.op (OpT.geq rfl rfl) rfl <| Seg.op (OpT.assign rfl) rfl <| Seg.nilT <| Wp.ret ?_
 obtain rfl := Option.some.inj hd
 exact At.res1 rfl (RV.tmp (v := (.bool (decide (0 ≤ x1)))) rfl) (fun w hs => ⟨rfl, (hs.dropN 0).weaken (Hp.le.refl _)⟩)
end Go.Proofs.YtjmbmodmepdmjabDoor
