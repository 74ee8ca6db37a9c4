/- Walks, written by a program. -/
import Derived.Test.YtjmbmodmepdmjaaGreatDoorW1b
import Derived.Test.YtjmbmodmepdmjaaGreatDoorDStep
namespace Go.Proofs.YtjmbmodmepdmjaaGreatDoor
open Go.GK
variable {H : Hp} {O : List Res}

set_option maxRecDepth 100000 in
set_option maxHeartbeats 4000000 in
theorem r05_Wellformed_w {fu : Nat} {a0 : List (Bool × (List (Int × Int × Int)))} {v1 : Value} {r : Bool} (hv1 : SlD (cP cB (cL (cP cU8 (cP cU8 cI64)))) H a0 v1) (hd : r05_Wellformed fu a0 = some r) :
    TriV Tryz.prog 16 [v1] H O (.bool r) := by
 intro w hs
 refine wp_of Tryz.func16 rfl rfl rfl ?_ hs
 clear hs w
 unfold r05_Wellformed at hd
 refine Wp.sr <| Seg.op (OpT.assign rfl) rfl <| Seg.nilT <| Wp.seq <| Wp.sr <| Seg.op (OpT.move rfl) rfl ?_
 have hb1 := hv1.le
 refine Seg.op (OpT.len u22 rfl hv1.sl) rfl <| Seg.op (OpT.move rfl) rfl <| Seg.nilT <| Wp.block <| Wp.loopF (fun m LL HH OO => ∃ (k1 : Nat), [(0, v1), (7, v1), (8, (.int .i64 (a0.length:Int))), (9, (.int .i64 (k1:Int)))] = LL ∧ O = OO ∧ loopK m (r05_Wellformed_b1 fu a0) k1 = some r) fu ⟨0, rfl, rfl, hd⟩ (Sub.of rfl) ?_
 intro m1 L1 H1 O1 hl1 hI1
 obtain ⟨k1, rfl, rfl, hd⟩ := hI1
 replace hd := loopK_some hd; obtain ⟨m2, rfl, hd⟩ := hd
 obtain ⟨nx1, hn1⟩ : ∃ f, f = loopK m2 (r05_Wellformed_b1 fu a0) := ⟨_, rfl⟩
 rw [← hn1] at hd
 replace hd : r05_Wellformed_b1 fu a0 k1 nx1 = some r := hd
 unfold r05_Wellformed_b1 at hd
 refine Wp.sr <| Seg.op (OpT.lss rfl rfl) rfl <| Seg.nilT <| Wp.seq ?_
 refine Wp.cond (b := decide ((k1:Int) < (a0.length:Int))) rfl (fun hb2 => ?_) (fun hb2 => ?_)
 ·
  replace hd := brT hb2 hd
  replace hb2 := of_decide_eq_true hb2
  refine Wp.skip <| At.then_n <| Wp.seq <| Wp.block <| Wp.seq ?_
  obtain ⟨x1, hx1, hd⟩ := bnd_some hd
  have hx1_ := idx_bd hx1
  refine Wp.region ?_
  obtain ⟨_, ⟨_, _, rfl, rfl, ⟨v2, rfl, hv2⟩⟩, hc1⟩ := SlD.get (hv1.mono hl1) hx1
  refine Seg.op (OpT.ixSl u22 ti43 rfl (hv1.mono hl1).sl rfl (idx_bd hx1)) rfl <| Seg.op (OpT.ldHA (vs := [(.bool x1.1), v2]) u43 rfl ti43 rfl rfl (fun j u hj => (hc1 j u hj))) rfl <| Seg.alloc (cs := #[(.bool false), (.slice none 0 0)]) ti43 rfl rfl fun B2 => Seg.stBlkW (i := 0) (cs' := #[(.bool x1.1), v2]) rfl rfl ti43 rfl rfl (onesA (ones_cons rfl (ones_cons hv2.one (ones_nil)))) rfl ?_
  refine Seg.own (O := .blk B2 (.cells #[(.bool x1.1), v2] 43 (0, 0)) :: O) ?_ rfl
  refine Seg.nilT <| Wp.sr <| Seg.op (OpT.fld (o' := 1) fl43_1 rfl rfl) rfl <| Seg.op (OpT.ldBlk (i := 0) (v := v2) u41 rfl rfl rfl rfl) rfl ?_
  have hb3 := hv2.le
  refine Seg.op (OpT.len u41 rfl hv2.sl) rfl <| Seg.op (OpT.move rfl) rfl <| Seg.nilT <| Wp.block <| Wp.loopF (fun m LL HH OO => ∃ (k2 : Nat), [(0, v1), (4, (ptr B2 0)), (7, v1), (8, (.int .i64 (a0.length:Int))), (9, (.int .i64 (k1:Int))), (14, v2), (15, (.int .i64 (x1.2.length:Int))), (16, (.int .i64 (k2:Int)))] = LL ∧ .blk B2 (.cells #[(.bool x1.1), v2] 43 (0, 0)) :: O = OO ∧ loopK m (r05_Wellformed_b2 fu a0 k1 nx1 x1) k2 = some r) fu ⟨0, rfl, rfl, hd⟩ (Sub.of rfl) ?_
  intro m3 L2 H2 O2 hl2 hI2
  obtain ⟨k2, rfl, rfl, hd⟩ := hI2
  replace hd := loopK_some hd; obtain ⟨m4, rfl, hd⟩ := hd
  obtain ⟨nx2, hn2⟩ : ∃ f, f = loopK m4 (r05_Wellformed_b2 fu a0 k1 nx1 x1) := ⟨_, rfl⟩
  rw [← hn2] at hd
  replace hd : r05_Wellformed_b2 fu a0 k1 nx1 x1 k2 nx2 = some r := hd
  unfold r05_Wellformed_b2 at hd
  refine Wp.sr <| Seg.op (OpT.lss rfl rfl) rfl <| Seg.nilT <| Wp.seq ?_
  refine Wp.cond (b := decide ((k2:Int) < (x1.2.length:Int))) rfl (fun hb4 => ?_) (fun hb4 => ?_)
  ·
   replace hd := brT hb4 hd
   replace hb4 := of_decide_eq_true hb4
   refine Wp.skip <| At.then_n <| Wp.seq <| Wp.block <| Wp.seq ?_
   obtain ⟨x2, hx2, hd⟩ := bnd_some hd
   have hx2_ := idx_bd hx2
   refine Wp.region <| Seg.op (OpT.move rfl) rfl ?_
   obtain ⟨_, ⟨_, _, rfl, ⟨rfl, hr1, hr2⟩, ⟨_, _, rfl, ⟨rfl, hr3, hr4⟩, rfl⟩⟩, hc2⟩ := SlD.get (hv2.mono hl2) hx2
   refine Seg.op (OpT.ixSl u41 ti46 rfl (hv2.mono hl2).sl rfl (idx_bd hx2)) rfl <| Seg.op (OpT.ldHA (vs := [(.int .u8 x2.1), (.int .u8 x2.2.1), (.int .i64 x2.2.2)]) u46 rfl ti46 rfl rfl (fun j u hj => (hc2 j u hj))) rfl <| Seg.alloc (cs := #[(.int .u8 0), (.int .u8 0), (.int .i64 0)]) ti46 rfl rfl fun B3 => Seg.op (OpT.assign rfl) rfl <| Seg.stBlkW (i := 0) (cs' := #[(.int .u8 x2.1), (.int .u8 x2.2.1), (.int .i64 x2.2.2)]) rfl rfl ti46 rfl rfl (onesA (ones_cons rfl (ones_cons rfl (ones_cons rfl (ones_nil))))) rfl ?_
   refine Seg.own (O := .blk B3 (.cells #[(.int .u8 x2.1), (.int .u8 x2.2.1), (.int .i64 x2.2.2)] 46 (0, 0)) :: .blk B2 (.cells #[(.bool x1.1), v2] 43 (0, 0)) :: O) ?_ rfl
   refine Seg.nilT <| Wp.seq ?_
   rcases Bool.eq_false_or_eq_true (decide (x2.2.1 < x2.1)) with hg1 | hg1
   ·
    replace hd := brT hg1 hd
    have hg1_ := of_decide_eq_true hg1
    refine Wp.drawE 33 follows rfl (by kernel_rfl) <| SegL.opE (OpT.fld (o' := 0) fl46_0 rfl rfl) rfl <| SegL.opE (OpT.ldBlk (i := 0) (v := (.int .u8 x2.1)) u5 rfl rfl rfl rfl) rfl <| SegL.opE (OpT.fld (o' := 1) fl46_1 rfl rfl) rfl <| SegL.opE (OpT.ldBlk (i := 0) (v := (.int .u8 x2.2.1)) u5 rfl rfl rfl rfl) rfl <| SegL.opE (OpT.asB (b := decide (x2.2.1 < x2.1)) (c := true) (OpT.gtr rfl rfl) hg1) rfl <| SegL.opE (OpT.move rfl) rfl <| SegL.skipGE rfl rfl rfl rfl ?_
    refine SegL.skipGE rfl rfl rfl rfl <| SegL.skipGE rfl rfl rfl rfl <| SegL.opE (OpT.pickT rfl rfl) rfl <| SegL.opE (OpT.move rfl) rfl <| SegL.skipGE rfl rfl rfl rfl <| SegL.skipGE rfl rfl rfl rfl <| SegL.skipGE rfl rfl rfl rfl <| SegL.skipGE rfl rfl rfl rfl ?_
    refine SegL.skipGE rfl rfl rfl rfl <| SegL.opE (OpT.pickT rfl rfl) rfl <| SegL.opE (OpT.move rfl) rfl <| SegL.skipGE rfl rfl rfl rfl <| SegL.skipGE rfl rfl rfl rfl <| SegL.skipGE rfl rfl rfl rfl <| SegL.skipUE rfl rfl rfl <| SegL.skipUE rfl rfl rfl ?_
    refine SegL.skipUE rfl rfl rfl <| SegL.skipUE rfl rfl rfl <| SegL.skipUE rfl rfl rfl <| SegL.skipUE rfl rfl rfl <| SegL.skipUE rfl rfl rfl <| SegL.skipUE rfl rfl rfl <| SegL.skipUE rfl rfl rfl <| SegL.skipUE rfl rfl rfl ?_
    refine SegL.skipGE rfl rfl rfl rfl <| SegL.opE (OpT.pickT rfl rfl) rfl <| SegL.doneE <| EndL.is (t := 0) rfl <| EndL.is (t := 4) rfl <| EndL.is (t := 7) rfl <| EndL.is (t := 8) rfl <| EndL.is (t := 9) rfl ?_
    refine EndL.is (t := 14) rfl <| EndL.is (t := 15) rfl <| EndL.is (t := 16) rfl <| EndL.is (t := 53) rfl <| EndL.seg <| Seg.nilT <| Wp.condT rfl <| Wp.sr ?_
    refine Seg.op (OpT.assign rfl) rfl <| Seg.nilT <| Wp.ret <| At.blk_r <| At.then_r <| At.then_r <| At.blk_r <| At.blk_r ?_
    refine At.then_r <| At.then_r <| At.blk_r <| At.then_r ?_
    obtain rfl := Option.some.inj hd
    exact At.res1 rfl (RV.tmp (v := (.bool false)) rfl) (fun w hs => ⟨rfl, (hs.dropN 2).weaken (hl1.trans hl2)⟩)
   replace hd := brF hg1 hd
   have hg1_ := of_decide_eq_false hg1
   rcases Bool.eq_false_or_eq_true (decide (x2.2.2 < 0)) with hg2 | hg2
   ·
    replace hd := brT hg2 hd
    have hg2_ := of_decide_eq_true hg2
    refine Wp.drawE 33 follows rfl (by kernel_rfl) <| SegL.opE (OpT.fld (o' := 0) fl46_0 rfl rfl) rfl <| SegL.opE (OpT.ldBlk (i := 0) (v := (.int .u8 x2.1)) u5 rfl rfl rfl rfl) rfl <| SegL.opE (OpT.fld (o' := 1) fl46_1 rfl rfl) rfl <| SegL.opE (OpT.ldBlk (i := 0) (v := (.int .u8 x2.2.1)) u5 rfl rfl rfl rfl) rfl <| SegL.opE (OpT.asB (b := decide (x2.2.1 < x2.1)) (c := false) (OpT.gtr rfl rfl) hg1) rfl <| SegL.opE (OpT.move rfl) rfl <| SegL.opGE rfl rfl (OpT.fld (o' := 2) fl46_2 rfl rfl) rfl ?_
    refine SegL.opGE rfl rfl (OpT.ldBlk (i := 0) (v := (.int .i64 x2.2.2)) u3 rfl rfl rfl rfl) rfl <| SegL.opGE rfl rfl (OpT.asB (b := decide (x2.2.2 < 0)) (c := true) (OpT.lss rfl rfl) hg2) rfl <| SegL.opE (OpT.pickF rfl rfl) rfl <| SegL.opE (OpT.move rfl) rfl <| SegL.skipGE rfl rfl rfl rfl <| SegL.skipGE rfl rfl rfl rfl <| SegL.skipGE rfl rfl rfl rfl <| SegL.skipGE rfl rfl rfl rfl ?_
    refine SegL.skipGE rfl rfl rfl rfl <| SegL.opE (OpT.pickT rfl rfl) rfl <| SegL.opE (OpT.move rfl) rfl <| SegL.skipGE rfl rfl rfl rfl <| SegL.skipGE rfl rfl rfl rfl <| SegL.skipGE rfl rfl rfl rfl <| SegL.skipUE rfl rfl rfl <| SegL.skipUE rfl rfl rfl ?_
    refine SegL.skipUE rfl rfl rfl <| SegL.skipUE rfl rfl rfl <| SegL.skipUE rfl rfl rfl <| SegL.skipUE rfl rfl rfl <| SegL.skipUE rfl rfl rfl <| SegL.skipUE rfl rfl rfl <| SegL.skipUE rfl rfl rfl <| SegL.skipUE rfl rfl rfl ?_
    refine SegL.skipGE rfl rfl rfl rfl <| SegL.opE (OpT.pickT rfl rfl) rfl <| SegL.doneE <| EndL.is (t := 0) rfl <| EndL.is (t := 4) rfl <| EndL.is (t := 7) rfl <| EndL.is (t := 8) rfl <| EndL.is (t := 9) rfl ?_
    refine EndL.is (t := 14) rfl <| EndL.is (t := 15) rfl <| EndL.is (t := 16) rfl <| EndL.is (t := 53) rfl <| EndL.seg <| Seg.nilT <| Wp.condT rfl <| Wp.sr ?_
    refine Seg.op (OpT.assign rfl) rfl <| Seg.nilT <| Wp.ret <| At.blk_r <| At.then_r <| At.then_r <| At.blk_r <| At.blk_r ?_
    refine At.then_r <| At.then_r <| At.blk_r <| At.then_r ?_
    obtain rfl := Option.some.inj hd
    exact At.res1 rfl (RV.tmp (v := (.bool false)) rfl) (fun w hs => ⟨rfl, (hs.dropN 2).weaken (hl1.trans hl2)⟩)
   replace hd := brF hg2 hd
   have hg2_ := of_decide_eq_false hg2
   rcases Bool.eq_false_or_eq_true (decide ((a0.length:Int) ≤ x2.2.2)) with hg3 | hg3
   ·
    replace hd := brT hg3 hd
    have hg3_ := of_decide_eq_true hg3
    have hb5 := hv1.le
    refine Wp.drawE 33 follows rfl (by kernel_rfl) <| SegL.opE (OpT.fld (o' := 0) fl46_0 rfl rfl) rfl <| SegL.opE (OpT.ldBlk (i := 0) (v := (.int .u8 x2.1)) u5 rfl rfl rfl rfl) rfl <| SegL.opE (OpT.fld (o' := 1) fl46_1 rfl rfl) rfl <| SegL.opE (OpT.ldBlk (i := 0) (v := (.int .u8 x2.2.1)) u5 rfl rfl rfl rfl) rfl <| SegL.opE (OpT.asB (b := decide (x2.2.1 < x2.1)) (c := false) (OpT.gtr rfl rfl) hg1) rfl <| SegL.opE (OpT.move rfl) rfl <| SegL.opGE rfl rfl (OpT.fld (o' := 2) fl46_2 rfl rfl) rfl ?_
    refine SegL.opGE rfl rfl (OpT.ldBlk (i := 0) (v := (.int .i64 x2.2.2)) u3 rfl rfl rfl rfl) rfl <| SegL.opGE rfl rfl (OpT.asB (b := decide (x2.2.2 < 0)) (c := false) (OpT.lss rfl rfl) hg2) rfl <| SegL.opE (OpT.pickF rfl rfl) rfl <| SegL.opE (OpT.move rfl) rfl <| SegL.opGE rfl rfl (OpT.fld (o' := 2) fl46_2 rfl rfl) rfl <| SegL.opGE rfl rfl (OpT.ldBlk (i := 0) (v := (.int .i64 x2.2.2)) u3 rfl rfl rfl rfl) rfl <| SegL.opGE rfl rfl (OpT.move rfl) rfl <| SegL.opGE rfl rfl (OpT.len u22 rfl (hv1.mono (hl1.trans hl2)).sl) rfl ?_
    refine SegL.opGE rfl rfl (OpT.asB (b := decide ((a0.length:Int) ≤ x2.2.2)) (c := true) (OpT.geq rfl rfl) hg3) rfl <| SegL.opE (OpT.pickF rfl rfl) rfl <| SegL.opE (OpT.move rfl) rfl <| SegL.skipGE rfl rfl rfl rfl <| SegL.skipGE rfl rfl rfl rfl <| SegL.skipGE rfl rfl rfl rfl <| SegL.skipUE rfl rfl rfl <| SegL.skipUE rfl rfl rfl ?_
    refine SegL.skipUE rfl rfl rfl <| SegL.skipUE rfl rfl rfl <| SegL.skipUE rfl rfl rfl <| SegL.skipUE rfl rfl rfl <| SegL.skipUE rfl rfl rfl <| SegL.skipUE rfl rfl rfl <| SegL.skipUE rfl rfl rfl <| SegL.skipUE rfl rfl rfl ?_
    refine SegL.skipGE rfl rfl rfl rfl <| SegL.opE (OpT.pickT rfl rfl) rfl <| SegL.doneE <| EndL.is (t := 0) rfl <| EndL.is (t := 4) rfl <| EndL.is (t := 7) rfl <| EndL.is (t := 8) rfl <| EndL.is (t := 9) rfl ?_
    refine EndL.is (t := 14) rfl <| EndL.is (t := 15) rfl <| EndL.is (t := 16) rfl <| EndL.is (t := 53) rfl <| EndL.seg <| Seg.nilT <| Wp.condT rfl <| Wp.sr ?_
    refine Seg.op (OpT.assign rfl) rfl <| Seg.nilT <| Wp.ret <| At.blk_r <| At.then_r <| At.then_r <| At.blk_r <| At.blk_r ?_
    refine At.then_r <| At.then_r <| At.blk_r <| At.then_r ?_
    obtain rfl := Option.some.inj hd
    exact At.res1 rfl (RV.tmp (v := (.bool false)) rfl) (fun w hs => ⟨rfl, (hs.dropN 2).weaken (hl1.trans hl2)⟩)
   replace hd := brF hg3 hd
   have hg3_ := of_decide_eq_false hg3
   rcases Bool.eq_false_or_eq_true (decide (0 < (k2:Int))) with hg4 | hg4
   ·
    replace hd := brT hg4 hd
    have hg4_ := of_decide_eq_true hg4
    obtain ⟨ha1, hd⟩ := chk_some hd
    obtain ⟨x3, hx3, hd⟩ := bnd_some hd
    have hx3_ := idx_bd hx3
    have hb5 := hv1.le
    obtain ⟨_, ⟨_, _, rfl, ⟨rfl, hr5, hr6⟩, ⟨_, _, rfl, ⟨rfl, hr7, hr8⟩, rfl⟩⟩, hc3⟩ := SlD.get (hv2.mono hl2) hx3
    refine Wp.drawE 33 follows rfl (by kernel_rfl) <| SegL.opE (OpT.fld (o' := 0) fl46_0 rfl rfl) rfl <| SegL.opE (OpT.ldBlk (i := 0) (v := (.int .u8 x2.1)) u5 rfl rfl rfl rfl) rfl <| SegL.opE (OpT.fld (o' := 1) fl46_1 rfl rfl) rfl <| SegL.opE (OpT.ldBlk (i := 0) (v := (.int .u8 x2.2.1)) u5 rfl rfl rfl rfl) rfl <| SegL.opE (OpT.asB (b := decide (x2.2.1 < x2.1)) (c := false) (OpT.gtr rfl rfl) hg1) rfl <| SegL.opE (OpT.move rfl) rfl <| SegL.opGE rfl rfl (OpT.fld (o' := 2) fl46_2 rfl rfl) rfl ?_
    refine SegL.opGE rfl rfl (OpT.ldBlk (i := 0) (v := (.int .i64 x2.2.2)) u3 rfl rfl rfl rfl) rfl <| SegL.opGE rfl rfl (OpT.asB (b := decide (x2.2.2 < 0)) (c := false) (OpT.lss rfl rfl) hg2) rfl <| SegL.opE (OpT.pickF rfl rfl) rfl <| SegL.opE (OpT.move rfl) rfl <| SegL.opGE rfl rfl (OpT.fld (o' := 2) fl46_2 rfl rfl) rfl <| SegL.opGE rfl rfl (OpT.ldBlk (i := 0) (v := (.int .i64 x2.2.2)) u3 rfl rfl rfl rfl) rfl <| SegL.opGE rfl rfl (OpT.move rfl) rfl <| SegL.opGE rfl rfl (OpT.len u22 rfl (hv1.mono (hl1.trans hl2)).sl) rfl ?_
    refine SegL.opGE rfl rfl (OpT.asB (b := decide ((a0.length:Int) ≤ x2.2.2)) (c := false) (OpT.geq rfl rfl) hg3) rfl <| SegL.opE (OpT.pickF rfl rfl) rfl <| SegL.opE (OpT.move rfl) rfl <| SegL.opGE rfl rfl (OpT.move rfl) rfl <| SegL.opGE rfl rfl (OpT.asB (b := decide (0 < (k2:Int))) (c := true) (OpT.gtr rfl rfl) hg4) rfl <| SegL.opGE rfl rfl (OpT.move rfl) rfl <| SegL.opGE rfl rfl (OpT.fld (o' := 1) fl43_1 rfl rfl) rfl <| SegL.opGE rfl rfl (OpT.ldBlk (i := 1) (v := v2) u41 rfl rfl rfl rfl) rfl ?_
    refine SegL.opGE rfl rfl (OpT.move rfl) rfl <| SegL.opGE rfl rfl (OpT.sub rfl rfl (fits64 ha1)) rfl <| SegL.opGE rfl rfl (OpT.ixSl u41 ti46 rfl (hv2.mono hl2).sl rfl (idx_bd hx3)) rfl <| SegL.opGE rfl rfl (OpT.fldE fl46_1 rfl (hv2.mono hl2).sl (by omega)) rfl <| SegL.opGE rfl rfl (OpT.ldH u5 rfl rfl (hc3 1 _ rfl)) rfl <| SegL.opGE rfl rfl (OpT.fld (o' := 0) fl46_0 rfl rfl) rfl <| SegL.opGE rfl rfl (OpT.ldBlk (i := 0) (v := (.int .u8 x2.1)) u5 rfl rfl rfl rfl) rfl <| SegL.opGE rfl rfl (OpT.geq rfl rfl) rfl ?_
    refine SegL.opGE rfl rfl (OpT.pickT rfl rfl) rfl <| SegL.opE (OpT.pickF rfl rfl) rfl <| SegL.doneE <| EndL.is (t := 0) rfl <| EndL.is (t := 4) rfl <| EndL.is (t := 7) rfl <| EndL.is (t := 8) rfl <| EndL.is (t := 9) rfl ?_
    refine EndL.is (t := 14) rfl <| EndL.is (t := 15) rfl <| EndL.is (t := 16) rfl <| EndL.is (t := 53) rfl <| EndL.seg <| Seg.nilT ?_
    refine Wp.cond (b := decide (x2.1 ≤ x3.2.1)) rfl (fun hb6 => ?_) (fun hb6 => ?_)
    ·
     replace hd := brT hb6 hd
     replace hb6 := of_decide_eq_true hb6
     refine Wp.sr <| Seg.op (OpT.assign rfl) rfl <| Seg.nilT <| Wp.ret <| At.blk_r <| At.then_r <| At.then_r <| At.blk_r ?_
     refine At.blk_r <| At.then_r <| At.then_r <| At.blk_r <| At.then_r ?_
     obtain rfl := Option.some.inj hd
     exact At.res1 rfl (RV.tmp (v := (.bool false)) rfl) (fun w hs => ⟨rfl, (hs.dropN 2).weaken (hl1.trans hl2)⟩)
    replace hd := brF hb6 hd
    replace hb6 := of_decide_eq_false hb6
    refine Wp.skip <| At.blk_n <| At.then_n <| Wp.region <| Seg.op (OpT.add rfl rfl (fits64 (by omega))) rfl <| Seg.op (OpT.move rfl) rfl <| Seg.nil <| At.permK [1] 2 rfl rfl rfl ?_
    refine At.nextF (Hp.le.refl _) ⟨(k2 + 1), rfl, rfl, (by rw [← hn2]; exact hd)⟩ (Sub.of rfl)
   replace hd := brF hg4 hd
   have hg4_ := of_decide_eq_false hg4
   have hb5 := hv1.le
   refine Wp.drawE 33 follows rfl (by kernel_rfl) <| SegL.opE (OpT.fld (o' := 0) fl46_0 rfl rfl) rfl <| SegL.opE (OpT.ldBlk (i := 0) (v := (.int .u8 x2.1)) u5 rfl rfl rfl rfl) rfl <| SegL.opE (OpT.fld (o' := 1) fl46_1 rfl rfl) rfl <| SegL.opE (OpT.ldBlk (i := 0) (v := (.int .u8 x2.2.1)) u5 rfl rfl rfl rfl) rfl <| SegL.opE (OpT.asB (b := decide (x2.2.1 < x2.1)) (c := false) (OpT.gtr rfl rfl) hg1) rfl <| SegL.opE (OpT.move rfl) rfl <| SegL.opGE rfl rfl (OpT.fld (o' := 2) fl46_2 rfl rfl) rfl ?_
   refine SegL.opGE rfl rfl (OpT.ldBlk (i := 0) (v := (.int .i64 x2.2.2)) u3 rfl rfl rfl rfl) rfl <| SegL.opGE rfl rfl (OpT.asB (b := decide (x2.2.2 < 0)) (c := false) (OpT.lss rfl rfl) hg2) rfl <| SegL.opE (OpT.pickF rfl rfl) rfl <| SegL.opE (OpT.move rfl) rfl <| SegL.opGE rfl rfl (OpT.fld (o' := 2) fl46_2 rfl rfl) rfl <| SegL.opGE rfl rfl (OpT.ldBlk (i := 0) (v := (.int .i64 x2.2.2)) u3 rfl rfl rfl rfl) rfl <| SegL.opGE rfl rfl (OpT.move rfl) rfl <| SegL.opGE rfl rfl (OpT.len u22 rfl (hv1.mono (hl1.trans hl2)).sl) rfl ?_
   refine SegL.opGE rfl rfl (OpT.asB (b := decide ((a0.length:Int) ≤ x2.2.2)) (c := false) (OpT.geq rfl rfl) hg3) rfl <| SegL.opE (OpT.pickF rfl rfl) rfl <| SegL.opE (OpT.move rfl) rfl <| SegL.opGE rfl rfl (OpT.move rfl) rfl <| SegL.opGE rfl rfl (OpT.asB (b := decide (0 < (k2:Int))) (c := false) (OpT.gtr rfl rfl) hg4) rfl <| SegL.opGE rfl rfl (OpT.move rfl) rfl <| SegL.skipGE rfl rfl rfl rfl <| SegL.skipGE rfl rfl rfl rfl ?_
   refine SegL.skipGE rfl rfl rfl rfl <| SegL.skipGE rfl rfl rfl rfl <| SegL.skipGE rfl rfl rfl rfl <| SegL.skipGE rfl rfl rfl rfl <| SegL.skipGE rfl rfl rfl rfl <| SegL.skipGE rfl rfl rfl rfl <| SegL.skipGE rfl rfl rfl rfl <| SegL.skipGE rfl rfl rfl rfl ?_
   refine SegL.opGE rfl rfl (OpT.pickF rfl rfl) rfl <| SegL.opE (OpT.pickF rfl rfl) rfl <| SegL.doneE <| EndL.is (t := 0) rfl <| EndL.is (t := 4) rfl <| EndL.is (t := 7) rfl <| EndL.is (t := 8) rfl <| EndL.is (t := 9) rfl ?_
   refine EndL.is (t := 14) rfl <| EndL.is (t := 15) rfl <| EndL.is (t := 16) rfl <| EndL.is (t := 53) rfl <| EndL.seg <| Seg.nilT <| Wp.condF rfl <| Wp.skip ?_
   refine At.blk_n <| At.then_n <| Wp.region <| Seg.op (OpT.add rfl rfl (fits64 (by omega))) rfl <| Seg.op (OpT.move rfl) rfl <| Seg.nil <| At.permK [1] 2 rfl rfl rfl ?_
   refine At.nextF (Hp.le.refl _) ⟨(k2 + 1), rfl, rfl, (by rw [← hn2]; exact hd)⟩ (Sub.of rfl)
  replace hd := brF hb4 hd
  replace hb4 := of_decide_eq_false hb4
  refine Wp.exit <| At.then_x <| At.then_x <| At.blk_hit <| At.blk_n <| At.then_n <| Wp.region <| Seg.op (OpT.add rfl rfl (fits64 (by omega))) rfl ?_
  refine Seg.op (OpT.move rfl) rfl <| Seg.nil <| At.permK [] 1 rfl rfl rfl ?_
  refine At.nextF hl2 ⟨(k1 + 1), rfl, rfl, (by rw [← hn1]; exact hd)⟩ (Sub.of rfl)
 replace hd := brF hb2 hd
 replace hb2 := of_decide_eq_false hb2
 refine Wp.exit <| At.then_x <| At.then_x <| At.blk_hit <| At.then_n <| Wp.sr <| Seg.op (OpT.assign rfl) rfl <| Seg.nilT ?_
 refine Wp.ret ?_
 obtain rfl := Option.some.inj hd
 exact At.res1 rfl (RV.tmp (v := (.bool true)) rfl) (fun w hs => ⟨rfl, (hs.dropN 0).weaken hl1⟩)

set_option maxRecDepth 100000 in
set_option maxHeartbeats 4000000 in
theorem r05_Step_w {fu : Nat} {a0 : List (Bool × (List (Int × Int × Int)))} {a1 : Int} {a2 : Int} {v1 : Value} {r : Int} (hv1 : SlD (cP cB (cL (cP cU8 (cP cU8 cI64)))) H a0 v1) (hr1 : 0 ≤ a2) (hr2 : a2 ≤ 255) (hd : r05_Step fu a0 a1 a2 = some r) :
    TriV Tryz.prog 32 [v1, (.int .i64 a1), (.int .u8 a2)] H O (.int .i64 r) := by
 intro w hs
 refine wp_of Tryz.func32 rfl rfl rfl ?_ hs
 clear hs w
 unfold r05_Step at hd
 refine Wp.sr <| Seg.op (OpT.assign rfl) rfl <| Seg.nilT <| Wp.seq <| Wp.sr <| Seg.op (OpT.move rfl) rfl <| Seg.op (OpT.lss rfl rfl) rfl <| Seg.nilT ?_
 refine Wp.cond (b := decide (a1 < 0)) rfl (fun hb1 => ?_) (fun hb1 => ?_)
 ·
  replace hd := brT hb1 hd
  replace hb1 := of_decide_eq_true hb1
  refine Wp.sr <| Seg.op (OpT.assign rfl) rfl <| Seg.nilT <| Wp.ret <| At.then_r ?_
  obtain rfl := Option.some.inj hd
  exact At.res1 rfl (RV.tmp (v := (.int .i64 (-1))) rfl) (fun w hs => ⟨rfl, (hs.dropN 0).weaken (Hp.le.refl _)⟩)
 replace hd := brF hb1 hd
 replace hb1 := of_decide_eq_false hb1
 refine Wp.skip <| At.then_n <| Wp.seq <| Wp.seq ?_
 obtain ⟨x1, hx1, hd⟩ := bnd_some hd
 have hx1_ := idx_bd hx1
 refine Wp.region <| Seg.op (OpT.move rfl) rfl <| Seg.op (OpT.move rfl) rfl ?_
 obtain ⟨_, ⟨_, _, rfl, rfl, ⟨v2, rfl, hv2⟩⟩, hc1⟩ := SlD.get hv1 hx1
 refine Seg.op (OpT.ixSl u22 ti43 rfl hv1.sl rfl (idx_bd hx1)) rfl <| Seg.op (OpT.fldE fl43_1 rfl hv1.sl (by omega)) rfl <| Seg.op (OpT.ldH u41 rfl rfl (hc1 1 _ rfl)) rfl ?_
 have hb2 := hv2.le
 refine Seg.op (OpT.len u41 rfl hv2.sl) rfl <| Seg.op (OpT.move rfl) rfl <| Seg.nilT <| Wp.block <| Wp.loopF (fun m LL HH OO => ∃ (k1 : Nat), [(2, (.int .u8 a2)), (15, v2), (16, (.int .i64 (x1.2.length:Int))), (17, (.int .i64 (k1:Int)))] = LL ∧ O = OO ∧ loopK m (r05_Step_b1 fu a2 x1) k1 = some r) fu ⟨0, rfl, rfl, hd⟩ (Sub.of rfl) ?_
 intro m1 L1 H1 O1 hl1 hI1
 obtain ⟨k1, rfl, rfl, hd⟩ := hI1
 replace hd := loopK_some hd; obtain ⟨m2, rfl, hd⟩ := hd
 obtain ⟨nx1, hn1⟩ : ∃ f, f = loopK m2 (r05_Step_b1 fu a2 x1) := ⟨_, rfl⟩
 rw [← hn1] at hd
 replace hd : r05_Step_b1 fu a2 x1 k1 nx1 = some r := hd
 unfold r05_Step_b1 at hd
 refine Wp.sr <| Seg.op (OpT.lss rfl rfl) rfl <| Seg.nilT <| Wp.seq ?_
 refine Wp.cond (b := decide ((k1:Int) < (x1.2.length:Int))) rfl (fun hb3 => ?_) (fun hb3 => ?_)
 ·
  replace hd := brT hb3 hd
  replace hb3 := of_decide_eq_true hb3
  refine Wp.skip <| At.then_n <| Wp.seq <| Wp.block <| Wp.seq ?_
  obtain ⟨x2, hx2, hd⟩ := bnd_some hd
  have hx2_ := idx_bd hx2
  refine Wp.region ?_
  obtain ⟨_, ⟨_, _, rfl, ⟨rfl, hr3, hr4⟩, ⟨_, _, rfl, ⟨rfl, hr5, hr6⟩, rfl⟩⟩, hc2⟩ := SlD.get (hv2.mono hl1) hx2
  refine Seg.op (OpT.ixSl u41 ti46 rfl (hv2.mono hl1).sl rfl (idx_bd hx2)) rfl <| Seg.op (OpT.ldHA (vs := [(.int .u8 x2.1), (.int .u8 x2.2.1), (.int .i64 x2.2.2)]) u46 rfl ti46 rfl rfl (fun j u hj => (hc2 j u hj))) rfl <| Seg.alloc (cs := #[(.int .u8 0), (.int .u8 0), (.int .i64 0)]) ti46 rfl rfl fun B2 => Seg.stBlkW (i := 0) (cs' := #[(.int .u8 x2.1), (.int .u8 x2.2.1), (.int .i64 x2.2.2)]) rfl rfl ti46 rfl rfl (onesA (ones_cons rfl (ones_cons rfl (ones_cons rfl (ones_nil))))) rfl ?_
  refine Seg.own (O := .blk B2 (.cells #[(.int .u8 x2.1), (.int .u8 x2.2.1), (.int .i64 x2.2.2)] 46 (0, 0)) :: O) ?_ rfl
  refine Seg.nilT <| Wp.seq ?_
  rcases Bool.eq_false_or_eq_true (decide (x2.1 ≤ a2)) with hg1 | hg1
  ·
   replace hd := brT hg1 hd
   have hg1_ := of_decide_eq_true hg1
   refine Wp.region <| Seg.op (OpT.fld (o' := 0) fl46_0 rfl rfl) rfl <| Seg.op (OpT.ldBlk (i := 0) (v := (.int .u8 x2.1)) u5 rfl rfl rfl rfl) rfl <| Seg.op (OpT.move rfl) rfl <| Seg.op (OpT.asB (b := decide (x2.1 ≤ a2)) (c := true) (OpT.leq rfl rfl) hg1) rfl <| Seg.op (OpT.move rfl) rfl <| Seg.opG rfl rfl (OpT.move rfl) rfl <| Seg.opG rfl rfl (OpT.fld (o' := 1) fl46_1 rfl rfl) rfl ?_
   refine Seg.opG rfl rfl (OpT.ldBlk (i := 0) (v := (.int .u8 x2.2.1)) u5 rfl rfl rfl rfl) rfl <| Seg.opG rfl rfl (OpT.leq rfl rfl) rfl <| Seg.op (OpT.pickT rfl rfl) rfl <| Seg.nilT ?_
   refine Wp.cond (b := decide (a2 ≤ x2.2.1)) rfl (fun hb4 => ?_) (fun hb4 => ?_)
   ·
    replace hd := brT hb4 hd
    replace hb4 := of_decide_eq_true hb4
    refine Wp.sr <| Seg.op (OpT.fld (o' := 2) fl46_2 rfl rfl) rfl <| Seg.op (OpT.ldBlk (i := 0) (v := (.int .i64 x2.2.2)) u3 rfl rfl rfl rfl) rfl <| Seg.op (OpT.assign rfl) rfl <| Seg.nilT <| Wp.ret <| At.blk_r <| At.then_r ?_
    refine At.then_r <| At.blk_r <| At.then_r ?_
    obtain rfl := Option.some.inj hd
    exact At.res1 rfl (RV.tmp (v := (.int .i64 x2.2.2)) rfl) (fun w hs => ⟨rfl, (hs.dropN 1).weaken hl1⟩)
   replace hd := brF hb4 hd
   replace hb4 := of_decide_eq_false hb4
   refine Wp.skip <| At.blk_n <| At.then_n <| Wp.region <| Seg.op (OpT.add rfl rfl (fits64 (by omega))) rfl <| Seg.op (OpT.move rfl) rfl <| Seg.nil <| At.permK [] 1 rfl rfl rfl ?_
   refine At.nextF (Hp.le.refl _) ⟨(k1 + 1), rfl, rfl, (by rw [← hn1]; exact hd)⟩ (Sub.of rfl)
  replace hd := brF hg1 hd
  have hg1_ := of_decide_eq_false hg1
  refine Wp.region <| Seg.op (OpT.fld (o' := 0) fl46_0 rfl rfl) rfl <| Seg.op (OpT.ldBlk (i := 0) (v := (.int .u8 x2.1)) u5 rfl rfl rfl rfl) rfl <| Seg.op (OpT.move rfl) rfl <| Seg.op (OpT.asB (b := decide (x2.1 ≤ a2)) (c := false) (OpT.leq rfl rfl) hg1) rfl <| Seg.op (OpT.move rfl) rfl <| Seg.skipG rfl rfl rfl rfl <| Seg.skipG rfl rfl rfl rfl ?_
  refine Seg.skipG rfl rfl rfl rfl <| Seg.skipG rfl rfl rfl rfl <| Seg.op (OpT.pickF rfl rfl) rfl <| Seg.nilT <| Wp.condF rfl <| Wp.skip <| At.blk_n <| At.then_n ?_
  refine Wp.region <| Seg.op (OpT.add rfl rfl (fits64 (by omega))) rfl <| Seg.op (OpT.move rfl) rfl <| Seg.nil <| At.permK [] 1 rfl rfl rfl ?_
  refine At.nextF (Hp.le.refl _) ⟨(k1 + 1), rfl, rfl, (by rw [← hn1]; exact hd)⟩ (Sub.of rfl)
 replace hd := brF hb3 hd
 replace hb3 := of_decide_eq_false hb3
 refine Wp.exit <| At.then_x <| At.then_x <| At.blk_hit <| At.then_n <| Wp.sr <| Seg.op (OpT.assign rfl) rfl <| Seg.nilT ?_
 refine Wp.ret ?_
 obtain rfl := Option.some.inj hd
 exact At.res1 rfl (RV.tmp (v := (.int .i64 (-1))) rfl) (fun w hs => ⟨rfl, (hs.dropN 0).weaken hl1⟩)
end Go.Proofs.YtjmbmodmepdmjaaGreatDoor
