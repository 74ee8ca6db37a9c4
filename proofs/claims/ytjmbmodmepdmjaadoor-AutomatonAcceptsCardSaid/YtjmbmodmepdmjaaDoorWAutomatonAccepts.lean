/- Walks, written by a program. -/
import Derived.Test.YtjmbmodmepdmjaaDoorW1c
namespace Go.Proofs.YtjmbmodmepdmjaaDoor
open Go.GK
variable {H : Hp} {O : List Res}

set_option maxRecDepth 100000 in
set_option maxHeartbeats 4000000 in
theorem r05_Wellformed_w {fu : Nat} {a0 : List (Bool × (List (Int × Int × Int)))} {v1 : Value} {r : Bool} (hv2 : SlD (cP cB (cL (cP cU8 (cP cU8 cI64)))) H a0 v1) (hd : r05_Wellformed fu a0 = some r) :
    TriV Tryd.prog 20 [v1] H O (.bool r) := by
 intro w hs
 refine wp_of Tryd.func20 rfl rfl rfl ?_ hs
 clear hs w
 unfold r05_Wellformed at hd
 refine Wp.sr <| Seg.op (OpT.assign rfl) rfl <| Seg.nilT <| Wp.seq <| Wp.sr <| Seg.op (OpT.move rfl) rfl ?_
 have hb3 := hv2.le
 refine Seg.op (OpT.len Tryd.underlying22 rfl hv2.sl) rfl <| Seg.op (OpT.move rfl) rfl <| Seg.nilT <| Wp.block <| Wp.sub (L' := [(0, v1), (7, v1), (8, (.int .i64 (a0.length:Int))), (9, (.int .i64 ((0 : Nat) : Int)))]) (.cons rfl (.cons rfl (.cons rfl (.cons (lk_int rfl (by omega)) (.nil))))) <| Wp.loopE (fun m LL HH OO => ∃ (k249 : Nat), [(0, v1), (7, v1), (8, (.int .i64 (a0.length:Int))), (9, (.int .i64 (k249:Int)))] = LL ∧ O = OO ∧ loopK m (r05_Wellformed_b1 fu a0) k249 = some r) fu ⟨0, rfl, rfl, hd⟩ ?_
 intro m251 L255 H253 O256 hl254 hI250
 obtain ⟨k249, rfl, rfl, hd⟩ := hI250
 replace hd := loopK_some hd; obtain ⟨m252, rfl, hd⟩ := hd
 obtain ⟨nx248, hn257⟩ : ∃ f, f = loopK m252 (r05_Wellformed_b1 fu a0) := ⟨_, rfl⟩
 rw [← hn257] at hd
 replace hd : r05_Wellformed_b1 fu a0 k249 nx248 = some r := hd
 unfold r05_Wellformed_b1 at hd
 refine Wp.sr <| Seg.op (OpT.lss rfl rfl) rfl <| Seg.nilT <| Wp.seq ?_
 refine Wp.cond (b := decide ((k249:Int) < (a0.length:Int))) rfl (fun hb258 => ?_) (fun hb258 => ?_)
 ·
  replace hd := brT hb258 hd
  replace hb258 := of_decide_eq_true hb258
  refine Wp.skip <| At.then_n <| Wp.seq <| Wp.block <| Wp.seq ?_
  obtain ⟨x259, hx260, hd⟩ := bnd_some hd
  have hx260_ := idx_bd hx260
  refine Wp.region ?_
  obtain ⟨_, ⟨_, _, rfl, rfl, ⟨v262, rfl, hv263⟩⟩, hc261⟩ := SlD.get (hv2.mono hl254) hx260
  refine Seg.op (OpT.ixSl Tryd.underlying22 ti40 rfl (hv2.mono hl254).sl rfl (idx_bd hx260)) rfl <| Seg.op (OpT.ldHA (vs := [(.bool x259.1), v262]) Tryd.underlying40 rfl ti40 rfl rfl (fun j u hj => (hc261 j u hj))) rfl <| Seg.alloc (cs := #[(.bool false), (.slice none 0 0)]) ti40 rfl rfl fun B264 => Seg.stBlkW (i := 0) (cs' := #[(.bool x259.1), v262]) rfl rfl ti40 rfl rfl (onesA (ones_cons rfl (ones_cons hv263.one (ones_nil)))) rfl ?_
  refine Seg.own (O := .blk B264 (.cells #[(.bool x259.1), v262] 40 (0, 0)) :: O) ?_ rfl
  refine Seg.nilT <| Wp.sr <| Seg.op (OpT.fld (o' := 1) fl40_1 rfl rfl) rfl <| Seg.op (OpT.ldBlk (i := 0) (v := v262) Tryd.underlying38 rfl rfl rfl rfl) rfl ?_
  have hb266 := hv263.le
  refine Seg.op (OpT.len Tryd.underlying38 rfl hv263.sl) rfl <| Seg.op (OpT.move rfl) rfl <| Seg.nilT <| Wp.block <| Wp.sub (L' := [(0, v1), (4, (ptr B264 0)), (7, v1), (8, (.int .i64 (a0.length:Int))), (9, (.int .i64 (k249:Int))), (14, v262), (15, (.int .i64 (x259.2.length:Int))), (16, (.int .i64 ((0 : Nat) : Int)))]) (.cons rfl (.cons rfl (.cons rfl (.cons rfl (.cons rfl (.cons rfl (.cons rfl (.cons (lk_int rfl (by omega)) (.nil))))))))) <| Wp.loopE (fun m LL HH OO => ∃ (k343 : Nat), [(0, v1), (4, (ptr B264 0)), (7, v1), (8, (.int .i64 (a0.length:Int))), (9, (.int .i64 (k249:Int))), (14, v262), (15, (.int .i64 (x259.2.length:Int))), (16, (.int .i64 (k343:Int)))] = LL ∧ .blk B264 (.cells #[(.bool x259.1), v262] 40 (0, 0)) :: O = OO ∧ loopK m (r05_Wellformed_b2 fu a0 k249 nx248 x259) k343 = some r) fu ⟨0, rfl, rfl, hd⟩ ?_
  intro m345 L349 H347 O350 hl348 hI344
  obtain ⟨k343, rfl, rfl, hd⟩ := hI344
  replace hd := loopK_some hd; obtain ⟨m346, rfl, hd⟩ := hd
  obtain ⟨nx342, hn351⟩ : ∃ f, f = loopK m346 (r05_Wellformed_b2 fu a0 k249 nx248 x259) := ⟨_, rfl⟩
  rw [← hn351] at hd
  replace hd : r05_Wellformed_b2 fu a0 k249 nx248 x259 k343 nx342 = some r := hd
  unfold r05_Wellformed_b2 at hd
  refine Wp.sr <| Seg.op (OpT.lss rfl rfl) rfl <| Seg.nilT <| Wp.seq ?_
  refine Wp.cond (b := decide ((k343:Int) < (x259.2.length:Int))) rfl (fun hb352 => ?_) (fun hb352 => ?_)
  ·
   replace hd := brT hb352 hd
   replace hb352 := of_decide_eq_true hb352
   refine Wp.skip <| At.then_n <| Wp.seq <| Wp.block <| Wp.seq ?_
   obtain ⟨x353, hx354, hd⟩ := bnd_some hd
   have hx354_ := idx_bd hx354
   refine Wp.region <| Seg.op (OpT.move rfl) rfl ?_
   obtain ⟨_, ⟨_, _, rfl, ⟨rfl, hr356, hr357⟩, ⟨_, _, rfl, ⟨rfl, hr358, hr359⟩, rfl⟩⟩, hc355⟩ := SlD.get (hv263.mono hl348) hx354
   refine Seg.op (OpT.ixSl Tryd.underlying38 ti50 rfl (hv263.mono hl348).sl rfl (idx_bd hx354)) rfl <| Seg.op (OpT.ldHA (vs := [(.int .u8 x353.1), (.int .u8 x353.2.1), (.int .i64 x353.2.2)]) Tryd.underlying50 rfl ti50 rfl rfl (fun j u hj => (hc355 j u hj))) rfl <| Seg.alloc (cs := #[(.int .u8 0), (.int .u8 0), (.int .i64 0)]) ti50 rfl rfl fun B360 => Seg.op (OpT.assign rfl) rfl <| Seg.stBlkW (i := 0) (cs' := #[(.int .u8 x353.1), (.int .u8 x353.2.1), (.int .i64 x353.2.2)]) rfl rfl ti50 rfl rfl (onesA (ones_cons rfl (ones_cons rfl (ones_cons rfl (ones_nil))))) rfl ?_
   refine Seg.own (O := .blk B360 (.cells #[(.int .u8 x353.1), (.int .u8 x353.2.1), (.int .i64 x353.2.2)] 50 (0, 0)) :: .blk B264 (.cells #[(.bool x259.1), v262] 40 (0, 0)) :: O) ?_ rfl
   refine Seg.nilT <| Wp.seq ?_
   rcases Bool.eq_false_or_eq_true (decide (x353.2.1 < x353.1)) with hg374 | hg374
   ·
    replace hd := brT hg374 hd
    have hg374_ := of_decide_eq_true hg374
    refine Wp.drawE 33 follows rfl (by kernel_rfl) <| SegL.opE (OpT.fld (o' := 0) fl50_0 rfl rfl) rfl <| SegL.opE (OpT.ldBlk (i := 0) (v := (.int .u8 x353.1)) Tryd.underlying5 rfl rfl rfl rfl) rfl <| SegL.opE (OpT.fld (o' := 1) fl50_1 rfl rfl) rfl <| SegL.opE (OpT.ldBlk (i := 0) (v := (.int .u8 x353.2.1)) Tryd.underlying5 rfl rfl rfl rfl) rfl <| SegL.opE (OpT.asB (b := decide (x353.2.1 < x353.1)) (c := true) (OpT.gtr rfl rfl) hg374) rfl <| SegL.opE (OpT.move rfl) rfl <| SegL.skipGE rfl rfl rfl rfl ?_
    refine SegL.skipGE rfl rfl rfl rfl <| SegL.skipGE rfl rfl rfl rfl <| SegL.opE (OpT.pickT rfl rfl) rfl <| SegL.opE (OpT.move rfl) rfl <| SegL.skipGE rfl rfl rfl rfl <| SegL.skipGE rfl rfl rfl rfl <| SegL.skipGE rfl rfl rfl rfl <| SegL.skipGE rfl rfl rfl rfl ?_
    refine SegL.skipGE rfl rfl rfl rfl <| SegL.opE (OpT.pickT rfl rfl) rfl <| SegL.opE (OpT.move rfl) rfl <| SegL.skipGE rfl rfl rfl rfl <| SegL.skipGE rfl rfl rfl rfl <| SegL.skipGE rfl rfl rfl rfl <| SegL.skipUE rfl rfl rfl <| SegL.skipUE rfl rfl rfl ?_
    refine SegL.skipUE rfl rfl rfl <| SegL.skipUE rfl rfl rfl <| SegL.skipUE rfl rfl rfl <| SegL.skipUE rfl rfl rfl <| SegL.skipUE rfl rfl rfl <| SegL.skipUE rfl rfl rfl <| SegL.skipUE rfl rfl rfl <| SegL.skipUE rfl rfl rfl ?_
    refine SegL.skipGE rfl rfl rfl rfl <| SegL.opE (OpT.pickT rfl rfl) rfl <| SegL.doneE <| EndL.is (t := 0) rfl <| EndL.is (t := 4) rfl <| EndL.is (t := 7) rfl <| EndL.is (t := 8) rfl <| EndL.is (t := 9) rfl ?_
    refine EndL.is (t := 14) rfl <| EndL.is (t := 15) rfl <| EndL.is (t := 16) rfl <| EndL.is (t := 53) rfl <| EndL.seg <| Seg.nilT <| Wp.condT rfl <| Wp.sr ?_
    refine Seg.op (OpT.assign rfl) rfl <| Seg.nilT <| Wp.ret <| At.blk_r <| At.then_r <| At.then_r <| At.blk_r <| At.blk_r ?_
    refine At.then_r <| At.then_r <| At.blk_r <| At.then_r ?_
    obtain rfl := Option.some.inj hd
    exact At.res1 rfl (RV.tmp (v := (.bool false)) rfl) (fun w hs => ⟨rfl, (hs.dropN 2).weaken (hl254.trans hl348)⟩)
   replace hd := brF hg374 hd
   have hg374_ := of_decide_eq_false hg374
   rcases Bool.eq_false_or_eq_true (decide (x353.2.2 < 0)) with hg375 | hg375
   ·
    replace hd := brT hg375 hd
    have hg375_ := of_decide_eq_true hg375
    refine Wp.drawE 33 follows rfl (by kernel_rfl) <| SegL.opE (OpT.fld (o' := 0) fl50_0 rfl rfl) rfl <| SegL.opE (OpT.ldBlk (i := 0) (v := (.int .u8 x353.1)) Tryd.underlying5 rfl rfl rfl rfl) rfl <| SegL.opE (OpT.fld (o' := 1) fl50_1 rfl rfl) rfl <| SegL.opE (OpT.ldBlk (i := 0) (v := (.int .u8 x353.2.1)) Tryd.underlying5 rfl rfl rfl rfl) rfl <| SegL.opE (OpT.asB (b := decide (x353.2.1 < x353.1)) (c := false) (OpT.gtr rfl rfl) hg374) rfl <| SegL.opE (OpT.move rfl) rfl <| SegL.opGE rfl rfl (OpT.fld (o' := 2) fl50_2 rfl rfl) rfl ?_
    refine SegL.opGE rfl rfl (OpT.ldBlk (i := 0) (v := (.int .i64 x353.2.2)) Tryd.underlying3 rfl rfl rfl rfl) rfl <| SegL.opGE rfl rfl (OpT.asB (b := decide (x353.2.2 < 0)) (c := true) (OpT.lss rfl rfl) hg375) rfl <| SegL.opE (OpT.pickF rfl rfl) rfl <| SegL.opE (OpT.move rfl) rfl <| SegL.skipGE rfl rfl rfl rfl <| SegL.skipGE rfl rfl rfl rfl <| SegL.skipGE rfl rfl rfl rfl <| SegL.skipGE rfl rfl rfl rfl ?_
    refine SegL.skipGE rfl rfl rfl rfl <| SegL.opE (OpT.pickT rfl rfl) rfl <| SegL.opE (OpT.move rfl) rfl <| SegL.skipGE rfl rfl rfl rfl <| SegL.skipGE rfl rfl rfl rfl <| SegL.skipGE rfl rfl rfl rfl <| SegL.skipUE rfl rfl rfl <| SegL.skipUE rfl rfl rfl ?_
    refine SegL.skipUE rfl rfl rfl <| SegL.skipUE rfl rfl rfl <| SegL.skipUE rfl rfl rfl <| SegL.skipUE rfl rfl rfl <| SegL.skipUE rfl rfl rfl <| SegL.skipUE rfl rfl rfl <| SegL.skipUE rfl rfl rfl <| SegL.skipUE rfl rfl rfl ?_
    refine SegL.skipGE rfl rfl rfl rfl <| SegL.opE (OpT.pickT rfl rfl) rfl <| SegL.doneE <| EndL.is (t := 0) rfl <| EndL.is (t := 4) rfl <| EndL.is (t := 7) rfl <| EndL.is (t := 8) rfl <| EndL.is (t := 9) rfl ?_
    refine EndL.is (t := 14) rfl <| EndL.is (t := 15) rfl <| EndL.is (t := 16) rfl <| EndL.is (t := 53) rfl <| EndL.seg <| Seg.nilT <| Wp.condT rfl <| Wp.sr ?_
    refine Seg.op (OpT.assign rfl) rfl <| Seg.nilT <| Wp.ret <| At.blk_r <| At.then_r <| At.then_r <| At.blk_r <| At.blk_r ?_
    refine At.then_r <| At.then_r <| At.blk_r <| At.then_r ?_
    obtain rfl := Option.some.inj hd
    exact At.res1 rfl (RV.tmp (v := (.bool false)) rfl) (fun w hs => ⟨rfl, (hs.dropN 2).weaken (hl254.trans hl348)⟩)
   replace hd := brF hg375 hd
   have hg375_ := of_decide_eq_false hg375
   rcases Bool.eq_false_or_eq_true (decide ((a0.length:Int) ≤ x353.2.2)) with hg377 | hg377
   ·
    replace hd := brT hg377 hd
    have hg377_ := of_decide_eq_true hg377
    have hb376 := hv2.le
    refine Wp.drawE 33 follows rfl (by kernel_rfl) <| SegL.opE (OpT.fld (o' := 0) fl50_0 rfl rfl) rfl <| SegL.opE (OpT.ldBlk (i := 0) (v := (.int .u8 x353.1)) Tryd.underlying5 rfl rfl rfl rfl) rfl <| SegL.opE (OpT.fld (o' := 1) fl50_1 rfl rfl) rfl <| SegL.opE (OpT.ldBlk (i := 0) (v := (.int .u8 x353.2.1)) Tryd.underlying5 rfl rfl rfl rfl) rfl <| SegL.opE (OpT.asB (b := decide (x353.2.1 < x353.1)) (c := false) (OpT.gtr rfl rfl) hg374) rfl <| SegL.opE (OpT.move rfl) rfl <| SegL.opGE rfl rfl (OpT.fld (o' := 2) fl50_2 rfl rfl) rfl ?_
    refine SegL.opGE rfl rfl (OpT.ldBlk (i := 0) (v := (.int .i64 x353.2.2)) Tryd.underlying3 rfl rfl rfl rfl) rfl <| SegL.opGE rfl rfl (OpT.asB (b := decide (x353.2.2 < 0)) (c := false) (OpT.lss rfl rfl) hg375) rfl <| SegL.opE (OpT.pickF rfl rfl) rfl <| SegL.opE (OpT.move rfl) rfl <| SegL.opGE rfl rfl (OpT.fld (o' := 2) fl50_2 rfl rfl) rfl <| SegL.opGE rfl rfl (OpT.ldBlk (i := 0) (v := (.int .i64 x353.2.2)) Tryd.underlying3 rfl rfl rfl rfl) rfl <| SegL.opGE rfl rfl (OpT.move rfl) rfl <| SegL.opGE rfl rfl (OpT.len Tryd.underlying22 rfl (hv2.mono (hl254.trans hl348)).sl) rfl ?_
    refine SegL.opGE rfl rfl (OpT.asB (b := decide ((a0.length:Int) ≤ x353.2.2)) (c := true) (OpT.geq rfl rfl) hg377) rfl <| SegL.opE (OpT.pickF rfl rfl) rfl <| SegL.opE (OpT.move rfl) rfl <| SegL.skipGE rfl rfl rfl rfl <| SegL.skipGE rfl rfl rfl rfl <| SegL.skipGE rfl rfl rfl rfl <| SegL.skipUE rfl rfl rfl <| SegL.skipUE rfl rfl rfl ?_
    refine SegL.skipUE rfl rfl rfl <| SegL.skipUE rfl rfl rfl <| SegL.skipUE rfl rfl rfl <| SegL.skipUE rfl rfl rfl <| SegL.skipUE rfl rfl rfl <| SegL.skipUE rfl rfl rfl <| SegL.skipUE rfl rfl rfl <| SegL.skipUE rfl rfl rfl ?_
    refine SegL.skipGE rfl rfl rfl rfl <| SegL.opE (OpT.pickT rfl rfl) rfl <| SegL.doneE <| EndL.is (t := 0) rfl <| EndL.is (t := 4) rfl <| EndL.is (t := 7) rfl <| EndL.is (t := 8) rfl <| EndL.is (t := 9) rfl ?_
    refine EndL.is (t := 14) rfl <| EndL.is (t := 15) rfl <| EndL.is (t := 16) rfl <| EndL.is (t := 53) rfl <| EndL.seg <| Seg.nilT <| Wp.condT rfl <| Wp.sr ?_
    refine Seg.op (OpT.assign rfl) rfl <| Seg.nilT <| Wp.ret <| At.blk_r <| At.then_r <| At.then_r <| At.blk_r <| At.blk_r ?_
    refine At.then_r <| At.then_r <| At.blk_r <| At.then_r ?_
    obtain rfl := Option.some.inj hd
    exact At.res1 rfl (RV.tmp (v := (.bool false)) rfl) (fun w hs => ⟨rfl, (hs.dropN 2).weaken (hl254.trans hl348)⟩)
   replace hd := brF hg377 hd
   have hg377_ := of_decide_eq_false hg377
   rcases Bool.eq_false_or_eq_true (decide (0 < (k343:Int))) with hg378 | hg378
   ·
    replace hd := brT hg378 hd
    have hg378_ := of_decide_eq_true hg378
    replace hd := chk_some hd; obtain ⟨ha379, hd⟩ := hd
    obtain ⟨x380, hx381, hd⟩ := bnd_some hd
    have hx381_ := idx_bd hx381
    have hb376 := hv2.le
    obtain ⟨_, ⟨_, _, rfl, ⟨rfl, hr383, hr384⟩, ⟨_, _, rfl, ⟨rfl, hr385, hr386⟩, rfl⟩⟩, hc382⟩ := SlD.get (hv263.mono hl348) hx381
    refine Wp.drawE 33 follows rfl (by kernel_rfl) <| SegL.opE (OpT.fld (o' := 0) fl50_0 rfl rfl) rfl <| SegL.opE (OpT.ldBlk (i := 0) (v := (.int .u8 x353.1)) Tryd.underlying5 rfl rfl rfl rfl) rfl <| SegL.opE (OpT.fld (o' := 1) fl50_1 rfl rfl) rfl <| SegL.opE (OpT.ldBlk (i := 0) (v := (.int .u8 x353.2.1)) Tryd.underlying5 rfl rfl rfl rfl) rfl <| SegL.opE (OpT.asB (b := decide (x353.2.1 < x353.1)) (c := false) (OpT.gtr rfl rfl) hg374) rfl <| SegL.opE (OpT.move rfl) rfl <| SegL.opGE rfl rfl (OpT.fld (o' := 2) fl50_2 rfl rfl) rfl ?_
    refine SegL.opGE rfl rfl (OpT.ldBlk (i := 0) (v := (.int .i64 x353.2.2)) Tryd.underlying3 rfl rfl rfl rfl) rfl <| SegL.opGE rfl rfl (OpT.asB (b := decide (x353.2.2 < 0)) (c := false) (OpT.lss rfl rfl) hg375) rfl <| SegL.opE (OpT.pickF rfl rfl) rfl <| SegL.opE (OpT.move rfl) rfl <| SegL.opGE rfl rfl (OpT.fld (o' := 2) fl50_2 rfl rfl) rfl <| SegL.opGE rfl rfl (OpT.ldBlk (i := 0) (v := (.int .i64 x353.2.2)) Tryd.underlying3 rfl rfl rfl rfl) rfl <| SegL.opGE rfl rfl (OpT.move rfl) rfl <| SegL.opGE rfl rfl (OpT.len Tryd.underlying22 rfl (hv2.mono (hl254.trans hl348)).sl) rfl ?_
    refine SegL.opGE rfl rfl (OpT.asB (b := decide ((a0.length:Int) ≤ x353.2.2)) (c := false) (OpT.geq rfl rfl) hg377) rfl <| SegL.opE (OpT.pickF rfl rfl) rfl <| SegL.opE (OpT.move rfl) rfl <| SegL.opGE rfl rfl (OpT.move rfl) rfl <| SegL.opGE rfl rfl (OpT.asB (b := decide (0 < (k343:Int))) (c := true) (OpT.gtr rfl rfl) hg378) rfl <| SegL.opGE rfl rfl (OpT.move rfl) rfl <| SegL.opGE rfl rfl (OpT.fld (o' := 1) fl40_1 rfl rfl) rfl <| SegL.opGE rfl rfl (OpT.ldBlk (i := 1) (v := v262) Tryd.underlying38 rfl rfl rfl rfl) rfl ?_
    refine SegL.opGE rfl rfl (OpT.move rfl) rfl <| SegL.opGE rfl rfl (OpT.sub rfl rfl (fits64 ha379)) rfl <| SegL.opGE rfl rfl (OpT.ixSl Tryd.underlying38 ti50 rfl (hv263.mono hl348).sl rfl (idx_bd hx381)) rfl <| SegL.opGE rfl rfl (OpT.fldE fl50_1 rfl (hv263.mono hl348).sl (by omega)) rfl <| SegL.opGE rfl rfl (OpT.ldH Tryd.underlying5 rfl rfl (hc382 1 _ rfl)) rfl <| SegL.opGE rfl rfl (OpT.fld (o' := 0) fl50_0 rfl rfl) rfl <| SegL.opGE rfl rfl (OpT.ldBlk (i := 0) (v := (.int .u8 x353.1)) Tryd.underlying5 rfl rfl rfl rfl) rfl <| SegL.opGE rfl rfl (OpT.geq rfl rfl) rfl ?_
    refine SegL.opGE rfl rfl (OpT.pickT rfl rfl) rfl <| SegL.opE (OpT.pickF rfl rfl) rfl <| SegL.doneE <| EndL.is (t := 0) rfl <| EndL.is (t := 4) rfl <| EndL.is (t := 7) rfl <| EndL.is (t := 8) rfl <| EndL.is (t := 9) rfl ?_
    refine EndL.is (t := 14) rfl <| EndL.is (t := 15) rfl <| EndL.is (t := 16) rfl <| EndL.is (t := 53) rfl <| EndL.seg <| Seg.nilT ?_
    refine Wp.cond (b := decide (x353.1 ≤ x380.2.1)) rfl (fun hb387 => ?_) (fun hb387 => ?_)
    ·
     replace hd := brT hb387 hd
     replace hb387 := of_decide_eq_true hb387
     refine Wp.sr <| Seg.op (OpT.assign rfl) rfl <| Seg.nilT <| Wp.ret <| At.blk_r <| At.then_r <| At.then_r <| At.blk_r ?_
     refine At.blk_r <| At.then_r <| At.then_r <| At.blk_r <| At.then_r ?_
     obtain rfl := Option.some.inj hd
     exact At.res1 rfl (RV.tmp (v := (.bool false)) rfl) (fun w hs => ⟨rfl, (hs.dropN 2).weaken (hl254.trans hl348)⟩)
    replace hd := brF hb387 hd
    replace hb387 := of_decide_eq_false hb387
    refine Wp.skip <| At.blk_n <| At.then_n <| Wp.region <| Seg.op (OpT.add rfl rfl (fits64 (by omega))) rfl <| Seg.op (OpT.move rfl) rfl <| Seg.nil <| At.permK [1] 2 rfl rfl rfl ?_
    refine At.nextE (L' := [(0, v1), (4, (ptr B264 0)), (7, v1), (8, (.int .i64 (a0.length:Int))), (9, (.int .i64 (k249:Int))), (14, v262), (15, (.int .i64 (x259.2.length:Int))), (16, (.int .i64 ((k343 + 1 : Nat) : Int)))]) m346 (Nat.lt_succ_self _) (Hp.le.refl _) (.cons rfl (.cons rfl (.cons rfl (.cons rfl (.cons rfl (.cons rfl (.cons rfl (.cons (lk_int rfl (by omega)) (.nil))))))))) ⟨(k343 + 1), rfl, rfl, (by rw [← hn351]; exact hd)⟩
   replace hd := brF hg378 hd
   have hg378_ := of_decide_eq_false hg378
   have hb376 := hv2.le
   refine Wp.drawE 33 follows rfl (by kernel_rfl) <| SegL.opE (OpT.fld (o' := 0) fl50_0 rfl rfl) rfl <| SegL.opE (OpT.ldBlk (i := 0) (v := (.int .u8 x353.1)) Tryd.underlying5 rfl rfl rfl rfl) rfl <| SegL.opE (OpT.fld (o' := 1) fl50_1 rfl rfl) rfl <| SegL.opE (OpT.ldBlk (i := 0) (v := (.int .u8 x353.2.1)) Tryd.underlying5 rfl rfl rfl rfl) rfl <| SegL.opE (OpT.asB (b := decide (x353.2.1 < x353.1)) (c := false) (OpT.gtr rfl rfl) hg374) rfl <| SegL.opE (OpT.move rfl) rfl <| SegL.opGE rfl rfl (OpT.fld (o' := 2) fl50_2 rfl rfl) rfl ?_
   refine SegL.opGE rfl rfl (OpT.ldBlk (i := 0) (v := (.int .i64 x353.2.2)) Tryd.underlying3 rfl rfl rfl rfl) rfl <| SegL.opGE rfl rfl (OpT.asB (b := decide (x353.2.2 < 0)) (c := false) (OpT.lss rfl rfl) hg375) rfl <| SegL.opE (OpT.pickF rfl rfl) rfl <| SegL.opE (OpT.move rfl) rfl <| SegL.opGE rfl rfl (OpT.fld (o' := 2) fl50_2 rfl rfl) rfl <| SegL.opGE rfl rfl (OpT.ldBlk (i := 0) (v := (.int .i64 x353.2.2)) Tryd.underlying3 rfl rfl rfl rfl) rfl <| SegL.opGE rfl rfl (OpT.move rfl) rfl <| SegL.opGE rfl rfl (OpT.len Tryd.underlying22 rfl (hv2.mono (hl254.trans hl348)).sl) rfl ?_
   refine SegL.opGE rfl rfl (OpT.asB (b := decide ((a0.length:Int) ≤ x353.2.2)) (c := false) (OpT.geq rfl rfl) hg377) rfl <| SegL.opE (OpT.pickF rfl rfl) rfl <| SegL.opE (OpT.move rfl) rfl <| SegL.opGE rfl rfl (OpT.move rfl) rfl <| SegL.opGE rfl rfl (OpT.asB (b := decide (0 < (k343:Int))) (c := false) (OpT.gtr rfl rfl) hg378) rfl <| SegL.opGE rfl rfl (OpT.move rfl) rfl <| SegL.skipGE rfl rfl rfl rfl <| SegL.skipGE rfl rfl rfl rfl ?_
   refine SegL.skipGE rfl rfl rfl rfl <| SegL.skipGE rfl rfl rfl rfl <| SegL.skipGE rfl rfl rfl rfl <| SegL.skipGE rfl rfl rfl rfl <| SegL.skipGE rfl rfl rfl rfl <| SegL.skipGE rfl rfl rfl rfl <| SegL.skipGE rfl rfl rfl rfl <| SegL.skipGE rfl rfl rfl rfl ?_
   refine SegL.opGE rfl rfl (OpT.pickF rfl rfl) rfl <| SegL.opE (OpT.pickF rfl rfl) rfl <| SegL.doneE <| EndL.is (t := 0) rfl <| EndL.is (t := 4) rfl <| EndL.is (t := 7) rfl <| EndL.is (t := 8) rfl <| EndL.is (t := 9) rfl ?_
   refine EndL.is (t := 14) rfl <| EndL.is (t := 15) rfl <| EndL.is (t := 16) rfl <| EndL.is (t := 53) rfl <| EndL.seg <| Seg.nilT <| Wp.condF rfl <| Wp.skip ?_
   refine At.blk_n <| At.then_n <| Wp.region <| Seg.op (OpT.add rfl rfl (fits64 (by omega))) rfl <| Seg.op (OpT.move rfl) rfl <| Seg.nil <| At.permK [1] 2 rfl rfl rfl ?_
   refine At.nextE (L' := [(0, v1), (4, (ptr B264 0)), (7, v1), (8, (.int .i64 (a0.length:Int))), (9, (.int .i64 (k249:Int))), (14, v262), (15, (.int .i64 (x259.2.length:Int))), (16, (.int .i64 ((k343 + 1 : Nat) : Int)))]) m346 (Nat.lt_succ_self _) (Hp.le.refl _) (.cons rfl (.cons rfl (.cons rfl (.cons rfl (.cons rfl (.cons rfl (.cons rfl (.cons (lk_int rfl (by omega)) (.nil))))))))) ⟨(k343 + 1), rfl, rfl, (by rw [← hn351]; exact hd)⟩
  replace hd := brF hb352 hd
  replace hb352 := of_decide_eq_false hb352
  refine Wp.exit <| At.then_x <| At.then_x <| At.blk_hit <| At.blk_n <| At.then_n <| Wp.region <| Seg.op (OpT.add rfl rfl (fits64 (by omega))) rfl ?_
  refine Seg.op (OpT.move rfl) rfl <| Seg.nil <| At.permK [] 1 rfl rfl rfl ?_
  refine At.nextE (L' := [(0, v1), (7, v1), (8, (.int .i64 (a0.length:Int))), (9, (.int .i64 ((k249 + 1 : Nat) : Int)))]) m252 (Nat.lt_succ_self _) hl348 (.cons rfl (.cons rfl (.cons rfl (.cons (lk_int rfl (by omega)) (.nil))))) ⟨(k249 + 1), rfl, rfl, (by rw [← hn257]; exact hd)⟩
 replace hd := brF hb258 hd
 replace hb258 := of_decide_eq_false hb258
 refine Wp.exit <| At.then_x <| At.then_x <| At.blk_hit <| At.then_n <| Wp.sr <| Seg.op (OpT.assign rfl) rfl <| Seg.nilT ?_
 refine Wp.ret ?_
 obtain rfl := Option.some.inj hd
 exact At.res1 rfl (RV.tmp (v := (.bool true)) rfl) (fun w hs => ⟨rfl, (hs.dropN 0).weaken hl254⟩)

set_option maxRecDepth 100000 in
set_option maxHeartbeats 4000000 in
theorem r05_Step_w {fu : Nat} {a0 : List (Bool × (List (Int × Int × Int)))} {a1 : Int} {a2 : Int} {v1 : Value} {r : Int} (hv2 : SlD (cP cB (cL (cP cU8 (cP cU8 cI64)))) H a0 v1) (hr3 : 0 ≤ a2) (hr4 : a2 ≤ 255) (hd : r05_Step fu a0 a1 a2 = some r) :
    TriV Tryd.prog 21 [v1, (.int .i64 a1), (.int .u8 a2)] H O (.int .i64 r) := by
 intro w hs
 refine wp_of Tryd.func21 rfl rfl rfl ?_ hs
 clear hs w
 unfold r05_Step at hd
 refine Wp.sr <| Seg.op (OpT.assign rfl) rfl <| Seg.nilT <| Wp.seq <| Wp.sr <| Seg.op (OpT.move rfl) rfl <| Seg.op (OpT.lss rfl rfl) rfl <| Seg.nilT ?_
 refine Wp.cond (b := decide (a1 < 0)) rfl (fun hb5 => ?_) (fun hb5 => ?_)
 ·
  replace hd := brT hb5 hd
  replace hb5 := of_decide_eq_true hb5
  refine Wp.sr <| Seg.op (OpT.assign rfl) rfl <| Seg.nilT <| Wp.ret <| At.then_r ?_
  obtain rfl := Option.some.inj hd
  exact At.res1 rfl (RV.tmp (v := (.int .i64 (-1))) rfl) (fun w hs => ⟨rfl, (hs.dropN 0).weaken (Hp.le.refl _)⟩)
 replace hd := brF hb5 hd
 replace hb5 := of_decide_eq_false hb5
 refine Wp.skip <| At.then_n <| Wp.seq <| Wp.seq ?_
 obtain ⟨x6, hx7, hd⟩ := bnd_some hd
 have hx7_ := idx_bd hx7
 refine Wp.region <| Seg.op (OpT.move rfl) rfl <| Seg.op (OpT.move rfl) rfl ?_
 obtain ⟨_, ⟨_, _, rfl, rfl, ⟨v9, rfl, hv10⟩⟩, hc8⟩ := SlD.get hv2 hx7
 refine Seg.op (OpT.ixSl Tryd.underlying22 ti40 rfl hv2.sl rfl (idx_bd hx7)) rfl <| Seg.op (OpT.fldE fl40_1 rfl hv2.sl (by omega)) rfl <| Seg.op (OpT.ldH Tryd.underlying38 rfl rfl (hc8 1 _ rfl)) rfl ?_
 have hb11 := hv10.le
 refine Seg.op (OpT.len Tryd.underlying38 rfl hv10.sl) rfl <| Seg.op (OpT.move rfl) rfl <| Seg.nilT <| Wp.block <| Wp.sub (L' := [(2, (.int .u8 a2)), (15, v9), (16, (.int .i64 (x6.2.length:Int))), (17, (.int .i64 ((0 : Nat) : Int)))]) (.cons rfl (.cons rfl (.cons rfl (.cons (lk_int rfl (by omega)) (.nil))))) <| Wp.loopE (fun m LL HH OO => ∃ (k38 : Nat), [(2, (.int .u8 a2)), (15, v9), (16, (.int .i64 (x6.2.length:Int))), (17, (.int .i64 (k38:Int)))] = LL ∧ O = OO ∧ loopK m (r05_Step_b1 fu a2 x6) k38 = some r) fu ⟨0, rfl, rfl, hd⟩ ?_
 intro m40 L44 H42 O45 hl43 hI39
 obtain ⟨k38, rfl, rfl, hd⟩ := hI39
 replace hd := loopK_some hd; obtain ⟨m41, rfl, hd⟩ := hd
 obtain ⟨nx37, hn46⟩ : ∃ f, f = loopK m41 (r05_Step_b1 fu a2 x6) := ⟨_, rfl⟩
 rw [← hn46] at hd
 replace hd : r05_Step_b1 fu a2 x6 k38 nx37 = some r := hd
 unfold r05_Step_b1 at hd
 refine Wp.sr <| Seg.op (OpT.lss rfl rfl) rfl <| Seg.nilT <| Wp.seq ?_
 refine Wp.cond (b := decide ((k38:Int) < (x6.2.length:Int))) rfl (fun hb47 => ?_) (fun hb47 => ?_)
 ·
  replace hd := brT hb47 hd
  replace hb47 := of_decide_eq_true hb47
  refine Wp.skip <| At.then_n <| Wp.seq <| Wp.block <| Wp.seq ?_
  obtain ⟨x48, hx49, hd⟩ := bnd_some hd
  have hx49_ := idx_bd hx49
  refine Wp.region ?_
  obtain ⟨_, ⟨_, _, rfl, ⟨rfl, hr51, hr52⟩, ⟨_, _, rfl, ⟨rfl, hr53, hr54⟩, rfl⟩⟩, hc50⟩ := SlD.get (hv10.mono hl43) hx49
  refine Seg.op (OpT.ixSl Tryd.underlying38 ti50 rfl (hv10.mono hl43).sl rfl (idx_bd hx49)) rfl <| Seg.op (OpT.ldHA (vs := [(.int .u8 x48.1), (.int .u8 x48.2.1), (.int .i64 x48.2.2)]) Tryd.underlying50 rfl ti50 rfl rfl (fun j u hj => (hc50 j u hj))) rfl <| Seg.alloc (cs := #[(.int .u8 0), (.int .u8 0), (.int .i64 0)]) ti50 rfl rfl fun B55 => Seg.stBlkW (i := 0) (cs' := #[(.int .u8 x48.1), (.int .u8 x48.2.1), (.int .i64 x48.2.2)]) rfl rfl ti50 rfl rfl (onesA (ones_cons rfl (ones_cons rfl (ones_cons rfl (ones_nil))))) rfl ?_
  refine Seg.own (O := .blk B55 (.cells #[(.int .u8 x48.1), (.int .u8 x48.2.1), (.int .i64 x48.2.2)] 50 (0, 0)) :: O) ?_ rfl
  refine Seg.nilT <| Wp.seq ?_
  rcases Bool.eq_false_or_eq_true (decide (x48.1 ≤ a2)) with hg56 | hg56
  ·
   replace hd := brT hg56 hd
   have hg56_ := of_decide_eq_true hg56
   refine Wp.region <| Seg.op (OpT.fld (o' := 0) fl50_0 rfl rfl) rfl <| Seg.op (OpT.ldBlk (i := 0) (v := (.int .u8 x48.1)) Tryd.underlying5 rfl rfl rfl rfl) rfl <| Seg.op (OpT.move rfl) rfl <| Seg.op (OpT.asB (b := decide (x48.1 ≤ a2)) (c := true) (OpT.leq rfl rfl) hg56) rfl <| Seg.op (OpT.move rfl) rfl <| Seg.opG rfl rfl (OpT.move rfl) rfl <| Seg.opG rfl rfl (OpT.fld (o' := 1) fl50_1 rfl rfl) rfl ?_
   refine Seg.opG rfl rfl (OpT.ldBlk (i := 0) (v := (.int .u8 x48.2.1)) Tryd.underlying5 rfl rfl rfl rfl) rfl <| Seg.opG rfl rfl (OpT.leq rfl rfl) rfl <| Seg.op (OpT.pickT rfl rfl) rfl <| Seg.nilT ?_
   refine Wp.cond (b := decide (a2 ≤ x48.2.1)) rfl (fun hb57 => ?_) (fun hb57 => ?_)
   ·
    replace hd := brT hb57 hd
    replace hb57 := of_decide_eq_true hb57
    refine Wp.sr <| Seg.op (OpT.fld (o' := 2) fl50_2 rfl rfl) rfl <| Seg.op (OpT.ldBlk (i := 0) (v := (.int .i64 x48.2.2)) Tryd.underlying3 rfl rfl rfl rfl) rfl <| Seg.op (OpT.assign rfl) rfl <| Seg.nilT <| Wp.ret <| At.blk_r <| At.then_r ?_
    refine At.then_r <| At.blk_r <| At.then_r ?_
    obtain rfl := Option.some.inj hd
    exact At.res1 rfl (RV.tmp (v := (.int .i64 x48.2.2)) rfl) (fun w hs => ⟨rfl, (hs.dropN 1).weaken hl43⟩)
   replace hd := brF hb57 hd
   replace hb57 := of_decide_eq_false hb57
   refine Wp.skip <| At.blk_n <| At.then_n <| Wp.region <| Seg.op (OpT.add rfl rfl (fits64 (by omega))) rfl <| Seg.op (OpT.move rfl) rfl <| Seg.nil <| At.permK [] 1 rfl rfl rfl ?_
   refine At.nextE (L' := [(2, (.int .u8 a2)), (15, v9), (16, (.int .i64 (x6.2.length:Int))), (17, (.int .i64 ((k38 + 1 : Nat) : Int)))]) m41 (Nat.lt_succ_self _) (Hp.le.refl _) (.cons rfl (.cons rfl (.cons rfl (.cons (lk_int rfl (by omega)) (.nil))))) ⟨(k38 + 1), rfl, rfl, (by rw [← hn46]; exact hd)⟩
  replace hd := brF hg56 hd
  have hg56_ := of_decide_eq_false hg56
  refine Wp.region <| Seg.op (OpT.fld (o' := 0) fl50_0 rfl rfl) rfl <| Seg.op (OpT.ldBlk (i := 0) (v := (.int .u8 x48.1)) Tryd.underlying5 rfl rfl rfl rfl) rfl <| Seg.op (OpT.move rfl) rfl <| Seg.op (OpT.asB (b := decide (x48.1 ≤ a2)) (c := false) (OpT.leq rfl rfl) hg56) rfl <| Seg.op (OpT.move rfl) rfl <| Seg.skipG rfl rfl rfl rfl <| Seg.skipG rfl rfl rfl rfl ?_
  refine Seg.skipG rfl rfl rfl rfl <| Seg.skipG rfl rfl rfl rfl <| Seg.op (OpT.pickF rfl rfl) rfl <| Seg.nilT <| Wp.condF rfl <| Wp.skip <| At.blk_n <| At.then_n ?_
  refine Wp.region <| Seg.op (OpT.add rfl rfl (fits64 (by omega))) rfl <| Seg.op (OpT.move rfl) rfl <| Seg.nil <| At.permK [] 1 rfl rfl rfl ?_
  refine At.nextE (L' := [(2, (.int .u8 a2)), (15, v9), (16, (.int .i64 (x6.2.length:Int))), (17, (.int .i64 ((k38 + 1 : Nat) : Int)))]) m41 (Nat.lt_succ_self _) (Hp.le.refl _) (.cons rfl (.cons rfl (.cons rfl (.cons (lk_int rfl (by omega)) (.nil))))) ⟨(k38 + 1), rfl, rfl, (by rw [← hn46]; exact hd)⟩
 replace hd := brF hb47 hd
 replace hb47 := of_decide_eq_false hb47
 refine Wp.exit <| At.then_x <| At.then_x <| At.blk_hit <| At.then_n <| Wp.sr <| Seg.op (OpT.assign rfl) rfl <| Seg.nilT ?_
 refine Wp.ret ?_
 obtain rfl := Option.some.inj hd
 exact At.res1 rfl (RV.tmp (v := (.int .i64 (-1))) rfl) (fun w hs => ⟨rfl, (hs.dropN 0).weaken hl43⟩)

set_option maxRecDepth 100000 in
set_option maxHeartbeats 4000000 in
theorem r05_Accepts_w {fu : Nat} {a0 : List (Bool × (List (Int × Int × Int)))} {a1 : Str} {v1 : Value} {r : Bool} (hv2 : SlD (cP cB (cL (cP cU8 (cP cU8 cI64)))) H a0 v1) (hd : r05_Accepts fu a0 a1 = some r) :
    TriV Tryd.prog 9 [(.agg #[v1]), (sv a1)] H O (.bool r) := by
 intro w hs
 refine wp_of Tryd.func9 rfl rfl rfl ?_ hs
 clear hs w
 unfold r05_Accepts at hd
 refine Wp.sr <| Seg.box (cs := #[v1]) rfl rfl rfl fun B3 => Seg.op (OpT.assign rfl) rfl <| Seg.nilT <| Wp.seq <| Wp.seq ?_
 obtain ⟨x4, hx5, hd⟩ := bnd_some hd
 rcases Bool.eq_false_or_eq_true (!x4) with hg6 | hg6
 ·
  replace hd := brT hg6 hd
  refine Wp.region <| Seg.op (OpT.fld (o' := 0) fl26_0 rfl rfl) rfl <| Seg.op (OpT.ldBlk (i := 0) (v := v1) Tryd.underlying22 rfl rfl rfl rfl) rfl <| Seg.op (OpT.call ent20 rfl (r05_Wellformed_w hv2 hx5)) rfl <| Seg.op (OpT.asB (b := !x4) (c := true) (OpT.not rfl) hg6) rfl <| Seg.op (OpT.move rfl) rfl <| Seg.skipG rfl rfl rfl rfl <| Seg.skipG rfl rfl rfl rfl ?_
  refine Seg.skipG rfl rfl rfl rfl <| Seg.skipG rfl rfl rfl rfl <| Seg.op (OpT.pickT rfl rfl) rfl <| Seg.nilT <| Wp.condT rfl <| Wp.sr <| Seg.op (OpT.assign rfl) rfl <| Seg.nilT ?_
  refine Wp.ret <| At.then_r ?_
  obtain rfl := Option.some.inj hd
  exact At.res1 rfl (RV.tmp (v := (.bool false)) rfl) (fun w hs => ⟨rfl, (hs.dropN 1).weaken (Hp.le.refl _)⟩)
 replace hd := brF hg6 hd
 refine Wp.region <| Seg.op (OpT.fld (o' := 0) fl26_0 rfl rfl) rfl <| Seg.op (OpT.ldBlk (i := 0) (v := v1) Tryd.underlying22 rfl rfl rfl rfl) rfl <| Seg.op (OpT.call ent20 rfl (r05_Wellformed_w hv2 hx5)) rfl <| Seg.op (OpT.asB (b := !x4) (c := false) (OpT.not rfl) hg6) rfl <| Seg.op (OpT.move rfl) rfl <| Seg.opG rfl rfl (OpT.fld (o' := 0) fl26_0 rfl rfl) rfl <| Seg.opG rfl rfl (OpT.ldBlk (i := 0) (v := v1) Tryd.underlying22 rfl rfl rfl rfl) rfl ?_
 have hb7 := hv2.le
 refine Seg.opG rfl rfl (OpT.len Tryd.underlying22 rfl hv2.sl) rfl <| Seg.opG rfl rfl (OpT.eql rfl rfl) rfl <| Seg.op (OpT.pickF rfl rfl) rfl <| Seg.nilT ?_
 refine Wp.cond (b := decide ((a0.length:Int) = 0)) rfl (fun hb8 => ?_) (fun hb8 => ?_)
 ·
  replace hd := brT hb8 hd
  replace hb8 := of_decide_eq_true hb8
  refine Wp.sr <| Seg.op (OpT.assign rfl) rfl <| Seg.nilT <| Wp.ret <| At.then_r ?_
  obtain rfl := Option.some.inj hd
  exact At.res1 rfl (RV.tmp (v := (.bool false)) rfl) (fun w hs => ⟨rfl, (hs.dropN 1).weaken (Hp.le.refl _)⟩)
 replace hd := brF hb8 hd
 replace hb8 := of_decide_eq_false hb8
 refine Wp.skip <| At.then_n <| Wp.sr <| Seg.op (OpT.assign rfl) rfl <| Seg.nilT <| Wp.seq <| Wp.sr <| Seg.op (OpT.assign rfl) rfl ?_
 refine Seg.nilT <| Wp.block <| Wp.sub (L' := [(1, (sv a1)), (2, (ptr B3 0)), (5, (.int .i64 0)), (6, (.int .i64 0))]) (.cons rfl (.cons rfl (.cons rfl (.cons rfl (.nil))))) <| Wp.loopE (fun m LL HH OO => ∃ (i44 : Int), ∃ (i45 : Int), [(1, (sv a1)), (2, (ptr B3 0)), (5, (.int .i64 i44)), (6, (.int .i64 i45))] = LL ∧ .blk B3 (.cells #[v1] 26 (0, 0)) :: O = OO ∧ loopK m (fun p nx => r05_Accepts_b1 fu a0 a1 p.1 p.2 nx) (i44, i45) = some r) fu ⟨0, 0, rfl, rfl, hd⟩ ?_
 intro m47 L51 H49 O52 hl50 hI46
 obtain ⟨i44, i45, rfl, rfl, hd⟩ := hI46
 replace hd := loopK_some hd; obtain ⟨m48, rfl, hd⟩ := hd
 obtain ⟨nx43, hn53⟩ : ∃ f, f = loopK m48 (fun p nx => r05_Accepts_b1 fu a0 a1 p.1 p.2 nx) := ⟨_, rfl⟩
 rw [← hn53] at hd
 replace hd : r05_Accepts_b1 fu a0 a1 i44 i45 nx43 = some r := hd
 unfold r05_Accepts_b1 at hd
 refine Wp.seq <| Wp.sr <| Seg.op (OpT.move rfl) rfl <| Seg.op (OpT.move rfl) rfl <| Seg.op (OpT.lenS Tryd.underlying9 rfl) rfl <| Seg.op (OpT.lss rfl rfl) rfl <| Seg.nilT ?_
 refine Wp.cond (b := decide (i45 < (a1.length:Int))) rfl (fun hb54 => ?_) (fun hb54 => ?_)
 ·
  replace hd := brT hb54 hd
  replace hb54 := of_decide_eq_true hb54
  refine Wp.skip <| At.then_n <| Wp.seq <| Wp.block ?_
  obtain ⟨x59, hx60, hd⟩ := bnd_some hd
  have hx60_ := idxS_bd hx60
  obtain ⟨x61, hx62, hd⟩ := bnd_some hd
  refine Wp.drawE 8 follows rfl (by kernel_rfl) <| SegL.opE (OpT.fld (o' := 0) fl26_0 rfl rfl) rfl <| SegL.opE (OpT.ldBlk (i := 0) (v := v1) Tryd.underlying22 rfl rfl rfl rfl) rfl <| SegL.opE (OpT.move rfl) rfl <| SegL.opE (OpT.move rfl) rfl <| SegL.opE (OpT.move rfl) rfl <| SegL.opE (OpT.byteS Tryd.underlying9 rfl rfl hx60) rfl <| SegL.opE (OpT.call ent21 rfl (r05_Step_w (hv2.mono hl50) (by omega) (by omega) hx62)) rfl ?_
  refine SegL.opE (OpT.assign rfl) rfl <| SegL.doneE <| EndL.is (t := 1) rfl <| EndL.is (t := 2) rfl <| EndL.is (t := 5) rfl <| EndL.is (t := 6) rfl <| EndL.seg <| Seg.nil ?_
  refine At.blk_n <| At.then_n ?_
  replace hd := chk_some hd; obtain ⟨ha63, hd⟩ := hd
  refine Wp.region <| Seg.op (OpT.move rfl) rfl <| Seg.op (OpT.add rfl rfl (fits64 ha63)) rfl <| Seg.op (OpT.assign rfl) rfl <| Seg.nil ?_
  refine At.nextE (L' := [(1, (sv a1)), (2, (ptr B3 0)), (5, (.int .i64 x61)), (6, (.int .i64 (i45 + 1)))]) m48 (Nat.lt_succ_self _) (Hp.le.refl _) (.cons rfl (.cons rfl (.cons rfl (.cons rfl (.nil))))) ⟨x61, (i45 + 1), rfl, rfl, (by rw [← hn53]; exact hd)⟩
 replace hd := brF hb54 hd
 replace hb54 := of_decide_eq_false hb54
 refine Wp.exit <| At.then_x <| At.then_x <| At.blk_hit <| At.then_n <| Wp.seq ?_
 rcases Bool.eq_false_or_eq_true (decide (0 ≤ i44)) with hg64 | hg64
 ·
  replace hd := brT hg64 hd
  have hg64_ := of_decide_eq_true hg64
  obtain ⟨x65, hx66, hd⟩ := bnd_some hd
  have hx66_ := idx_bd hx66
  refine Wp.region <| Seg.op (OpT.move rfl) rfl <| Seg.op (OpT.asB (b := decide (0 ≤ i44)) (c := true) (OpT.geq rfl rfl) hg64) rfl <| Seg.op (OpT.move rfl) rfl <| Seg.opG rfl rfl (OpT.fld (o' := 0) fl26_0 rfl rfl) rfl <| Seg.opG rfl rfl (OpT.ldBlk (i := 0) (v := v1) Tryd.underlying22 rfl rfl rfl rfl) rfl <| Seg.opG rfl rfl (OpT.move rfl) rfl ?_
  obtain ⟨_, ⟨_, _, rfl, rfl, ⟨v68, rfl, hv69⟩⟩, hc67⟩ := SlD.get (hv2.mono hl50) hx66
  refine Seg.opG rfl rfl (OpT.ixSl Tryd.underlying22 ti40 rfl (hv2.mono hl50).sl rfl (idx_bd hx66)) rfl <| Seg.opG rfl rfl (OpT.fldE fl40_0 rfl (hv2.mono hl50).sl (by omega)) rfl <| Seg.opG rfl rfl (OpT.ldH Tryd.underlying4 rfl rfl (hc67 0 _ rfl)) rfl <| Seg.op (OpT.pickT rfl rfl) rfl <| Seg.op (OpT.assign rfl) rfl <| Seg.nilT <| Wp.ret ?_
  obtain rfl := Option.some.inj hd
  exact At.res1 rfl (RV.tmp (v := (.bool x65.1)) rfl) (fun w hs => ⟨rfl, (hs.dropN 1).weaken hl50⟩)
 replace hd := brF hg64 hd
 have hg64_ := of_decide_eq_false hg64
 refine Wp.region <| Seg.op (OpT.move rfl) rfl <| Seg.op (OpT.asB (b := decide (0 ≤ i44)) (c := false) (OpT.geq rfl rfl) hg64) rfl <| Seg.op (OpT.move rfl) rfl <| Seg.skipG rfl rfl rfl rfl <| Seg.skipG rfl rfl rfl rfl <| Seg.skipG rfl rfl rfl rfl <| Seg.skipG rfl rfl rfl rfl ?_
 refine Seg.skipG rfl rfl rfl rfl <| Seg.skipG rfl rfl rfl rfl <| Seg.op (OpT.pickF rfl rfl) rfl <| Seg.op (OpT.assign rfl) rfl <| Seg.nilT <| Wp.ret ?_
 obtain rfl := Option.some.inj hd
 exact At.res1 rfl (RV.tmp (v := (.bool false)) rfl) (fun w hs => ⟨rfl, (hs.dropN 1).weaken hl50⟩)

set_option maxRecDepth 100000 in
set_option maxHeartbeats 4000000 in
theorem w05_AutomatonAccepts_w {fu : Nat} {a0 : List (Bool × (List (Int × Int × Int)))} {a1 : List (Bool × (List (Int × Int × Int)))} {a2 : Str} {v1 v3 : Value} {r : Bool} (hv2 : SlD (cP cB (cL (cP cU8 (cP cU8 cI64)))) H a0 v1) (hv4 : SlD (cP cB (cL (cP cU8 (cP cU8 cI64)))) H a1 v3) (hG : LaidH Tryd.prog H) (hd : w05_AutomatonAccepts fu a0 a1 a2 = some r) :
    TriV Tryd.prog 3 [v1, v3, (sv a2)] H O (.bool r) := by
 intro w hs
 refine wp_of Tryd.func3 rfl rfl rfl ?_ hs
 clear hs w
 unfold w05_AutomatonAccepts at hd
 refine Wp.sr <| Seg.op (OpT.assign rfl) rfl <| Seg.nilT <| Wp.seq <| Wp.seq ?_
 obtain ⟨x5, hx6, hd⟩ := bnd_some hd
 rcases Bool.eq_false_or_eq_true (!x5) with hg7 | hg7
 ·
  replace hd := brT hg7 hd
  refine Wp.region <| Seg.op (OpT.move rfl) rfl <| Seg.op (OpT.call ent6 rfl (w05_few_w hv2 hx6)) rfl <| Seg.op (OpT.asB (b := !x5) (c := true) (OpT.not rfl) hg7) rfl <| Seg.op (OpT.move rfl) rfl <| Seg.skipG rfl rfl rfl rfl <| Seg.skipG rfl rfl rfl rfl <| Seg.skipG rfl rfl rfl rfl ?_
  refine Seg.op (OpT.pickT rfl rfl) rfl <| Seg.op (OpT.move rfl) rfl <| Seg.skipG rfl rfl rfl rfl <| Seg.skipG rfl rfl rfl rfl <| Seg.skipG rfl rfl rfl rfl <| Seg.op (OpT.pickT rfl rfl) rfl <| Seg.nilT <| Wp.condT rfl ?_
  refine Wp.seq ?_
  obtain ⟨x8, hx9, hd⟩ := bnd_some hd
  refine Wp.region <| Seg.op (OpT.call ent7 rfl (w05_alive_w hG hx9)) rfl <| Seg.op (OpT.assign rfl) rfl <| Seg.nilT <| Wp.ret <| At.then_r ?_
  obtain rfl := Option.some.inj hd
  exact At.res1 rfl (RV.tmp (v := (.bool x8)) rfl) (fun w hs => ⟨rfl, (hs.dropN 0).weaken (Hp.le.refl _)⟩)
 replace hd := brF hg7 hd
 obtain ⟨x10, hx11, hd⟩ := bnd_some hd
 rcases Bool.eq_false_or_eq_true (!x10) with hg12 | hg12
 ·
  replace hd := brT hg12 hd
  refine Wp.region <| Seg.op (OpT.move rfl) rfl <| Seg.op (OpT.call ent6 rfl (w05_few_w hv2 hx6)) rfl <| Seg.op (OpT.asB (b := !x5) (c := false) (OpT.not rfl) hg7) rfl <| Seg.op (OpT.move rfl) rfl <| Seg.opG rfl rfl (OpT.move rfl) rfl <| Seg.opG rfl rfl (OpT.call ent6 rfl (w05_few_w hv4 hx11)) rfl <| Seg.opG rfl rfl (OpT.asB (b := !x10) (c := true) (OpT.not rfl) hg12) rfl ?_
  refine Seg.op (OpT.pickF rfl rfl) rfl <| Seg.op (OpT.move rfl) rfl <| Seg.skipG rfl rfl rfl rfl <| Seg.skipG rfl rfl rfl rfl <| Seg.skipG rfl rfl rfl rfl <| Seg.op (OpT.pickT rfl rfl) rfl <| Seg.nilT <| Wp.condT rfl ?_
  refine Wp.seq ?_
  obtain ⟨x13, hx14, hd⟩ := bnd_some hd
  refine Wp.region <| Seg.op (OpT.call ent7 rfl (w05_alive_w hG hx14)) rfl <| Seg.op (OpT.assign rfl) rfl <| Seg.nilT <| Wp.ret <| At.then_r ?_
  obtain rfl := Option.some.inj hd
  exact At.res1 rfl (RV.tmp (v := (.bool x13)) rfl) (fun w hs => ⟨rfl, (hs.dropN 0).weaken (Hp.le.refl _)⟩)
 replace hd := brF hg12 hd
 refine Wp.region <| Seg.op (OpT.move rfl) rfl <| Seg.op (OpT.call ent6 rfl (w05_few_w hv2 hx6)) rfl <| Seg.op (OpT.asB (b := !x5) (c := false) (OpT.not rfl) hg7) rfl <| Seg.op (OpT.move rfl) rfl <| Seg.opG rfl rfl (OpT.move rfl) rfl <| Seg.opG rfl rfl (OpT.call ent6 rfl (w05_few_w hv4 hx11)) rfl <| Seg.opG rfl rfl (OpT.asB (b := !x10) (c := false) (OpT.not rfl) hg12) rfl ?_
 refine Seg.op (OpT.pickF rfl rfl) rfl <| Seg.op (OpT.move rfl) rfl <| Seg.opG rfl rfl (OpT.move rfl) rfl <| Seg.opG rfl rfl (OpT.lenS Tryd.underlying9 rfl) rfl <| Seg.opG rfl rfl (OpT.gtr rfl rfl) rfl <| Seg.op (OpT.pickF rfl rfl) rfl <| Seg.nilT ?_
 refine Wp.cond (b := decide (60 < (a2.length:Int))) rfl (fun hb15 => ?_) (fun hb15 => ?_)
 ·
  replace hd := brT hb15 hd
  replace hb15 := of_decide_eq_true hb15
  refine Wp.seq ?_
  obtain ⟨x16, hx17, hd⟩ := bnd_some hd
  refine Wp.region <| Seg.op (OpT.call ent7 rfl (w05_alive_w hG hx17)) rfl <| Seg.op (OpT.assign rfl) rfl <| Seg.nilT <| Wp.ret <| At.then_r ?_
  obtain rfl := Option.some.inj hd
  exact At.res1 rfl (RV.tmp (v := (.bool x16)) rfl) (fun w hs => ⟨rfl, (hs.dropN 0).weaken (Hp.le.refl _)⟩)
 replace hd := brF hb15 hd
 replace hb15 := of_decide_eq_false hb15
 refine Wp.skip <| At.then_n <| Wp.sr <| Seg.op (OpT.move rfl) rfl <| Seg.op (OpT.buildS (vs := [(0, v1)]) (cs := #[v1]) plf26 ti26 rfl rfl (vc_cons (cells1 hv2.one) (vc_nil)) rfl) rfl <| Seg.op (OpT.move rfl) rfl <| Seg.op (OpT.buildS (vs := [(0, v3)]) (cs := #[v3]) plf26 ti26 rfl rfl (vc_cons (cells1 hv4.one) (vc_nil)) rfl) rfl <| Seg.alloc (cs := #[(.slice none 0 0)]) ti26 rfl rfl fun B20 => ?_
 refine Seg.alloc (cs := #[(.slice none 0 0)]) ti26 rfl rfl fun B22 => Seg.stBlkW (i := 1) (cs' := #[v1]) rfl rfl ti26 rfl rfl (onesA (ones_cons hv2.one (ones_nil))) rfl ?_
 refine Seg.own (O := .blk B22 (.cells #[(.slice none 0 0)] 26 (0, 0)) :: .blk B20 (.cells #[v1] 26 (0, 0)) :: O) ?_ rfl
 refine Seg.stBlkW (i := 0) (cs' := #[v3]) rfl rfl ti26 rfl rfl (onesA (ones_cons hv4.one (ones_nil))) rfl ?_
 refine Seg.own (O := .blk B22 (.cells #[v3] 26 (0, 0)) :: .blk B20 (.cells #[v1] 26 (0, 0)) :: O) ?_ rfl
 refine Seg.nilT <| Wp.seq ?_
 obtain ⟨x39, hx40, hd⟩ := bnd_some hd
 obtain ⟨x41, hx42, hd⟩ := bnd_some hd
 rcases Bool.eq_false_or_eq_true (x39 == x41) with hg43 | hg43
 ·
  replace hd := brT hg43 hd
  obtain ⟨x44, hx45, hd⟩ := bnd_some hd
  obtain ⟨x46, hx47, hd⟩ := bnd_some hd
  rcases Bool.eq_false_or_eq_true (x44 == x46) with hg48 | hg48
  ·
   replace hd := brT hg48 hd
   obtain ⟨x49, hx50, hd⟩ := bnd_some hd
   rcases Bool.eq_false_or_eq_true (x49) with hg51 | hg51
   ·
    replace hd := brT hg51 hd
    obtain ⟨x52, hx53, hd⟩ := bnd_some hd
    refine Wp.drawE 25 follows rfl (by kernel_rfl) <| SegL.opE (OpT.ldBlkW (i := 1) Tryd.underlying26 rfl ti26 rfl rfl rfl) rfl <| SegL.opE (OpT.move rfl) rfl <| SegL.opE (OpT.call ent8 rfl (au_Accepts_w hv2 hx40)) rfl <| SegL.opE (OpT.ldBlkW (i := 1) Tryd.underlying26 rfl ti26 rfl rfl rfl) rfl <| SegL.opE (OpT.move rfl) rfl <| SegL.opE (OpT.call ent9 rfl (r05_Accepts_w hv2 hx42)) rfl <| SegL.opE (OpT.asB (b := x39 == x41) (c := true) (OpT.eqB Tryd.underlying4 rfl rfl) hg43) rfl ?_
    refine SegL.opE (OpT.move rfl) rfl <| SegL.opGE rfl rfl (OpT.ldBlkW (i := 1) Tryd.underlying26 rfl ti26 rfl rfl rfl) rfl <| SegL.opGE rfl rfl (OpT.ldBlkW (i := 0) Tryd.underlying26 rfl ti26 rfl rfl rfl) rfl <| SegL.opGE rfl rfl (OpT.call ent10 rfl (au_Same_w hv2 hv4 hx45)) rfl <| SegL.opGE rfl rfl (OpT.ldBlkW (i := 1) Tryd.underlying26 rfl ti26 rfl rfl rfl) rfl <| SegL.opGE rfl rfl (OpT.ldBlkW (i := 0) Tryd.underlying26 rfl ti26 rfl rfl rfl) rfl <| SegL.opGE rfl rfl (OpT.call ent11 rfl (r05_Same_w hv2 hv4 hx47)) rfl <| SegL.opGE rfl rfl (OpT.asB (b := x44 == x46) (c := true) (OpT.eqB Tryd.underlying4 rfl rfl) hg48) rfl ?_
    refine SegL.opE (OpT.pickT rfl rfl) rfl <| SegL.opE (OpT.move rfl) rfl <| SegL.opGE rfl rfl (OpT.ldBlkW (i := 1) Tryd.underlying26 rfl ti26 rfl rfl rfl) rfl <| SegL.opGE rfl rfl (OpT.ldBlkW (i := 1) Tryd.underlying26 rfl ti26 rfl rfl rfl) rfl <| SegL.opGE rfl rfl (OpT.asB (b := x49) (c := true) (OpT.call ent10 rfl (au_Same_w hv2 hv2 hx50)) hg51) rfl <| SegL.opE (OpT.pickT rfl rfl) rfl <| SegL.opE (OpT.move rfl) rfl <| SegL.opGE rfl rfl (OpT.call ent7 rfl (w05_alive_w hG hx53)) rfl ?_
    refine SegL.opE (OpT.pickT rfl rfl) rfl <| SegL.opE (OpT.assign rfl) rfl <| SegL.doneE <| EndL.is (t := 6) rfl <| EndL.seg <| Seg.nilT <| Wp.ret ?_
    obtain rfl := Option.some.inj hd
    exact At.res1 rfl (RV.tmp (v := (.bool x52)) rfl) (fun w hs => ⟨rfl, (hs.dropN 2).weaken (Hp.le.refl _)⟩)
   replace hd := brF hg51 hd
   refine Wp.drawE 25 follows rfl (by kernel_rfl) <| SegL.opE (OpT.ldBlkW (i := 1) Tryd.underlying26 rfl ti26 rfl rfl rfl) rfl <| SegL.opE (OpT.move rfl) rfl <| SegL.opE (OpT.call ent8 rfl (au_Accepts_w hv2 hx40)) rfl <| SegL.opE (OpT.ldBlkW (i := 1) Tryd.underlying26 rfl ti26 rfl rfl rfl) rfl <| SegL.opE (OpT.move rfl) rfl <| SegL.opE (OpT.call ent9 rfl (r05_Accepts_w hv2 hx42)) rfl <| SegL.opE (OpT.asB (b := x39 == x41) (c := true) (OpT.eqB Tryd.underlying4 rfl rfl) hg43) rfl ?_
   refine SegL.opE (OpT.move rfl) rfl <| SegL.opGE rfl rfl (OpT.ldBlkW (i := 1) Tryd.underlying26 rfl ti26 rfl rfl rfl) rfl <| SegL.opGE rfl rfl (OpT.ldBlkW (i := 0) Tryd.underlying26 rfl ti26 rfl rfl rfl) rfl <| SegL.opGE rfl rfl (OpT.call ent10 rfl (au_Same_w hv2 hv4 hx45)) rfl <| SegL.opGE rfl rfl (OpT.ldBlkW (i := 1) Tryd.underlying26 rfl ti26 rfl rfl rfl) rfl <| SegL.opGE rfl rfl (OpT.ldBlkW (i := 0) Tryd.underlying26 rfl ti26 rfl rfl rfl) rfl <| SegL.opGE rfl rfl (OpT.call ent11 rfl (r05_Same_w hv2 hv4 hx47)) rfl <| SegL.opGE rfl rfl (OpT.asB (b := x44 == x46) (c := true) (OpT.eqB Tryd.underlying4 rfl rfl) hg48) rfl ?_
   refine SegL.opE (OpT.pickT rfl rfl) rfl <| SegL.opE (OpT.move rfl) rfl <| SegL.opGE rfl rfl (OpT.ldBlkW (i := 1) Tryd.underlying26 rfl ti26 rfl rfl rfl) rfl <| SegL.opGE rfl rfl (OpT.ldBlkW (i := 1) Tryd.underlying26 rfl ti26 rfl rfl rfl) rfl <| SegL.opGE rfl rfl (OpT.asB (b := x49) (c := false) (OpT.call ent10 rfl (au_Same_w hv2 hv2 hx50)) hg51) rfl <| SegL.opE (OpT.pickT rfl rfl) rfl <| SegL.opE (OpT.move rfl) rfl <| SegL.skipGE rfl rfl rfl rfl ?_
   refine SegL.opE (OpT.pickF rfl rfl) rfl <| SegL.opE (OpT.assign rfl) rfl <| SegL.doneE <| EndL.is (t := 6) rfl <| EndL.seg <| Seg.nilT <| Wp.ret ?_
   obtain rfl := Option.some.inj hd
   exact At.res1 rfl (RV.tmp (v := (.bool false)) rfl) (fun w hs => ⟨rfl, (hs.dropN 2).weaken (Hp.le.refl _)⟩)
  replace hd := brF hg48 hd
  refine Wp.drawE 25 follows rfl (by kernel_rfl) <| SegL.opE (OpT.ldBlkW (i := 1) Tryd.underlying26 rfl ti26 rfl rfl rfl) rfl <| SegL.opE (OpT.move rfl) rfl <| SegL.opE (OpT.call ent8 rfl (au_Accepts_w hv2 hx40)) rfl <| SegL.opE (OpT.ldBlkW (i := 1) Tryd.underlying26 rfl ti26 rfl rfl rfl) rfl <| SegL.opE (OpT.move rfl) rfl <| SegL.opE (OpT.call ent9 rfl (r05_Accepts_w hv2 hx42)) rfl <| SegL.opE (OpT.asB (b := x39 == x41) (c := true) (OpT.eqB Tryd.underlying4 rfl rfl) hg43) rfl ?_
  refine SegL.opE (OpT.move rfl) rfl <| SegL.opGE rfl rfl (OpT.ldBlkW (i := 1) Tryd.underlying26 rfl ti26 rfl rfl rfl) rfl <| SegL.opGE rfl rfl (OpT.ldBlkW (i := 0) Tryd.underlying26 rfl ti26 rfl rfl rfl) rfl <| SegL.opGE rfl rfl (OpT.call ent10 rfl (au_Same_w hv2 hv4 hx45)) rfl <| SegL.opGE rfl rfl (OpT.ldBlkW (i := 1) Tryd.underlying26 rfl ti26 rfl rfl rfl) rfl <| SegL.opGE rfl rfl (OpT.ldBlkW (i := 0) Tryd.underlying26 rfl ti26 rfl rfl rfl) rfl <| SegL.opGE rfl rfl (OpT.call ent11 rfl (r05_Same_w hv2 hv4 hx47)) rfl <| SegL.opGE rfl rfl (OpT.asB (b := x44 == x46) (c := false) (OpT.eqB Tryd.underlying4 rfl rfl) hg48) rfl ?_
  refine SegL.opE (OpT.pickT rfl rfl) rfl <| SegL.opE (OpT.move rfl) rfl <| SegL.skipGE rfl rfl rfl rfl <| SegL.skipGE rfl rfl rfl rfl <| SegL.skipGE rfl rfl rfl rfl <| SegL.opE (OpT.pickF rfl rfl) rfl <| SegL.opE (OpT.move rfl) rfl <| SegL.skipGE rfl rfl rfl rfl ?_
  refine SegL.opE (OpT.pickF rfl rfl) rfl <| SegL.opE (OpT.assign rfl) rfl <| SegL.doneE <| EndL.is (t := 6) rfl <| EndL.seg <| Seg.nilT <| Wp.ret ?_
  obtain rfl := Option.some.inj hd
  exact At.res1 rfl (RV.tmp (v := (.bool false)) rfl) (fun w hs => ⟨rfl, (hs.dropN 2).weaken (Hp.le.refl _)⟩)
 replace hd := brF hg43 hd
 refine Wp.drawE 25 follows rfl (by kernel_rfl) <| SegL.opE (OpT.ldBlkW (i := 1) Tryd.underlying26 rfl ti26 rfl rfl rfl) rfl <| SegL.opE (OpT.move rfl) rfl <| SegL.opE (OpT.call ent8 rfl (au_Accepts_w hv2 hx40)) rfl <| SegL.opE (OpT.ldBlkW (i := 1) Tryd.underlying26 rfl ti26 rfl rfl rfl) rfl <| SegL.opE (OpT.move rfl) rfl <| SegL.opE (OpT.call ent9 rfl (r05_Accepts_w hv2 hx42)) rfl <| SegL.opE (OpT.asB (b := x39 == x41) (c := false) (OpT.eqB Tryd.underlying4 rfl rfl) hg43) rfl ?_
 refine SegL.opE (OpT.move rfl) rfl <| SegL.skipGE rfl rfl rfl rfl <| SegL.skipGE rfl rfl rfl rfl <| SegL.skipGE rfl rfl rfl rfl <| SegL.skipGE rfl rfl rfl rfl <| SegL.skipGE rfl rfl rfl rfl <| SegL.skipGE rfl rfl rfl rfl <| SegL.skipGE rfl rfl rfl rfl ?_
 refine SegL.opE (OpT.pickF rfl rfl) rfl <| SegL.opE (OpT.move rfl) rfl <| SegL.skipGE rfl rfl rfl rfl <| SegL.skipGE rfl rfl rfl rfl <| SegL.skipGE rfl rfl rfl rfl <| SegL.opE (OpT.pickF rfl rfl) rfl <| SegL.opE (OpT.move rfl) rfl <| SegL.skipGE rfl rfl rfl rfl ?_
 refine SegL.opE (OpT.pickF rfl rfl) rfl <| SegL.opE (OpT.assign rfl) rfl <| SegL.doneE <| EndL.is (t := 6) rfl <| EndL.seg <| Seg.nilT <| Wp.ret ?_
 obtain rfl := Option.some.inj hd
 exact At.res1 rfl (RV.tmp (v := (.bool false)) rfl) (fun w hs => ⟨rfl, (hs.dropN 2).weaken (Hp.le.refl _)⟩)
end Go.Proofs.YtjmbmodmepdmjaaDoor
