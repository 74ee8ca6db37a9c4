/- Walks, written by a program. -/
import Derived.Test.YtjmbmodmepdmjaaDoorX1
import Derived.Test.YtjmbmodmepdmjaaDoorX2
import Derived.Test.YtjmbmodmepdmjaaDoorX4
import Derived.Test.YtjmbmodmepdmjaaDoorD1
namespace Go.Proofs.YtjmbmodmepdmjaaDoor
open Go.GK
variable {H : Hp} {O : List Res}

set_option maxRecDepth 100000 in
set_option maxHeartbeats 4000000 in
theorem w05_few_w {fu : Nat} {a0 : List (Bool × (List (Int × Int × Int)))} {v1 : Value} {r : Bool} (hv2 : SlD (cP cB (cL (cP cU8 (cP cU8 cI64)))) H a0 v1) (hd : w05_few fu a0 = some r) :
    TriV Tryd.prog 6 [v1] H O (.bool r) := by
 intro w hs
 refine wp_of Tryd.func6 rfl rfl rfl ?_ hs
 clear hs w
 unfold w05_few at hd
 refine Wp.sr <| Seg.op (OpT.assign rfl) rfl <| Seg.nilT <| Wp.seq <| Wp.sr <| Seg.op (OpT.move rfl) rfl ?_
 have hb3 := hv2.le
 refine Seg.op (OpT.len Tryd.underlying22 rfl hv2.sl) rfl <| Seg.op (OpT.move rfl) rfl <| Seg.nilT <| Wp.block <| Wp.sub (L' := [(0, v1), (5, v1), (6, (.int .i64 (a0.length:Int))), (7, (.int .i64 ((0 : Nat) : Int)))]) (.cons rfl (.cons rfl (.cons rfl (.cons (lk_int rfl (by omega)) (.nil))))) <| Wp.loopE (fun m LL HH OO => ∃ (k27 : Nat), [(0, v1), (5, v1), (6, (.int .i64 (a0.length:Int))), (7, (.int .i64 (k27:Int)))] = LL ∧ O = OO ∧ loopK m (w05_few_b1 fu a0) k27 = some r) fu ⟨0, rfl, rfl, hd⟩ ?_
 intro m29 L33 H31 O34 hl32 hI28
 obtain ⟨k27, rfl, rfl, hd⟩ := hI28
 replace hd := loopK_some hd; obtain ⟨m30, rfl, hd⟩ := hd
 obtain ⟨nx26, hn35⟩ : ∃ f, f = loopK m30 (w05_few_b1 fu a0) := ⟨_, rfl⟩
 rw [← hn35] at hd
 replace hd : w05_few_b1 fu a0 k27 nx26 = some r := hd
 unfold w05_few_b1 at hd
 refine Wp.sr <| Seg.op (OpT.lss rfl rfl) rfl <| Seg.nilT <| Wp.seq ?_
 refine Wp.cond (b := decide ((k27:Int) < (a0.length:Int))) rfl (fun hb36 => ?_) (fun hb36 => ?_)
 ·
  replace hd := brT hb36 hd
  replace hb36 := of_decide_eq_true hb36
  refine Wp.skip <| At.then_n <| Wp.seq <| Wp.block <| Wp.seq ?_
  obtain ⟨x37, hx38, hd⟩ := bnd_some hd
  have hx38_ := idx_bd hx38
  refine Wp.region ?_
  obtain ⟨_, ⟨_, _, rfl, rfl, ⟨v40, rfl, hv41⟩⟩, hc39⟩ := SlD.get (hv2.mono hl32) hx38
  refine Seg.op (OpT.ixSl Tryd.underlying22 ti40 rfl (hv2.mono hl32).sl rfl (idx_bd hx38)) rfl <| Seg.op (OpT.ldHA (vs := [(.bool x37.1), v40]) Tryd.underlying40 rfl ti40 rfl rfl (fun j u hj => (hc39 j u hj))) rfl <| Seg.alloc (cs := #[(.bool false), (.slice none 0 0)]) ti40 rfl rfl fun B42 => Seg.stBlkW (i := 0) (cs' := #[(.bool x37.1), v40]) rfl rfl ti40 rfl rfl (onesA (ones_cons rfl (ones_cons hv41.one (ones_nil)))) rfl ?_
  refine Seg.own (O := .blk B42 (.cells #[(.bool x37.1), v40] 40 (0, 0)) :: O) ?_ rfl
  refine Seg.nilT <| Wp.sr <| Seg.op (OpT.fld (o' := 1) fl40_1 rfl rfl) rfl <| Seg.op (OpT.ldBlk (i := 0) (v := v40) Tryd.underlying38 rfl rfl rfl rfl) rfl ?_
  have hb44 := hv41.le
  refine Seg.op (OpT.len Tryd.underlying38 rfl hv41.sl) rfl <| Seg.op (OpT.gtr rfl rfl) rfl <| Seg.nilT ?_
  refine Wp.cond (b := decide (12 < (x37.2.length:Int))) rfl (fun hb45 => ?_) (fun hb45 => ?_)
  ·
   replace hd := brT hb45 hd
   replace hb45 := of_decide_eq_true hb45
   refine Wp.sr <| Seg.op (OpT.assign rfl) rfl <| Seg.nilT <| Wp.ret <| At.blk_r <| At.then_r <| At.then_r <| At.blk_r ?_
   refine At.then_r ?_
   obtain rfl := Option.some.inj hd
   exact At.res1 rfl (RV.tmp (v := (.bool false)) rfl) (fun w hs => ⟨rfl, (hs.dropN 1).weaken hl32⟩)
  replace hd := brF hb45 hd
  replace hb45 := of_decide_eq_false hb45
  refine Wp.skip <| At.blk_n <| At.then_n <| Wp.region <| Seg.op (OpT.add rfl rfl (fits64 (by omega))) rfl <| Seg.op (OpT.move rfl) rfl <| Seg.nil <| At.permK [] 1 rfl rfl rfl ?_
  refine At.nextE (L' := [(0, v1), (5, v1), (6, (.int .i64 (a0.length:Int))), (7, (.int .i64 ((k27 + 1 : Nat) : Int)))]) m30 (Nat.lt_succ_self _) (Hp.le.refl _) (.cons rfl (.cons rfl (.cons rfl (.cons (lk_int rfl (by omega)) (.nil))))) ⟨(k27 + 1), rfl, rfl, (by rw [← hn35]; exact hd)⟩
 replace hd := brF hb36 hd
 replace hb36 := of_decide_eq_false hb36
 refine Wp.exit <| At.then_x <| At.then_x <| At.blk_hit <| At.then_n <| Wp.sr <| Seg.op (OpT.move rfl) rfl ?_
 have hb46 := hv2.le
 refine Seg.op (OpT.len Tryd.underlying22 rfl (hv2.mono hl32).sl) rfl <| Seg.op (OpT.leq rfl rfl) rfl <| Seg.op (OpT.assign rfl) rfl <| Seg.nilT <| Wp.ret ?_
 obtain rfl := Option.some.inj hd
 exact At.res1 rfl (RV.tmp (v := (.bool (decide ((a0.length:Int) ≤ 10)))) rfl) (fun w hs => ⟨rfl, (hs.dropN 0).weaken hl32⟩)

set_option maxRecDepth 100000 in
set_option maxHeartbeats 4000000 in
theorem au_wellFormed_w {fu : Nat} {a0 : List (Bool × (List (Int × Int × Int)))} {v1 : Value} {r : Bool} (hv2 : SlD (cP cB (cL (cP cU8 (cP cU8 cI64)))) H a0 v1) (hd : au_wellFormed fu a0 = some r) :
    TriV Tryd.prog 19 [v1] H O (.bool r) := by
 intro w hs
 refine wp_of Tryd.func19 rfl rfl rfl ?_ hs
 clear hs w
 unfold au_wellFormed at hd
 refine Wp.sr <| Seg.op (OpT.assign rfl) rfl <| Seg.nilT <| Wp.seq <| Wp.sr <| Seg.op (OpT.move rfl) rfl ?_
 have hb3 := hv2.le
 refine Seg.op (OpT.len Tryd.underlying22 rfl hv2.sl) rfl <| Seg.op (OpT.move rfl) rfl <| Seg.nilT <| Wp.block <| Wp.sub (L' := [(0, v1), (7, v1), (8, (.int .i64 (a0.length:Int))), (9, (.int .i64 ((0 : Nat) : Int)))]) (.cons rfl (.cons rfl (.cons rfl (.cons (lk_int rfl (by omega)) (.nil))))) <| Wp.loopE (fun m LL HH OO => ∃ (k249 : Nat), [(0, v1), (7, v1), (8, (.int .i64 (a0.length:Int))), (9, (.int .i64 (k249:Int)))] = LL ∧ O = OO ∧ loopK m (au_wellFormed_b1 fu a0) k249 = some r) fu ⟨0, rfl, rfl, hd⟩ ?_
 intro m251 L255 H253 O256 hl254 hI250
 obtain ⟨k249, rfl, rfl, hd⟩ := hI250
 replace hd := loopK_some hd; obtain ⟨m252, rfl, hd⟩ := hd
 obtain ⟨nx248, hn257⟩ : ∃ f, f = loopK m252 (au_wellFormed_b1 fu a0) := ⟨_, rfl⟩
 rw [← hn257] at hd
 replace hd : au_wellFormed_b1 fu a0 k249 nx248 = some r := hd
 unfold au_wellFormed_b1 at hd
 refine Wp.sr <| Seg.op (OpT.lss rfl rfl) rfl <| Seg.nilT <| Wp.seq ?_
 refine Wp.cond (b := decide ((k249:Int) < (a0.length:Int))) rfl (fun hb258 => ?_) (fun hb258 => ?_)
 ·
  replace hd := brT hb258 hd
  replace hb258 := of_decide_eq_true hb258
  refine Wp.skip <| At.then_n <| Wp.seq <| Wp.block <| Wp.seq ?_
  obtain ⟨x259, hx260, hd⟩ := bnd_some hd
  have hx260_ := idx_bd hx260
  refine Wp.region ?_
  obtain ⟨_, ⟨_, _, rfl, rfl, ⟨v262, rfl, hv263⟩⟩, hc261⟩ := SlD.get (hv2.mono hl254) hx260
  refine Seg.op (OpT.ixSl Tryd.underlying22 ti40 rfl (hv2.mono hl254).sl rfl (idx_bd hx260)) rfl <| Seg.op (OpT.ldHA (vs := [(.bool x259.1), v262]) Tryd.underlying40 rfl ti40 rfl rfl (fun j u hj => (hc261 j u hj))) rfl <| Seg.alloc (cs := #[(.bool false), (.slice none 0 0)]) ti40 rfl rfl fun B264 => Seg.stBlkW (i := 0) (cs' := #[(.bool x259.1), v262]) rfl rfl ti40 rfl rfl (onesA (ones_cons rfl (ones_cons hv263.one (ones_nil)))) rfl ?_
  refine Seg.own (O := .blk B264 (.cells #[(.bool x259.1), v262] 40 (0, 0)) :: O) ?_ rfl
  refine Seg.nilT <| Wp.sr <| Seg.op (OpT.fld (o' := 1) fl40_1 rfl rfl) rfl <| Seg.op (OpT.ldBlk (i := 0) (v := v262) Tryd.underlying38 rfl rfl rfl rfl) rfl ?_
  have hb266 := hv263.le
  refine Seg.op (OpT.len Tryd.underlying38 rfl hv263.sl) rfl <| Seg.op (OpT.move rfl) rfl <| Seg.nilT <| Wp.block <| Wp.sub (L' := [(0, v1), (4, (ptr B264 0)), (7, v1), (8, (.int .i64 (a0.length:Int))), (9, (.int .i64 (k249:Int))), (14, v262), (15, (.int .i64 (x259.2.length:Int))), (16, (.int .i64 ((0 : Nat) : Int)))]) (.cons rfl (.cons rfl (.cons rfl (.cons rfl (.cons rfl (.cons rfl (.cons rfl (.cons (lk_int rfl (by omega)) (.nil))))))))) <| Wp.loopE (fun m LL HH OO => ∃ (k343 : Nat), [(0, v1), (4, (ptr B264 0)), (7, v1), (8, (.int .i64 (a0.length:Int))), (9, (.int .i64 (k249:Int))), (14, v262), (15, (.int .i64 (x259.2.length:Int))), (16, (.int .i64 (k343:Int)))] = LL ∧ .blk B264 (.cells #[(.bool x259.1), v262] 40 (0, 0)) :: O = OO ∧ loopK m (au_wellFormed_b2 fu a0 k249 nx248 x259) k343 = some r) fu ⟨0, rfl, rfl, hd⟩ ?_
  intro m345 L349 H347 O350 hl348 hI344
  obtain ⟨k343, rfl, rfl, hd⟩ := hI344
  replace hd := loopK_some hd; obtain ⟨m346, rfl, hd⟩ := hd
  obtain ⟨nx342, hn351⟩ : ∃ f, f = loopK m346 (au_wellFormed_b2 fu a0 k249 nx248 x259) := ⟨_, rfl⟩
  rw [← hn351] at hd
  replace hd : au_wellFormed_b2 fu a0 k249 nx248 x259 k343 nx342 = some r := hd
  unfold au_wellFormed_b2 at hd
  refine Wp.sr <| Seg.op (OpT.lss rfl rfl) rfl <| Seg.nilT <| Wp.seq ?_
  refine Wp.cond (b := decide ((k343:Int) < (x259.2.length:Int))) rfl (fun hb352 => ?_) (fun hb352 => ?_)
  ·
   replace hd := brT hb352 hd
   replace hb352 := of_decide_eq_true hb352
   refine Wp.skip <| At.then_n <| Wp.seq <| Wp.block <| Wp.seq ?_
   obtain ⟨x353, hx354, hd⟩ := bnd_some hd
   have hx354_ := idx_bd hx354
   refine Wp.region <| Seg.op (OpT.move rfl) rfl ?_
   obtain ⟨_, ⟨_, _, rfl, ⟨rfl, hr356, hr357⟩, ⟨_, _, rfl, ⟨rfl, hr358, hr359⟩, rfl⟩⟩, hc355⟩ := SlD.get (hv263.mono hl348) hx354
   refine Seg.op (OpT.ixSl Tryd.underlying38 ti50 rfl (hv263.mono hl348).sl rfl (idx_bd hx354)) rfl <| Seg.op (OpT.ldHA (vs := [(.int .u8 x353.1), (.int .u8 x353.2.1), (.int .i64 x353.2.2)]) Tryd.underlying50 rfl ti50 rfl rfl (fun j u hj => (hc355 j u hj))) rfl <| Seg.alloc (cs := #[(.int .u8 0), (.int .u8 0), (.int .i64 0)]) ti50 rfl rfl fun B360 => Seg.op (OpT.assign rfl) rfl <| Seg.stBlkW (i := 0) (cs' := #[(.int .u8 x353.1), (.int .u8 x353.2.1), (.int .i64 x353.2.2)]) rfl rfl ti50 rfl rfl (onesA (ones_cons rfl (ones_cons rfl (ones_cons rfl (ones_nil))))) rfl ?_
   refine Seg.own (O := .blk B360 (.cells #[(.int .u8 x353.1), (.int .u8 x353.2.1), (.int .i64 x353.2.2)] 50 (0, 0)) :: .blk B264 (.cells #[(.bool x259.1), v262] 40 (0, 0)) :: O) ?_ rfl
   refine Seg.nilT <| Wp.seq ?_
   rcases Bool.eq_false_or_eq_true (decide (x353.2.1 < x353.1)) with hg374 | hg374
   ·
    replace hd := brT hg374 hd
    have hg374_ := of_decide_eq_true hg374
    refine Wp.drawE 33 follows rfl (by kernel_rfl) <| SegL.opE (OpT.fld (o' := 0) fl50_0 rfl rfl) rfl <| SegL.opE (OpT.ldBlk (i := 0) (v := (.int .u8 x353.1)) Tryd.underlying5 rfl rfl rfl rfl) rfl <| SegL.opE (OpT.fld (o' := 1) fl50_1 rfl rfl) rfl <| SegL.opE (OpT.ldBlk (i := 0) (v := (.int .u8 x353.2.1)) Tryd.underlying5 rfl rfl rfl rfl) rfl <| SegL.opE (OpT.asB (b := decide (x353.2.1 < x353.1)) (c := true) (OpT.gtr rfl rfl) hg374) rfl <| SegL.opE (OpT.move rfl) rfl <| SegL.skipGE rfl rfl rfl rfl ?_
    refine SegL.skipGE rfl rfl rfl rfl <| SegL.skipGE rfl rfl rfl rfl <| SegL.opE (OpT.pickT rfl rfl) rfl <| SegL.opE (OpT.move rfl) rfl <| SegL.skipGE rfl rfl rfl rfl <| SegL.skipGE rfl rfl rfl rfl <| SegL.skipGE rfl rfl rfl rfl <| SegL.skipGE rfl rfl rfl rfl ?_
    refine SegL.skipGE rfl rfl rfl rfl <| SegL.opE (OpT.pickT rfl rfl) rfl <| SegL.opE (OpT.move rfl) rfl <| SegL.skipGE rfl rfl rfl rfl <| SegL.skipGE rfl rfl rfl rfl <| SegL.skipGE rfl rfl rfl rfl <| SegL.skipUE rfl rfl rfl <| SegL.skipUE rfl rfl rfl ?_
    refine SegL.skipUE rfl rfl rfl <| SegL.skipUE rfl rfl rfl <| SegL.skipUE rfl rfl rfl <| SegL.skipUE rfl rfl rfl <| SegL.skipUE rfl rfl rfl <| SegL.skipUE rfl rfl rfl <| SegL.skipUE rfl rfl rfl <| SegL.skipUE rfl rfl rfl ?_
    refine SegL.skipGE rfl rfl rfl rfl <| SegL.opE (OpT.pickT rfl rfl) rfl <| SegL.doneE <| EndL.is (t := 0) rfl <| EndL.is (t := 4) rfl <| EndL.is (t := 7) rfl <| EndL.is (t := 8) rfl <| EndL.is (t := 9) rfl ?_
    refine EndL.is (t := 14) rfl <| EndL.is (t := 15) rfl <| EndL.is (t := 16) rfl <| EndL.is (t := 53) rfl <| EndL.seg <| Seg.nilT <| Wp.condT rfl <| Wp.sr ?_
    refine Seg.op (OpT.assign rfl) rfl <| Seg.nilT <| Wp.ret <| At.blk_r <| At.then_r <| At.then_r <| At.blk_r <| At.blk_r ?_
    refine At.then_r <| At.then_r <| At.blk_r <| At.then_r ?_
    obtain rfl := Option.some.inj hd
    exact At.res1 rfl (RV.tmp (v := (.bool false)) rfl) (fun w hs => ⟨rfl, (hs.dropN 2).weaken (hl254.trans hl348)⟩)
   replace hd := brF hg374 hd
   have hg374_ := of_decide_eq_false hg374
   rcases Bool.eq_false_or_eq_true (decide (x353.2.2 < 0)) with hg375 | hg375
   ·
    replace hd := brT hg375 hd
    have hg375_ := of_decide_eq_true hg375
    refine Wp.drawE 33 follows rfl (by kernel_rfl) <| SegL.opE (OpT.fld (o' := 0) fl50_0 rfl rfl) rfl <| SegL.opE (OpT.ldBlk (i := 0) (v := (.int .u8 x353.1)) Tryd.underlying5 rfl rfl rfl rfl) rfl <| SegL.opE (OpT.fld (o' := 1) fl50_1 rfl rfl) rfl <| SegL.opE (OpT.ldBlk (i := 0) (v := (.int .u8 x353.2.1)) Tryd.underlying5 rfl rfl rfl rfl) rfl <| SegL.opE (OpT.asB (b := decide (x353.2.1 < x353.1)) (c := false) (OpT.gtr rfl rfl) hg374) rfl <| SegL.opE (OpT.move rfl) rfl <| SegL.opGE rfl rfl (OpT.fld (o' := 2) fl50_2 rfl rfl) rfl ?_
    refine SegL.opGE rfl rfl (OpT.ldBlk (i := 0) (v := (.int .i64 x353.2.2)) Tryd.underlying3 rfl rfl rfl rfl) rfl <| SegL.opGE rfl rfl (OpT.asB (b := decide (x353.2.2 < 0)) (c := true) (OpT.lss rfl rfl) hg375) rfl <| SegL.opE (OpT.pickF rfl rfl) rfl <| SegL.opE (OpT.move rfl) rfl <| SegL.skipGE rfl rfl rfl rfl <| SegL.skipGE rfl rfl rfl rfl <| SegL.skipGE rfl rfl rfl rfl <| SegL.skipGE rfl rfl rfl rfl ?_
    refine SegL.skipGE rfl rfl rfl rfl <| SegL.opE (OpT.pickT rfl rfl) rfl <| SegL.opE (OpT.move rfl) rfl <| SegL.skipGE rfl rfl rfl rfl <| SegL.skipGE rfl rfl rfl rfl <| SegL.skipGE rfl rfl rfl rfl <| SegL.skipUE rfl rfl rfl <| SegL.skipUE rfl rfl rfl ?_
    refine SegL.skipUE rfl rfl rfl <| SegL.skipUE rfl rfl rfl <| SegL.skipUE rfl rfl rfl <| SegL.skipUE rfl rfl rfl <| SegL.skipUE rfl rfl rfl <| SegL.skipUE rfl rfl rfl <| SegL.skipUE rfl rfl rfl <| SegL.skipUE rfl rfl rfl ?_
    refine SegL.skipGE rfl rfl rfl rfl <| SegL.opE (OpT.pickT rfl rfl) rfl <| SegL.doneE <| EndL.is (t := 0) rfl <| EndL.is (t := 4) rfl <| EndL.is (t := 7) rfl <| EndL.is (t := 8) rfl <| EndL.is (t := 9) rfl ?_
    refine EndL.is (t := 14) rfl <| EndL.is (t := 15) rfl <| EndL.is (t := 16) rfl <| EndL.is (t := 53) rfl <| EndL.seg <| Seg.nilT <| Wp.condT rfl <| Wp.sr ?_
    refine Seg.op (OpT.assign rfl) rfl <| Seg.nilT <| Wp.ret <| At.blk_r <| At.then_r <| At.then_r <| At.blk_r <| At.blk_r ?_
    refine At.then_r <| At.then_r <| At.blk_r <| At.then_r ?_
    obtain rfl := Option.some.inj hd
    exact At.res1 rfl (RV.tmp (v := (.bool false)) rfl) (fun w hs => ⟨rfl, (hs.dropN 2).weaken (hl254.trans hl348)⟩)
   replace hd := brF hg375 hd
   have hg375_ := of_decide_eq_false hg375
   rcases Bool.eq_false_or_eq_true (decide ((a0.length:Int) ≤ x353.2.2)) with hg377 | hg377
   ·
    replace hd := brT hg377 hd
    have hg377_ := of_decide_eq_true hg377
    have hb376 := hv2.le
    refine Wp.drawE 33 follows rfl (by kernel_rfl) <| SegL.opE (OpT.fld (o' := 0) fl50_0 rfl rfl) rfl <| SegL.opE (OpT.ldBlk (i := 0) (v := (.int .u8 x353.1)) Tryd.underlying5 rfl rfl rfl rfl) rfl <| SegL.opE (OpT.fld (o' := 1) fl50_1 rfl rfl) rfl <| SegL.opE (OpT.ldBlk (i := 0) (v := (.int .u8 x353.2.1)) Tryd.underlying5 rfl rfl rfl rfl) rfl <| SegL.opE (OpT.asB (b := decide (x353.2.1 < x353.1)) (c := false) (OpT.gtr rfl rfl) hg374) rfl <| SegL.opE (OpT.move rfl) rfl <| SegL.opGE rfl rfl (OpT.fld (o' := 2) fl50_2 rfl rfl) rfl ?_
    refine SegL.opGE rfl rfl (OpT.ldBlk (i := 0) (v := (.int .i64 x353.2.2)) Tryd.underlying3 rfl rfl rfl rfl) rfl <| SegL.opGE rfl rfl (OpT.asB (b := decide (x353.2.2 < 0)) (c := false) (OpT.lss rfl rfl) hg375) rfl <| SegL.opE (OpT.pickF rfl rfl) rfl <| SegL.opE (OpT.move rfl) rfl <| SegL.opGE rfl rfl (OpT.fld (o' := 2) fl50_2 rfl rfl) rfl <| SegL.opGE rfl rfl (OpT.ldBlk (i := 0) (v := (.int .i64 x353.2.2)) Tryd.underlying3 rfl rfl rfl rfl) rfl <| SegL.opGE rfl rfl (OpT.move rfl) rfl <| SegL.opGE rfl rfl (OpT.len Tryd.underlying22 rfl (hv2.mono (hl254.trans hl348)).sl) rfl ?_
    refine SegL.opGE rfl rfl (OpT.asB (b := decide ((a0.length:Int) ≤ x353.2.2)) (c := true) (OpT.geq rfl rfl) hg377) rfl <| SegL.opE (OpT.pickF rfl rfl) rfl <| SegL.opE (OpT.move rfl) rfl <| SegL.skipGE rfl rfl rfl rfl <| SegL.skipGE rfl rfl rfl rfl <| SegL.skipGE rfl rfl rfl rfl <| SegL.skipUE rfl rfl rfl <| SegL.skipUE rfl rfl rfl ?_
    refine SegL.skipUE rfl rfl rfl <| SegL.skipUE rfl rfl rfl <| SegL.skipUE rfl rfl rfl <| SegL.skipUE rfl rfl rfl <| SegL.skipUE rfl rfl rfl <| SegL.skipUE rfl rfl rfl <| SegL.skipUE rfl rfl rfl <| SegL.skipUE rfl rfl rfl ?_
    refine SegL.skipGE rfl rfl rfl rfl <| SegL.opE (OpT.pickT rfl rfl) rfl <| SegL.doneE <| EndL.is (t := 0) rfl <| EndL.is (t := 4) rfl <| EndL.is (t := 7) rfl <| EndL.is (t := 8) rfl <| EndL.is (t := 9) rfl ?_
    refine EndL.is (t := 14) rfl <| EndL.is (t := 15) rfl <| EndL.is (t := 16) rfl <| EndL.is (t := 53) rfl <| EndL.seg <| Seg.nilT <| Wp.condT rfl <| Wp.sr ?_
    refine Seg.op (OpT.assign rfl) rfl <| Seg.nilT <| Wp.ret <| At.blk_r <| At.then_r <| At.then_r <| At.blk_r <| At.blk_r ?_
    refine At.then_r <| At.then_r <| At.blk_r <| At.then_r ?_
    obtain rfl := Option.some.inj hd
    exact At.res1 rfl (RV.tmp (v := (.bool false)) rfl) (fun w hs => ⟨rfl, (hs.dropN 2).weaken (hl254.trans hl348)⟩)
   replace hd := brF hg377 hd
   have hg377_ := of_decide_eq_false hg377
   rcases Bool.eq_false_or_eq_true (decide (0 < (k343:Int))) with hg378 | hg378
   ·
    replace hd := brT hg378 hd
    have hg378_ := of_decide_eq_true hg378
    replace hd := chk_some hd; obtain ⟨ha379, hd⟩ := hd
    obtain ⟨x380, hx381, hd⟩ := bnd_some hd
    have hx381_ := idx_bd hx381
    have hb376 := hv2.le
    obtain ⟨_, ⟨_, _, rfl, ⟨rfl, hr383, hr384⟩, ⟨_, _, rfl, ⟨rfl, hr385, hr386⟩, rfl⟩⟩, hc382⟩ := SlD.get (hv263.mono hl348) hx381
    refine Wp.drawE 33 follows rfl (by kernel_rfl) <| SegL.opE (OpT.fld (o' := 0) fl50_0 rfl rfl) rfl <| SegL.opE (OpT.ldBlk (i := 0) (v := (.int .u8 x353.1)) Tryd.underlying5 rfl rfl rfl rfl) rfl <| SegL.opE (OpT.fld (o' := 1) fl50_1 rfl rfl) rfl <| SegL.opE (OpT.ldBlk (i := 0) (v := (.int .u8 x353.2.1)) Tryd.underlying5 rfl rfl rfl rfl) rfl <| SegL.opE (OpT.asB (b := decide (x353.2.1 < x353.1)) (c := false) (OpT.gtr rfl rfl) hg374) rfl <| SegL.opE (OpT.move rfl) rfl <| SegL.opGE rfl rfl (OpT.fld (o' := 2) fl50_2 rfl rfl) rfl ?_
    refine SegL.opGE rfl rfl (OpT.ldBlk (i := 0) (v := (.int .i64 x353.2.2)) Tryd.underlying3 rfl rfl rfl rfl) rfl <| SegL.opGE rfl rfl (OpT.asB (b := decide (x353.2.2 < 0)) (c := false) (OpT.lss rfl rfl) hg375) rfl <| SegL.opE (OpT.pickF rfl rfl) rfl <| SegL.opE (OpT.move rfl) rfl <| SegL.opGE rfl rfl (OpT.fld (o' := 2) fl50_2 rfl rfl) rfl <| SegL.opGE rfl rfl (OpT.ldBlk (i := 0) (v := (.int .i64 x353.2.2)) Tryd.underlying3 rfl rfl rfl rfl) rfl <| SegL.opGE rfl rfl (OpT.move rfl) rfl <| SegL.opGE rfl rfl (OpT.len Tryd.underlying22 rfl (hv2.mono (hl254.trans hl348)).sl) rfl ?_
    refine SegL.opGE rfl rfl (OpT.asB (b := decide ((a0.length:Int) ≤ x353.2.2)) (c := false) (OpT.geq rfl rfl) hg377) rfl <| SegL.opE (OpT.pickF rfl rfl) rfl <| SegL.opE (OpT.move rfl) rfl <| SegL.opGE rfl rfl (OpT.move rfl) rfl <| SegL.opGE rfl rfl (OpT.asB (b := decide (0 < (k343:Int))) (c := true) (OpT.gtr rfl rfl) hg378) rfl <| SegL.opGE rfl rfl (OpT.move rfl) rfl <| SegL.opGE rfl rfl (OpT.fld (o' := 1) fl40_1 rfl rfl) rfl <| SegL.opGE rfl rfl (OpT.ldBlk (i := 1) (v := v262) Tryd.underlying38 rfl rfl rfl rfl) rfl ?_
    refine SegL.opGE rfl rfl (OpT.move rfl) rfl <| SegL.opGE rfl rfl (OpT.sub rfl rfl (fits64 ha379)) rfl <| SegL.opGE rfl rfl (OpT.ixSl Tryd.underlying38 ti50 rfl (hv263.mono hl348).sl rfl (idx_bd hx381)) rfl <| SegL.opGE rfl rfl (OpT.fldE fl50_1 rfl (hv263.mono hl348).sl (by omega)) rfl <| SegL.opGE rfl rfl (OpT.ldH Tryd.underlying5 rfl rfl (hc382 1 _ rfl)) rfl <| SegL.opGE rfl rfl (OpT.fld (o' := 0) fl50_0 rfl rfl) rfl <| SegL.opGE rfl rfl (OpT.ldBlk (i := 0) (v := (.int .u8 x353.1)) Tryd.underlying5 rfl rfl rfl rfl) rfl <| SegL.opGE rfl rfl (OpT.geq rfl rfl) rfl ?_
    refine SegL.opGE rfl rfl (OpT.pickT rfl rfl) rfl <| SegL.opE (OpT.pickF rfl rfl) rfl <| SegL.doneE <| EndL.is (t := 0) rfl <| EndL.is (t := 4) rfl <| EndL.is (t := 7) rfl <| EndL.is (t := 8) rfl <| EndL.is (t := 9) rfl ?_
    refine EndL.is (t := 14) rfl <| EndL.is (t := 15) rfl <| EndL.is (t := 16) rfl <| EndL.is (t := 53) rfl <| EndL.seg <| Seg.nilT ?_
    refine Wp.cond (b := decide (x353.1 ≤ x380.2.1)) rfl (fun hb387 => ?_) (fun hb387 => ?_)
    ·
     replace hd := brT hb387 hd
     replace hb387 := of_decide_eq_true hb387
     refine Wp.sr <| Seg.op (OpT.assign rfl) rfl <| Seg.nilT <| Wp.ret <| At.blk_r <| At.then_r <| At.then_r <| At.blk_r ?_
     refine At.blk_r <| At.then_r <| At.then_r <| At.blk_r <| At.then_r ?_
     obtain rfl := Option.some.inj hd
     exact At.res1 rfl (RV.tmp (v := (.bool false)) rfl) (fun w hs => ⟨rfl, (hs.dropN 2).weaken (hl254.trans hl348)⟩)
    replace hd := brF hb387 hd
    replace hb387 := of_decide_eq_false hb387
    refine Wp.skip <| At.blk_n <| At.then_n <| Wp.region <| Seg.op (OpT.add rfl rfl (fits64 (by omega))) rfl <| Seg.op (OpT.move rfl) rfl <| Seg.nil <| At.permK [1] 2 rfl rfl rfl ?_
    refine At.nextE (L' := [(0, v1), (4, (ptr B264 0)), (7, v1), (8, (.int .i64 (a0.length:Int))), (9, (.int .i64 (k249:Int))), (14, v262), (15, (.int .i64 (x259.2.length:Int))), (16, (.int .i64 ((k343 + 1 : Nat) : Int)))]) m346 (Nat.lt_succ_self _) (Hp.le.refl _) (.cons rfl (.cons rfl (.cons rfl (.cons rfl (.cons rfl (.cons rfl (.cons rfl (.cons (lk_int rfl (by omega)) (.nil))))))))) ⟨(k343 + 1), rfl, rfl, (by rw [← hn351]; exact hd)⟩
   replace hd := brF hg378 hd
   have hg378_ := of_decide_eq_false hg378
   have hb376 := hv2.le
   refine Wp.drawE 33 follows rfl (by kernel_rfl) <| SegL.opE (OpT.fld (o' := 0) fl50_0 rfl rfl) rfl <| SegL.opE (OpT.ldBlk (i := 0) (v := (.int .u8 x353.1)) Tryd.underlying5 rfl rfl rfl rfl) rfl <| SegL.opE (OpT.fld (o' := 1) fl50_1 rfl rfl) rfl <| SegL.opE (OpT.ldBlk (i := 0) (v := (.int .u8 x353.2.1)) Tryd.underlying5 rfl rfl rfl rfl) rfl <| SegL.opE (OpT.asB (b := decide (x353.2.1 < x353.1)) (c := false) (OpT.gtr rfl rfl) hg374) rfl <| SegL.opE (OpT.move rfl) rfl <| SegL.opGE rfl rfl (OpT.fld (o' := 2) fl50_2 rfl rfl) rfl ?_
   refine SegL.opGE rfl rfl (OpT.ldBlk (i := 0) (v := (.int .i64 x353.2.2)) Tryd.underlying3 rfl rfl rfl rfl) rfl <| SegL.opGE rfl rfl (OpT.asB (b := decide (x353.2.2 < 0)) (c := false) (OpT.lss rfl rfl) hg375) rfl <| SegL.opE (OpT.pickF rfl rfl) rfl <| SegL.opE (OpT.move rfl) rfl <| SegL.opGE rfl rfl (OpT.fld (o' := 2) fl50_2 rfl rfl) rfl <| SegL.opGE rfl rfl (OpT.ldBlk (i := 0) (v := (.int .i64 x353.2.2)) Tryd.underlying3 rfl rfl rfl rfl) rfl <| SegL.opGE rfl rfl (OpT.move rfl) rfl <| SegL.opGE rfl rfl (OpT.len Tryd.underlying22 rfl (hv2.mono (hl254.trans hl348)).sl) rfl ?_
   refine SegL.opGE rfl rfl (OpT.asB (b := decide ((a0.length:Int) ≤ x353.2.2)) (c := false) (OpT.geq rfl rfl) hg377) rfl <| SegL.opE (OpT.pickF rfl rfl) rfl <| SegL.opE (OpT.move rfl) rfl <| SegL.opGE rfl rfl (OpT.move rfl) rfl <| SegL.opGE rfl rfl (OpT.asB (b := decide (0 < (k343:Int))) (c := false) (OpT.gtr rfl rfl) hg378) rfl <| SegL.opGE rfl rfl (OpT.move rfl) rfl <| SegL.skipGE rfl rfl rfl rfl <| SegL.skipGE rfl rfl rfl rfl ?_
   refine SegL.skipGE rfl rfl rfl rfl <| SegL.skipGE rfl rfl rfl rfl <| SegL.skipGE rfl rfl rfl rfl <| SegL.skipGE rfl rfl rfl rfl <| SegL.skipGE rfl rfl rfl rfl <| SegL.skipGE rfl rfl rfl rfl <| SegL.skipGE rfl rfl rfl rfl <| SegL.skipGE rfl rfl rfl rfl ?_
   refine SegL.opGE rfl rfl (OpT.pickF rfl rfl) rfl <| SegL.opE (OpT.pickF rfl rfl) rfl <| SegL.doneE <| EndL.is (t := 0) rfl <| EndL.is (t := 4) rfl <| EndL.is (t := 7) rfl <| EndL.is (t := 8) rfl <| EndL.is (t := 9) rfl ?_
   refine EndL.is (t := 14) rfl <| EndL.is (t := 15) rfl <| EndL.is (t := 16) rfl <| EndL.is (t := 53) rfl <| EndL.seg <| Seg.nilT <| Wp.condF rfl <| Wp.skip ?_
   refine At.blk_n <| At.then_n <| Wp.region <| Seg.op (OpT.add rfl rfl (fits64 (by omega))) rfl <| Seg.op (OpT.move rfl) rfl <| Seg.nil <| At.permK [1] 2 rfl rfl rfl ?_
   refine At.nextE (L' := [(0, v1), (4, (ptr B264 0)), (7, v1), (8, (.int .i64 (a0.length:Int))), (9, (.int .i64 (k249:Int))), (14, v262), (15, (.int .i64 (x259.2.length:Int))), (16, (.int .i64 ((k343 + 1 : Nat) : Int)))]) m346 (Nat.lt_succ_self _) (Hp.le.refl _) (.cons rfl (.cons rfl (.cons rfl (.cons rfl (.cons rfl (.cons rfl (.cons rfl (.cons (lk_int rfl (by omega)) (.nil))))))))) ⟨(k343 + 1), rfl, rfl, (by rw [← hn351]; exact hd)⟩
  replace hd := brF hb352 hd
  replace hb352 := of_decide_eq_false hb352
  refine Wp.exit <| At.then_x <| At.then_x <| At.blk_hit <| At.blk_n <| At.then_n <| Wp.region <| Seg.op (OpT.add rfl rfl (fits64 (by omega))) rfl ?_
  refine Seg.op (OpT.move rfl) rfl <| Seg.nil <| At.permK [] 1 rfl rfl rfl ?_
  refine At.nextE (L' := [(0, v1), (7, v1), (8, (.int .i64 (a0.length:Int))), (9, (.int .i64 ((k249 + 1 : Nat) : Int)))]) m252 (Nat.lt_succ_self _) hl348 (.cons rfl (.cons rfl (.cons rfl (.cons (lk_int rfl (by omega)) (.nil))))) ⟨(k249 + 1), rfl, rfl, (by rw [← hn257]; exact hd)⟩
 replace hd := brF hb258 hd
 replace hb258 := of_decide_eq_false hb258
 refine Wp.exit <| At.then_x <| At.then_x <| At.blk_hit <| At.then_n <| Wp.sr <| Seg.op (OpT.assign rfl) rfl <| Seg.nilT ?_
 refine Wp.ret ?_
 obtain rfl := Option.some.inj hd
 exact At.res1 rfl (RV.tmp (v := (.bool true)) rfl) (fun w hs => ⟨rfl, (hs.dropN 0).weaken hl254⟩)

set_option maxRecDepth 100000 in
set_option maxHeartbeats 4000000 in
theorem au_Accepts_w {fu : Nat} {a0 : List (Bool × (List (Int × Int × Int)))} {a1 : Str} {v1 : Value} {r : Bool} (hv2 : SlD (cP cB (cL (cP cU8 (cP cU8 cI64)))) H a0 v1) (hd : au_Accepts fu a0 a1 = some r) :
    TriV Tryd.prog 8 [(.agg #[v1]), (sv a1)] H O (.bool r) := by
 intro w hs
 refine wp_of Tryd.func8 rfl rfl rfl ?_ hs
 clear hs w
 unfold au_Accepts at hd
 refine Wp.sr <| Seg.box (cs := #[v1]) rfl rfl rfl fun B3 => Seg.op (OpT.assign rfl) rfl <| Seg.nilT <| Wp.scope <| Wp.seq <| Wp.seq ?_
 rcases Bool.eq_false_or_eq_true (decide ((a0.length:Int) = 0)) with hg5 | hg5
 ·
  replace hd := brT hg5 hd
  have hg5_ := of_decide_eq_true hg5
  refine Wp.region <| Seg.op (OpT.fld (o' := 0) fl26_0 rfl rfl) rfl <| Seg.op (OpT.ldBlk (i := 0) (v := v1) Tryd.underlying22 rfl rfl rfl rfl) rfl ?_
  have hb4 := hv2.le
  refine Seg.op (OpT.len Tryd.underlying22 rfl hv2.sl) rfl <| Seg.op (OpT.asB (b := decide ((a0.length:Int) = 0)) (c := true) (OpT.eql rfl rfl) hg5) rfl <| Seg.op (OpT.move rfl) rfl <| Seg.skipG rfl rfl rfl rfl <| Seg.skipG rfl rfl rfl rfl <| Seg.skipG rfl rfl rfl rfl <| Seg.skipG rfl rfl rfl rfl <| Seg.op (OpT.pickT rfl rfl) rfl ?_
  refine Seg.nilT <| Wp.condT rfl <| Wp.sr <| Seg.op (OpT.assign rfl) rfl <| Seg.nilT <| Wp.ret <| At.then_r <| At.ng_r ?_
  obtain rfl := Option.some.inj hd
  exact At.res1 rfl (RV.tmp (v := (.bool false)) rfl) (fun w hs => ⟨rfl, (hs.dropN 1).weaken (Hp.le.refl _)⟩)
 replace hd := brF hg5 hd
 have hg5_ := of_decide_eq_false hg5
 obtain ⟨x6, hx7, hd⟩ := bnd_some hd
 refine Wp.region <| Seg.op (OpT.fld (o' := 0) fl26_0 rfl rfl) rfl <| Seg.op (OpT.ldBlk (i := 0) (v := v1) Tryd.underlying22 rfl rfl rfl rfl) rfl ?_
 have hb4 := hv2.le
 refine Seg.op (OpT.len Tryd.underlying22 rfl hv2.sl) rfl <| Seg.op (OpT.asB (b := decide ((a0.length:Int) = 0)) (c := false) (OpT.eql rfl rfl) hg5) rfl <| Seg.op (OpT.move rfl) rfl <| Seg.opG rfl rfl (OpT.fld (o' := 0) fl26_0 rfl rfl) rfl <| Seg.opG rfl rfl (OpT.ldBlk (i := 0) (v := v1) Tryd.underlying22 rfl rfl rfl rfl) rfl <| Seg.opG rfl rfl (OpT.call ent19 rfl (au_wellFormed_w hv2 hx7)) rfl <| Seg.opG rfl rfl (OpT.not rfl) rfl <| Seg.op (OpT.pickF rfl rfl) rfl ?_
 refine Seg.nilT ?_
 refine Wp.cond (b := !x6) rfl (fun hb8 => ?_) (fun hb8 => ?_)
 ·
  replace hd := brT hb8 hd
  refine Wp.sr <| Seg.op (OpT.assign rfl) rfl <| Seg.nilT <| Wp.ret <| At.then_r <| At.ng_r ?_
  obtain rfl := Option.some.inj hd
  exact At.res1 rfl (RV.tmp (v := (.bool false)) rfl) (fun w hs => ⟨rfl, (hs.dropN 1).weaken (Hp.le.refl _)⟩)
 replace hd := brF hb8 hd
 refine Wp.skip <| At.then_n <| Wp.sr <| Seg.op (OpT.assign rfl) rfl <| Seg.nilT <| Wp.seq <| Wp.label <| At.then_n ?_
 refine Wp.seq <| Wp.sr <| Seg.op (OpT.move rfl) rfl <| Seg.op (OpT.lenS Tryd.underlying9 rfl) rfl <| Seg.op (OpT.move rfl) rfl <| Seg.nilT <| Wp.block <| Wp.sub (L' := [(1, (sv a1)), (2, (ptr B3 0)), (5, (.int .i64 0)), (20, (.int .i64 (a1.length:Int))), (21, (.int .i64 0))]) (.cons rfl (.cons rfl (.cons rfl (.cons rfl (.cons rfl (.nil)))))) ?_
 refine Wp.loopE (fun m LL HH OO => ∃ (i230 : Int), ∃ (i231 : Int), [(1, (sv a1)), (2, (ptr B3 0)), (5, (.int .i64 i230)), (20, (.int .i64 (a1.length:Int))), (21, (.int .i64 i231))] = LL ∧ .blk B3 (.cells #[v1] 26 (0, 0)) :: O = OO ∧ loopK m (fun p nx => au_Accepts_b1 fu a0 a1 p.1 p.2 nx) (i230, i231) = some r) fu ⟨0, 0, rfl, rfl, hd⟩ ?_
 intro m233 L237 H235 O238 hl236 hI232
 obtain ⟨i230, i231, rfl, rfl, hd⟩ := hI232
 replace hd := loopK_some hd; obtain ⟨m234, rfl, hd⟩ := hd
 obtain ⟨nx229, hn239⟩ : ∃ f, f = loopK m234 (fun p nx => au_Accepts_b1 fu a0 a1 p.1 p.2 nx) := ⟨_, rfl⟩
 rw [← hn239] at hd
 replace hd : au_Accepts_b1 fu a0 a1 i230 i231 nx229 = some r := hd
 unfold au_Accepts_b1 at hd
 refine Wp.sr <| Seg.op (OpT.lss rfl rfl) rfl <| Seg.nilT <| Wp.seq ?_
 refine Wp.cond (b := decide (i231 < (a1.length:Int))) rfl (fun hb240 => ?_) (fun hb240 => ?_)
 ·
  replace hd := brT hb240 hd
  replace hb240 := of_decide_eq_true hb240
  refine Wp.skip <| At.then_n <| Wp.seq <| Wp.block <| Wp.sr <| Seg.op (OpT.move rfl) rfl <| Seg.op (OpT.assign rfl) rfl <| Seg.nilT ?_
  refine Wp.seq <| Wp.seq ?_
  obtain ⟨x241, hx242, hd⟩ := bnd_some hd
  have hx242_ := idx_bd hx242
  refine Wp.region <| Seg.op (OpT.fld (o' := 0) fl26_0 rfl rfl) rfl <| Seg.op (OpT.ldBlk (i := 0) (v := v1) Tryd.underlying22 rfl rfl rfl rfl) rfl <| Seg.op (OpT.move rfl) rfl ?_
  obtain ⟨_, ⟨_, _, rfl, rfl, ⟨v244, rfl, hv245⟩⟩, hc243⟩ := SlD.get (hv2.mono hl236) hx242
  refine Seg.op (OpT.ixSl Tryd.underlying22 ti40 rfl (hv2.mono hl236).sl rfl (idx_bd hx242)) rfl <| Seg.op (OpT.fldE fl40_1 rfl (hv2.mono hl236).sl (by omega)) rfl <| Seg.op (OpT.ldH Tryd.underlying38 rfl rfl (hc243 1 _ rfl)) rfl ?_
  have hb246 := hv245.le
  refine Seg.op (OpT.len Tryd.underlying38 rfl hv245.sl) rfl <| Seg.op (OpT.move rfl) rfl <| Seg.nilT <| Wp.block <| Wp.sub (L' := [(1, (sv a1)), (2, (ptr B3 0)), (6, (.int .i64 i231)), (20, (.int .i64 (a1.length:Int))), (21, (.int .i64 i231)), (29, v244), (30, (.int .i64 (x241.2.length:Int))), (31, (.int .i64 ((0 : Nat) : Int)))]) (.cons rfl (.cons rfl (.cons rfl (.cons rfl (.cons rfl (.cons rfl (.cons rfl (.cons (lk_int rfl (by omega)) (.nil))))))))) <| Wp.loopE (fun m LL HH OO => ∃ (k291 : Nat), [(1, (sv a1)), (2, (ptr B3 0)), (6, (.int .i64 i231)), (20, (.int .i64 (a1.length:Int))), (21, (.int .i64 i231)), (29, v244), (30, (.int .i64 (x241.2.length:Int))), (31, (.int .i64 (k291:Int)))] = LL ∧ .blk B3 (.cells #[v1] 26 (0, 0)) :: O = OO ∧ loopK m (au_Accepts_b2 fu a1 i231 nx229 x241) k291 = some r) fu ⟨0, rfl, rfl, hd⟩ ?_
  intro m293 L297 H295 O298 hl296 hI292
  obtain ⟨k291, rfl, rfl, hd⟩ := hI292
  replace hd := loopK_some hd; obtain ⟨m294, rfl, hd⟩ := hd
  obtain ⟨nx290, hn299⟩ : ∃ f, f = loopK m294 (au_Accepts_b2 fu a1 i231 nx229 x241) := ⟨_, rfl⟩
  rw [← hn299] at hd
  replace hd : au_Accepts_b2 fu a1 i231 nx229 x241 k291 nx290 = some r := hd
  unfold au_Accepts_b2 at hd
  refine Wp.sr <| Seg.op (OpT.lss rfl rfl) rfl <| Seg.nilT <| Wp.seq ?_
  refine Wp.cond (b := decide ((k291:Int) < (x241.2.length:Int))) rfl (fun hb300 => ?_) (fun hb300 => ?_)
  ·
   replace hd := brT hb300 hd
   replace hb300 := of_decide_eq_true hb300
   refine Wp.skip <| At.then_n <| Wp.seq <| Wp.block <| Wp.seq ?_
   obtain ⟨x301, hx302, hd⟩ := bnd_some hd
   have hx302_ := idx_bd hx302
   refine Wp.region ?_
   obtain ⟨_, ⟨_, _, rfl, ⟨rfl, hr304, hr305⟩, ⟨_, _, rfl, ⟨rfl, hr306, hr307⟩, rfl⟩⟩, hc303⟩ := SlD.get (hv245.mono hl296) hx302
   refine Seg.op (OpT.ixSl Tryd.underlying38 ti50 rfl (hv245.mono hl296).sl rfl (idx_bd hx302)) rfl <| Seg.op (OpT.ldHA (vs := [(.int .u8 x301.1), (.int .u8 x301.2.1), (.int .i64 x301.2.2)]) Tryd.underlying50 rfl ti50 rfl rfl (fun j u hj => (hc303 j u hj))) rfl <| Seg.alloc (cs := #[(.int .u8 0), (.int .u8 0), (.int .i64 0)]) ti50 rfl rfl fun B308 => Seg.stBlkW (i := 0) (cs' := #[(.int .u8 x301.1), (.int .u8 x301.2.1), (.int .i64 x301.2.2)]) rfl rfl ti50 rfl rfl (onesA (ones_cons rfl (ones_cons rfl (ones_cons rfl (ones_nil))))) rfl ?_
   refine Seg.own (O := .blk B308 (.cells #[(.int .u8 x301.1), (.int .u8 x301.2.1), (.int .i64 x301.2.2)] 50 (0, 0)) :: .blk B3 (.cells #[v1] 26 (0, 0)) :: O) ?_ rfl
   refine Seg.nilT <| Wp.seq ?_
   obtain ⟨x314, hx315, hd⟩ := bnd_some hd
   have hx315_ := idxS_bd hx315
   rcases Bool.eq_false_or_eq_true (decide (x301.1 ≤ x314)) with hg316 | hg316
   ·
    replace hd := brT hg316 hd
    have hg316_ := of_decide_eq_true hg316
    obtain ⟨x317, hx318, hd⟩ := bnd_some hd
    have hx318_ := idxS_bd hx318
    refine Wp.drawE 14 follows rfl (by kernel_rfl) <| SegL.opE (OpT.fld (o' := 0) fl50_0 rfl rfl) rfl <| SegL.opE (OpT.ldBlk (i := 0) (v := (.int .u8 x301.1)) Tryd.underlying5 rfl rfl rfl rfl) rfl <| SegL.opE (OpT.move rfl) rfl <| SegL.opE (OpT.move rfl) rfl <| SegL.opE (OpT.byteS Tryd.underlying9 rfl rfl hx315) rfl <| SegL.opE (OpT.asB (b := decide (x301.1 ≤ x314)) (c := true) (OpT.leq rfl rfl) hg316) rfl <| SegL.opE (OpT.move rfl) rfl ?_
    refine SegL.opGE rfl rfl (OpT.move rfl) rfl <| SegL.opGE rfl rfl (OpT.move rfl) rfl <| SegL.opGE rfl rfl (OpT.byteS Tryd.underlying9 rfl rfl hx318) rfl <| SegL.opGE rfl rfl (OpT.fld (o' := 1) fl50_1 rfl rfl) rfl <| SegL.opGE rfl rfl (OpT.ldBlk (i := 0) (v := (.int .u8 x301.2.1)) Tryd.underlying5 rfl rfl rfl rfl) rfl <| SegL.opGE rfl rfl (OpT.leq rfl rfl) rfl <| SegL.opE (OpT.pickT rfl rfl) rfl <| SegL.doneE ?_
    refine EndL.is (t := 1) rfl <| EndL.is (t := 2) rfl <| EndL.is (t := 6) rfl <| EndL.is (t := 8) rfl <| EndL.is (t := 20) rfl <| EndL.is (t := 21) rfl <| EndL.is (t := 29) rfl <| EndL.is (t := 30) rfl ?_
    refine EndL.is (t := 31) rfl <| EndL.is (t := 48) rfl <| EndL.seg <| Seg.nilT ?_
    refine Wp.cond (b := decide (x317 ≤ x301.2.1)) rfl (fun hb319 => ?_) (fun hb319 => ?_)
    ·
     replace hd := brT hb319 hd
     replace hb319 := of_decide_eq_true hb319
     refine Wp.sr <| Seg.op (OpT.fld (o' := 2) fl50_2 rfl rfl) rfl <| Seg.op (OpT.ldBlk (i := 0) (v := (.int .i64 x301.2.2)) Tryd.underlying3 rfl rfl rfl rfl) rfl <| Seg.op (OpT.assign rfl) rfl <| Seg.nilT <| Wp.exit <| At.blk_miss rfl <| At.then_x ?_
     refine At.then_x <| At.blk_miss rfl <| At.then_x <| At.blk_hit <| At.then_n ?_
     replace hd := chk_some hd; obtain ⟨ha320, hd⟩ := hd
     refine Wp.region <| Seg.op (OpT.add rfl rfl (fits64 ha320)) rfl <| Seg.op (OpT.move rfl) rfl <| Seg.nil <| At.permK [1] 2 rfl rfl rfl ?_
     refine At.nextE (L' := [(1, (sv a1)), (2, (ptr B3 0)), (5, (.int .i64 x301.2.2)), (20, (.int .i64 (a1.length:Int))), (21, (.int .i64 (i231 + 1)))]) m234 (Nat.lt_succ_self _) hl296 (.cons rfl (.cons rfl (.cons rfl (.cons rfl (.cons rfl (.nil)))))) ⟨x301.2.2, (i231 + 1), rfl, rfl, (by rw [← hn239]; exact hd)⟩
    replace hd := brF hb319 hd
    replace hb319 := of_decide_eq_false hb319
    refine Wp.skip <| At.blk_n <| At.then_n <| Wp.region <| Seg.op (OpT.add rfl rfl (fits64 (by omega))) rfl <| Seg.op (OpT.move rfl) rfl <| Seg.nil <| At.permK [1] 2 rfl rfl rfl ?_
    refine At.nextE (L' := [(1, (sv a1)), (2, (ptr B3 0)), (6, (.int .i64 i231)), (20, (.int .i64 (a1.length:Int))), (21, (.int .i64 i231)), (29, v244), (30, (.int .i64 (x241.2.length:Int))), (31, (.int .i64 ((k291 + 1 : Nat) : Int)))]) m294 (Nat.lt_succ_self _) (Hp.le.refl _) (.cons rfl (.cons rfl (.cons rfl (.cons rfl (.cons rfl (.cons rfl (.cons rfl (.cons (lk_int rfl (by omega)) (.nil))))))))) ⟨(k291 + 1), rfl, rfl, (by rw [← hn299]; exact hd)⟩
   replace hd := brF hg316 hd
   have hg316_ := of_decide_eq_false hg316
   refine Wp.drawE 14 follows rfl (by kernel_rfl) <| SegL.opE (OpT.fld (o' := 0) fl50_0 rfl rfl) rfl <| SegL.opE (OpT.ldBlk (i := 0) (v := (.int .u8 x301.1)) Tryd.underlying5 rfl rfl rfl rfl) rfl <| SegL.opE (OpT.move rfl) rfl <| SegL.opE (OpT.move rfl) rfl <| SegL.opE (OpT.byteS Tryd.underlying9 rfl rfl hx315) rfl <| SegL.opE (OpT.asB (b := decide (x301.1 ≤ x314)) (c := false) (OpT.leq rfl rfl) hg316) rfl <| SegL.opE (OpT.move rfl) rfl ?_
   refine SegL.skipGE rfl rfl rfl rfl <| SegL.skipGE rfl rfl rfl rfl <| SegL.skipGE rfl rfl rfl rfl <| SegL.skipGE rfl rfl rfl rfl <| SegL.skipGE rfl rfl rfl rfl <| SegL.skipGE rfl rfl rfl rfl <| SegL.opE (OpT.pickF rfl rfl) rfl <| SegL.doneE ?_
   refine EndL.is (t := 1) rfl <| EndL.is (t := 2) rfl <| EndL.is (t := 6) rfl <| EndL.is (t := 8) rfl <| EndL.is (t := 20) rfl <| EndL.is (t := 21) rfl <| EndL.is (t := 29) rfl <| EndL.is (t := 30) rfl ?_
   refine EndL.is (t := 31) rfl <| EndL.is (t := 48) rfl <| EndL.seg <| Seg.nilT <| Wp.condF rfl <| Wp.skip <| At.blk_n <| At.then_n ?_
   refine Wp.region <| Seg.op (OpT.add rfl rfl (fits64 (by omega))) rfl <| Seg.op (OpT.move rfl) rfl <| Seg.nil <| At.permK [1] 2 rfl rfl rfl ?_
   refine At.nextE (L' := [(1, (sv a1)), (2, (ptr B3 0)), (6, (.int .i64 i231)), (20, (.int .i64 (a1.length:Int))), (21, (.int .i64 i231)), (29, v244), (30, (.int .i64 (x241.2.length:Int))), (31, (.int .i64 ((k291 + 1 : Nat) : Int)))]) m294 (Nat.lt_succ_self _) (Hp.le.refl _) (.cons rfl (.cons rfl (.cons rfl (.cons rfl (.cons rfl (.cons rfl (.cons rfl (.cons (lk_int rfl (by omega)) (.nil))))))))) ⟨(k291 + 1), rfl, rfl, (by rw [← hn299]; exact hd)⟩
  replace hd := brF hb300 hd
  replace hb300 := of_decide_eq_false hb300
  refine Wp.exit <| At.then_x <| At.then_x <| At.blk_hit <| At.then_n <| Wp.sr <| Seg.op (OpT.assign rfl) rfl <| Seg.nilT ?_
  refine Wp.ret <| At.blk_r <| At.then_r <| At.then_r <| At.blk_r <| At.then_r <| At.ng_r ?_
  obtain rfl := Option.some.inj hd
  exact At.res1 rfl (RV.tmp (v := (.bool false)) rfl) (fun w hs => ⟨rfl, (hs.dropN 1).weaken (hl236.trans hl296)⟩)
 replace hd := brF hb240 hd
 replace hb240 := of_decide_eq_false hb240
 refine Wp.exit <| At.then_x <| At.then_x <| At.blk_hit <| At.then_n <| Wp.seq ?_
 obtain ⟨x321, hx322, hd⟩ := bnd_some hd
 have hx322_ := idx_bd hx322
 refine Wp.region <| Seg.op (OpT.fld (o' := 0) fl26_0 rfl rfl) rfl <| Seg.op (OpT.ldBlk (i := 0) (v := v1) Tryd.underlying22 rfl rfl rfl rfl) rfl <| Seg.op (OpT.move rfl) rfl ?_
 obtain ⟨_, ⟨_, _, rfl, rfl, ⟨v324, rfl, hv325⟩⟩, hc323⟩ := SlD.get (hv2.mono hl236) hx322
 refine Seg.op (OpT.ixSl Tryd.underlying22 ti40 rfl (hv2.mono hl236).sl rfl (idx_bd hx322)) rfl <| Seg.op (OpT.fldE fl40_0 rfl (hv2.mono hl236).sl (by omega)) rfl <| Seg.op (OpT.ldH Tryd.underlying4 rfl rfl (hc323 0 _ rfl)) rfl <| Seg.op (OpT.assign rfl) rfl <| Seg.nilT <| Wp.ret <| At.ng_r ?_
 obtain rfl := Option.some.inj hd
 exact At.res1 rfl (RV.tmp (v := (.bool x321.1)) rfl) (fun w hs => ⟨rfl, (hs.dropN 1).weaken hl236⟩)

set_option maxRecDepth 100000 in
set_option maxHeartbeats 4000000 in
theorem slices_Equal_w {fu : Nat} {a0 : List (Int × Int × Int)} {a1 : List (Int × Int × Int)} {v1 v3 : Value} {r : Bool} (hv2 : SlD (cP cU8 (cP cU8 cI64)) H a0 v1) (hv4 : SlD (cP cU8 (cP cU8 cI64)) H a1 v3) (hd : slices_Equal fu a0 a1 = some r) :
    TriV Tryd.prog 24 [v1, v3] H O (.bool r) := by
 intro w hs
 refine wp_of Tryd.func24 rfl rfl rfl ?_ hs
 clear hs w
 unfold slices_Equal at hd
 refine Wp.sr <| Seg.op (OpT.assign rfl) rfl <| Seg.nilT <| Wp.seq <| Wp.sr <| Seg.op (OpT.move rfl) rfl ?_
 have hb5 := hv2.le
 refine Seg.op (OpT.len Tryd.underlying38 rfl hv2.sl) rfl <| Seg.op (OpT.move rfl) rfl ?_
 have hb6 := hv4.le
 refine Seg.op (OpT.len Tryd.underlying38 rfl hv4.sl) rfl <| Seg.op (OpT.neq rfl rfl) rfl <| Seg.nilT ?_
 refine Wp.cond (b := decide ((a0.length:Int) ≠ (a1.length:Int))) rfl (fun hb7 => ?_) (fun hb7 => ?_)
 ·
  replace hd := brT hb7 hd
  replace hb7 := of_decide_eq_true hb7
  refine Wp.sr <| Seg.op (OpT.assign rfl) rfl <| Seg.nilT <| Wp.ret <| At.then_r ?_
  obtain rfl := Option.some.inj hd
  exact At.res1 rfl (RV.tmp (v := (.bool false)) rfl) (fun w hs => ⟨rfl, (hs.dropN 0).weaken (Hp.le.refl _)⟩)
 replace hd := brF hb7 hd
 replace hb7 := of_decide_eq_false hb7
 refine Wp.skip <| At.then_n <| Wp.seq <| Wp.sr <| Seg.op (OpT.move rfl) rfl ?_
 have hb8 := hv2.le
 refine Seg.op (OpT.len Tryd.underlying38 rfl hv2.sl) rfl <| Seg.op (OpT.move rfl) rfl <| Seg.nilT <| Wp.block <| Wp.sub (L' := [(0, v1), (1, v3), (12, (.int .i64 (a0.length:Int))), (13, (.int .i64 ((0 : Nat) : Int)))]) (.cons rfl (.cons rfl (.cons rfl (.cons (lk_int rfl (by omega)) (.nil))))) <| Wp.loopE (fun m LL HH OO => ∃ (k72 : Nat), [(0, v1), (1, v3), (12, (.int .i64 (a0.length:Int))), (13, (.int .i64 (k72:Int)))] = LL ∧ O = OO ∧ loopK m (slices_Equal_b1 fu a0 a1) k72 = some r) fu ⟨0, rfl, rfl, hd⟩ ?_
 intro m74 L78 H76 O79 hl77 hI73
 obtain ⟨k72, rfl, rfl, hd⟩ := hI73
 replace hd := loopK_some hd; obtain ⟨m75, rfl, hd⟩ := hd
 obtain ⟨nx71, hn80⟩ : ∃ f, f = loopK m75 (slices_Equal_b1 fu a0 a1) := ⟨_, rfl⟩
 rw [← hn80] at hd
 replace hd : slices_Equal_b1 fu a0 a1 k72 nx71 = some r := hd
 unfold slices_Equal_b1 at hd
 refine Wp.sr <| Seg.op (OpT.lss rfl rfl) rfl <| Seg.nilT <| Wp.seq ?_
 refine Wp.cond (b := decide ((k72:Int) < (a0.length:Int))) rfl (fun hb81 => ?_) (fun hb81 => ?_)
 ·
  replace hd := brT hb81 hd
  replace hb81 := of_decide_eq_true hb81
  refine Wp.skip <| At.then_n <| Wp.seq <| Wp.block <| Wp.sr <| Seg.op (OpT.move rfl) rfl <| Seg.op (OpT.assign rfl) rfl <| Seg.nilT ?_
  refine Wp.seq ?_
  obtain ⟨x96, hx97, hd⟩ := bnd_some hd
  have hx97_ := idx_bd hx97
  obtain ⟨x103, hx104, hd⟩ := bnd_some hd
  have hx104_ := idx_bd hx104
  obtain ⟨_, ⟨_, _, rfl, ⟨rfl, hr99, hr100⟩, ⟨_, _, rfl, ⟨rfl, hr101, hr102⟩, rfl⟩⟩, hc98⟩ := SlD.get (hv2.mono hl77) hx97
  obtain ⟨_, ⟨_, _, rfl, ⟨rfl, hr106, hr107⟩, ⟨_, _, rfl, ⟨rfl, hr108, hr109⟩, rfl⟩⟩, hc105⟩ := SlD.get (hv4.mono hl77) hx104
  refine Wp.drawE 9 follows rfl (by kernel_rfl) <| SegL.opE (OpT.move rfl) rfl <| SegL.opE (OpT.move rfl) rfl <| SegL.opE (OpT.ixSl Tryd.underlying38 ti50 rfl (hv2.mono hl77).sl rfl (idx_bd hx97)) rfl <| SegL.opE (OpT.ldHA (vs := [(.int .u8 x96.1), (.int .u8 x96.2.1), (.int .i64 x96.2.2)]) Tryd.underlying50 rfl ti50 rfl rfl (fun j u hj => (hc98 j u hj))) rfl <| SegL.opE (OpT.move rfl) rfl <| SegL.opE (OpT.move rfl) rfl <| SegL.opE (OpT.ixSl Tryd.underlying38 ti50 rfl (hv4.mono hl77).sl rfl (idx_bd hx104)) rfl ?_
  refine SegL.opE (OpT.ldHA (vs := [(.int .u8 x103.1), (.int .u8 x103.2.1), (.int .i64 x103.2.2)]) Tryd.underlying50 rfl ti50 rfl rfl (fun j u hj => (hc105 j u hj))) rfl <| SegL.opE (OpT.neInts (xs := [x96.1, x96.2.1, x96.2.2]) (ys := [x103.1, x103.2.1, x103.2.2]) ints50 rfl rfl rfl rfl) rfl <| SegL.doneE <| EndL.is (t := 0) rfl <| EndL.is (t := 1) rfl <| EndL.is (t := 12) rfl <| EndL.is (t := 13) rfl <| EndL.is (t := 24) rfl ?_
  refine EndL.seg <| Seg.nilT ?_
  refine Wp.cond (b := !(decide (([x96.1, x96.2.1, x96.2.2] : List Int) = [x103.1, x103.2.1, x103.2.2]))) rfl (fun hb110 => ?_) (fun hb110 => ?_)
  ·
   replace hd := brT hb110 hd
   refine Wp.sr <| Seg.op (OpT.assign rfl) rfl <| Seg.nilT <| Wp.ret <| At.blk_r <| At.then_r <| At.then_r <| At.blk_r ?_
   refine At.then_r ?_
   obtain rfl := Option.some.inj hd
   exact At.res1 rfl (RV.tmp (v := (.bool false)) rfl) (fun w hs => ⟨rfl, (hs.dropN 0).weaken hl77⟩)
  replace hd := brF hb110 hd
  refine Wp.skip <| At.blk_n <| At.then_n <| Wp.region <| Seg.op (OpT.add rfl rfl (fits64 (by omega))) rfl <| Seg.op (OpT.move rfl) rfl <| Seg.nil ?_
  refine At.nextE (L' := [(0, v1), (1, v3), (12, (.int .i64 (a0.length:Int))), (13, (.int .i64 ((k72 + 1 : Nat) : Int)))]) m75 (Nat.lt_succ_self _) (Hp.le.refl _) (.cons rfl (.cons rfl (.cons rfl (.cons (lk_int rfl (by omega)) (.nil))))) ⟨(k72 + 1), rfl, rfl, (by rw [← hn80]; exact hd)⟩
 replace hd := brF hb81 hd
 replace hb81 := of_decide_eq_false hb81
 refine Wp.exit <| At.then_x <| At.then_x <| At.blk_hit <| At.then_n <| Wp.sr <| Seg.op (OpT.assign rfl) rfl <| Seg.nilT ?_
 refine Wp.ret ?_
 obtain rfl := Option.some.inj hd
 exact At.res1 rfl (RV.tmp (v := (.bool true)) rfl) (fun w hs => ⟨rfl, (hs.dropN 0).weaken hl77⟩)

set_option maxRecDepth 100000 in
set_option maxHeartbeats 4000000 in
theorem r05_Same_w {fu : Nat} {a0 : List (Bool × (List (Int × Int × Int)))} {a1 : List (Bool × (List (Int × Int × Int)))} {v1 v3 : Value} {r : Bool} (hv2 : SlD (cP cB (cL (cP cU8 (cP cU8 cI64)))) H a0 v1) (hv4 : SlD (cP cB (cL (cP cU8 (cP cU8 cI64)))) H a1 v3) (hd : r05_Same fu a0 a1 = some r) :
    TriV Tryd.prog 11 [(.agg #[v1]), (.agg #[v3])] H O (.bool r) := by
 intro w hs
 refine wp_of Tryd.func11 rfl rfl rfl ?_ hs
 clear hs w
 unfold r05_Same at hd
 refine Wp.sr <| Seg.box (cs := #[v1]) rfl rfl rfl fun B5 => Seg.box (cs := #[v3]) rfl rfl rfl fun B6 => Seg.op (OpT.assign rfl) rfl <| Seg.nilT <| Wp.seq <| Wp.sr <| Seg.op (OpT.fld (o' := 0) fl26_0 rfl rfl) rfl ?_
 refine Seg.op (OpT.ldBlk (i := 1) (v := v1) Tryd.underlying22 rfl rfl rfl rfl) rfl ?_
 have hb7 := hv2.le
 refine Seg.op (OpT.len Tryd.underlying22 rfl hv2.sl) rfl <| Seg.op (OpT.fld (o' := 0) fl26_0 rfl rfl) rfl <| Seg.op (OpT.ldBlk (i := 0) (v := v3) Tryd.underlying22 rfl rfl rfl rfl) rfl ?_
 have hb8 := hv4.le
 refine Seg.op (OpT.len Tryd.underlying22 rfl hv4.sl) rfl <| Seg.op (OpT.neq rfl rfl) rfl <| Seg.nilT ?_
 refine Wp.cond (b := decide ((a0.length:Int) ≠ (a1.length:Int))) rfl (fun hb9 => ?_) (fun hb9 => ?_)
 ·
  replace hd := brT hb9 hd
  replace hb9 := of_decide_eq_true hb9
  refine Wp.sr <| Seg.op (OpT.assign rfl) rfl <| Seg.nilT <| Wp.ret <| At.then_r ?_
  obtain rfl := Option.some.inj hd
  exact At.res1 rfl (RV.tmp (v := (.bool false)) rfl) (fun w hs => ⟨rfl, (hs.dropN 2).weaken (Hp.le.refl _)⟩)
 replace hd := brF hb9 hd
 replace hb9 := of_decide_eq_false hb9
 refine Wp.skip <| At.then_n <| Wp.seq <| Wp.sr <| Seg.op (OpT.fld (o' := 0) fl26_0 rfl rfl) rfl <| Seg.op (OpT.ldBlk (i := 1) (v := v1) Tryd.underlying22 rfl rfl rfl rfl) rfl ?_
 have hb10 := hv2.le
 refine Seg.op (OpT.len Tryd.underlying22 rfl hv2.sl) rfl <| Seg.op (OpT.move rfl) rfl <| Seg.nilT <| Wp.block <| Wp.sub (L' := [(2, (ptr B5 0)), (3, (ptr B6 0)), (18, (.int .i64 (a0.length:Int))), (19, (.int .i64 ((0 : Nat) : Int)))]) (.cons rfl (.cons rfl (.cons rfl (.cons (lk_int rfl (by omega)) (.nil))))) <| Wp.loopE (fun m LL HH OO => ∃ (k280 : Nat), [(2, (ptr B5 0)), (3, (ptr B6 0)), (18, (.int .i64 (a0.length:Int))), (19, (.int .i64 (k280:Int)))] = LL ∧ .blk B6 (.cells #[v3] 26 (0, 0)) :: .blk B5 (.cells #[v1] 26 (0, 0)) :: O = OO ∧ loopK m (r05_Same_b1 fu a0 a1) k280 = some r) fu ⟨0, rfl, rfl, hd⟩ ?_
 intro m282 L286 H284 O287 hl285 hI281
 obtain ⟨k280, rfl, rfl, hd⟩ := hI281
 replace hd := loopK_some hd; obtain ⟨m283, rfl, hd⟩ := hd
 obtain ⟨nx279, hn288⟩ : ∃ f, f = loopK m283 (r05_Same_b1 fu a0 a1) := ⟨_, rfl⟩
 rw [← hn288] at hd
 replace hd : r05_Same_b1 fu a0 a1 k280 nx279 = some r := hd
 unfold r05_Same_b1 at hd
 refine Wp.sr <| Seg.op (OpT.lss rfl rfl) rfl <| Seg.nilT <| Wp.seq ?_
 refine Wp.cond (b := decide ((k280:Int) < (a0.length:Int))) rfl (fun hb289 => ?_) (fun hb289 => ?_)
 ·
  replace hd := brT hb289 hd
  replace hb289 := of_decide_eq_true hb289
  refine Wp.skip <| At.then_n <| Wp.seq <| Wp.block <| Wp.sr <| Seg.op (OpT.move rfl) rfl <| Seg.op (OpT.assign rfl) rfl <| Seg.nilT ?_
  refine Wp.seq ?_
  obtain ⟨x308, hx309, hd⟩ := bnd_some hd
  have hx309_ := idx_bd hx309
  obtain ⟨x313, hx314, hd⟩ := bnd_some hd
  have hx314_ := idx_bd hx314
  obtain ⟨_, ⟨_, _, rfl, rfl, ⟨v311, rfl, hv312⟩⟩, hc310⟩ := SlD.get (hv2.mono hl285) hx309
  obtain ⟨_, ⟨_, _, rfl, rfl, ⟨v316, rfl, hv317⟩⟩, hc315⟩ := SlD.get (hv4.mono hl285) hx314
  refine Wp.emp <| Wp.emp <| SegO.runK 4 [an0, ⟨[3], [], []⟩, an0, an0, an0, an0, ⟨[2], [], []⟩, an0, an0, an0, ⟨[0], [0], [10]⟩, ⟨[1], [1], [11]⟩, ⟨[0], [0], [10]⟩, ⟨[1], [1], [11]⟩] follows rfl (by kernel_rfl) <| SegO.op (val := fun p307 => (ptr B5 0)) rfl rfl (fun _ => rfl) (fun _ p307 _ hx hf hy => OpT.fld (o' := 0) fl26_0 rfl rfl) rfl <| SegO.op (val := fun p307 => v1) rfl rfl (fun _ => rfl) (fun _ p307 _ hx hf hy => OpT.ldBlk (i := 3) (v := v1) Tryd.underlying22 rfl rfl (hy 3 _ rfl rfl) rfl) rfl <| SegO.op (val := fun p307 => (.int .i64 (k280:Int))) rfl rfl (fun _ => rfl) (fun _ p307 _ hx hf hy => OpT.move rfl) rfl <| SegO.op (val := fun p307 => (elemPtr v1 (k280 * 2))) rfl rfl (fun _ => rfl) (fun _ p307 _ hx hf hy => OpT.ixSl Tryd.underlying22 ti40 rfl (hv2.mono (hl285.trans hx)).sl rfl (idx_bd hx309)) rfl <| SegO.op (val := fun p307 => (.agg #[(.bool x308.1), v311])) rfl rfl (fun _ => rfl) (fun _ p307 _ hx hf hy => OpT.ldHA (vs := [(.bool x308.1), v311]) Tryd.underlying40 rfl ti40 rfl rfl (fun j u hj => ((hc310 j u hj).mono hx))) rfl ?_
  refine SegO.op (val := fun p307 => (ptr B6 0)) rfl rfl (fun _ => rfl) (fun _ p307 _ hx hf hy => OpT.fld (o' := 0) fl26_0 rfl rfl) rfl <| SegO.op (val := fun p307 => v3) rfl rfl (fun _ => rfl) (fun _ p307 _ hx hf hy => OpT.ldBlk (i := 2) (v := v3) Tryd.underlying22 rfl rfl (hy 2 _ rfl rfl) rfl) rfl <| SegO.op (val := fun p307 => (.int .i64 (k280:Int))) rfl rfl (fun _ => rfl) (fun _ p307 _ hx hf hy => OpT.move rfl) rfl <| SegO.op (val := fun p307 => (elemPtr v3 (k280 * 2))) rfl rfl (fun _ => rfl) (fun _ p307 _ hx hf hy => OpT.ixSl Tryd.underlying22 ti40 rfl (hv4.mono (hl285.trans hx)).sl rfl (idx_bd hx314)) rfl <| SegO.op (val := fun p307 => (.agg #[(.bool x313.1), v316])) rfl rfl (fun _ => rfl) (fun _ p307 _ hx hf hy => OpT.ldHA (vs := [(.bool x313.1), v316]) Tryd.underlying40 rfl ti40 rfl rfl (fun j u hj => ((hc315 j u hj).mono hx))) rfl <| SegO.op1 (val := fun p307 => ptr (blkOf (p307 10)) 0) (res := fun p307 => .blk (blkOf (p307 10)) (.cells #[(.bool false), (.slice none 0 0)] 40 (0, 0))) 0 rfl rfl (fun _ => rfl) (fun _ => rfl) (fun _ p307 _ hx hf hy => OpS.allocR 0 ti40 rfl (hy 0 _ rfl rfl)) rfl <| SegO.op1 (val := fun p307 => ptr (blkOf (p307 11)) 0) (res := fun p307 => .blk (blkOf (p307 11)) (.cells #[(.bool false), (.slice none 0 0)] 40 (0, 0))) 1 rfl rfl (fun _ => rfl) (fun _ => rfl) (fun _ p307 _ hx hf hy => OpS.allocR 1 ti40 rfl (hy 1 _ rfl rfl)) rfl <| SegO.op1n (res := fun p307 => .blk (blkOf (p307 10)) (.cells #[(.bool x308.1), v311] 40 (0, 0))) 0 rfl rfl rfl (fun _ => rfl) (fun _ p307 _ hx hf hy => OpS.stR (vs := [(.bool x308.1), v311]) rfl rfl rfl ti40 rfl (ones_cons rfl (ones_cons hv312.one (ones_nil))) (hy 0 _ rfl rfl) rfl rfl) ?_
  refine SegO.op1n (res := fun p307 => .blk (blkOf (p307 11)) (.cells #[(.bool x313.1), v316] 40 (0, 0))) 1 rfl rfl rfl (fun _ => rfl) (fun _ p307 _ hx hf hy => OpS.stR (vs := [(.bool x313.1), v316]) rfl rfl rfl ti40 rfl (ones_cons rfl (ones_cons hv317.one (ones_nil))) (hy 1 _ rfl rfl) rfl rfl) <| SegO.done fun H320 p307 hl321 hF322 => At.sub (L' := [(2, (ptr B5 0)), (3, (ptr B6 0)), (6, (ptr (blkOf (p307 10)) 0)), (7, (ptr (blkOf (p307 11)) 0)), (18, (.int .i64 (a0.length:Int))), (19, (.int .i64 (k280:Int)))]) (.cons rfl (.cons rfl (.cons rfl (.cons rfl (.cons rfl (.cons rfl (.nil))))))) ?_
  refine At.own (O := .blk (blkOf (p307 10)) (.cells #[(.bool x308.1), v311] 40 (0, 0)) :: .blk (blkOf (p307 11)) (.cells #[(.bool x313.1), v316] 40 (0, 0)) :: .blk B6 (.cells #[v3] 26 (0, 0)) :: .blk B5 (.cells #[v1] 26 (0, 0)) :: O) ?_ (by first | rfl | (simp only [List.length_append, List.length_set]; rfl) | simp)
  refine At.then_n <| Wp.seq <| Wp.seq ?_
  rcases Bool.eq_false_or_eq_true (!(x308.1 == x313.1)) with hg324 | hg324
  ·
   replace hd := brT hg324 hd
   refine Wp.region <| Seg.op (OpT.fld (o' := 0) fl40_0 rfl rfl) rfl <| Seg.op (OpT.ldBlk (i := 0) (v := (.bool x308.1)) Tryd.underlying4 rfl rfl rfl rfl) rfl <| Seg.op (OpT.fld (o' := 0) fl40_0 rfl rfl) rfl <| Seg.op (OpT.ldBlk (i := 1) (v := (.bool x313.1)) Tryd.underlying4 rfl rfl rfl rfl) rfl <| Seg.op (OpT.asB (b := !(x308.1 == x313.1)) (c := true) (OpT.neB Tryd.underlying4 rfl rfl) hg324) rfl <| Seg.op (OpT.move rfl) rfl <| Seg.skipG rfl rfl rfl rfl ?_
   refine Seg.skipG rfl rfl rfl rfl <| Seg.skipG rfl rfl rfl rfl <| Seg.skipG rfl rfl rfl rfl <| Seg.skipG rfl rfl rfl rfl <| Seg.skipG rfl rfl rfl rfl <| Seg.skipG rfl rfl rfl rfl <| Seg.op (OpT.pickT rfl rfl) rfl <| Seg.nilT ?_
   refine Wp.condT rfl <| Wp.sr <| Seg.op (OpT.assign rfl) rfl <| Seg.nilT <| Wp.ret <| At.then_r <| At.blk_r <| At.then_r ?_
   refine At.then_r <| At.blk_r <| At.then_r ?_
   obtain rfl := Option.some.inj hd
   exact At.res1 rfl (RV.tmp (v := (.bool false)) rfl) (fun w hs => ⟨rfl, (hs.dropN 4).weaken (hl285.trans hl321)⟩)
  replace hd := brF hg324 hd
  refine Wp.region <| Seg.op (OpT.fld (o' := 0) fl40_0 rfl rfl) rfl <| Seg.op (OpT.ldBlk (i := 0) (v := (.bool x308.1)) Tryd.underlying4 rfl rfl rfl rfl) rfl <| Seg.op (OpT.fld (o' := 0) fl40_0 rfl rfl) rfl <| Seg.op (OpT.ldBlk (i := 1) (v := (.bool x313.1)) Tryd.underlying4 rfl rfl rfl rfl) rfl <| Seg.op (OpT.asB (b := !(x308.1 == x313.1)) (c := false) (OpT.neB Tryd.underlying4 rfl rfl) hg324) rfl <| Seg.op (OpT.move rfl) rfl <| Seg.opG rfl rfl (OpT.fld (o' := 1) fl40_1 rfl rfl) rfl ?_
  refine Seg.opG rfl rfl (OpT.ldBlk (i := 0) (v := v311) Tryd.underlying38 rfl rfl rfl rfl) rfl ?_
  have hb325 := hv312.le
  refine Seg.opG rfl rfl (OpT.len Tryd.underlying38 rfl (hv312.mono hl321).sl) rfl <| Seg.opG rfl rfl (OpT.fld (o' := 1) fl40_1 rfl rfl) rfl <| Seg.opG rfl rfl (OpT.ldBlk (i := 1) (v := v316) Tryd.underlying38 rfl rfl rfl rfl) rfl ?_
  have hb326 := hv317.le
  refine Seg.opG rfl rfl (OpT.len Tryd.underlying38 rfl (hv317.mono hl321).sl) rfl <| Seg.opG rfl rfl (OpT.neq rfl rfl) rfl <| Seg.op (OpT.pickF rfl rfl) rfl <| Seg.nilT ?_
  refine Wp.cond (b := decide ((x308.2.length:Int) ≠ (x313.2.length:Int))) rfl (fun hb327 => ?_) (fun hb327 => ?_)
  ·
   replace hd := brT hb327 hd
   replace hb327 := of_decide_eq_true hb327
   refine Wp.sr <| Seg.op (OpT.assign rfl) rfl <| Seg.nilT <| Wp.ret <| At.then_r <| At.blk_r <| At.then_r <| At.then_r ?_
   refine At.blk_r <| At.then_r ?_
   obtain rfl := Option.some.inj hd
   exact At.res1 rfl (RV.tmp (v := (.bool false)) rfl) (fun w hs => ⟨rfl, (hs.dropN 4).weaken (hl285.trans hl321)⟩)
  replace hd := brF hb327 hd
  replace hb327 := of_decide_eq_false hb327
  refine Wp.skip <| At.then_n <| Wp.sr <| Seg.op (OpT.fld (o' := 1) fl40_1 rfl rfl) rfl <| Seg.op (OpT.ldBlk (i := 0) (v := v311) Tryd.underlying38 rfl rfl rfl rfl) rfl ?_
  have hb328 := hv312.le
  refine Seg.op (OpT.len Tryd.underlying38 rfl (hv312.mono hl321).sl) rfl <| Seg.op (OpT.move rfl) rfl <| Seg.nilT <| Wp.block <| Wp.sub (L' := [(2, (ptr B5 0)), (3, (ptr B6 0)), (6, (ptr (blkOf (p307 10)) 0)), (7, (ptr (blkOf (p307 11)) 0)), (18, (.int .i64 (a0.length:Int))), (19, (.int .i64 (k280:Int))), (48, (.int .i64 (x308.2.length:Int))), (49, (.int .i64 ((0 : Nat) : Int)))]) (.cons rfl (.cons rfl (.cons rfl (.cons rfl (.cons rfl (.cons rfl (.cons rfl (.cons (lk_int rfl (by omega)) (.nil))))))))) <| Wp.loopE (fun m LL HH OO => ∃ (k392 : Nat), [(2, (ptr B5 0)), (3, (ptr B6 0)), (6, (ptr (blkOf (p307 10)) 0)), (7, (ptr (blkOf (p307 11)) 0)), (18, (.int .i64 (a0.length:Int))), (19, (.int .i64 (k280:Int))), (48, (.int .i64 (x308.2.length:Int))), (49, (.int .i64 (k392:Int)))] = LL ∧ .blk (blkOf (p307 10)) (.cells #[(.bool x308.1), v311] 40 (0, 0)) :: .blk (blkOf (p307 11)) (.cells #[(.bool x313.1), v316] 40 (0, 0)) :: .blk B6 (.cells #[v3] 26 (0, 0)) :: .blk B5 (.cells #[v1] 26 (0, 0)) :: O = OO ∧ loopK m (r05_Same_b2 fu k280 nx279 x308 x313) k392 = some r) fu ⟨0, rfl, rfl, hd⟩ ?_
  intro m394 L398 H396 O399 hl397 hI393
  obtain ⟨k392, rfl, rfl, hd⟩ := hI393
  replace hd := loopK_some hd; obtain ⟨m395, rfl, hd⟩ := hd
  obtain ⟨nx391, hn400⟩ : ∃ f, f = loopK m395 (r05_Same_b2 fu k280 nx279 x308 x313) := ⟨_, rfl⟩
  rw [← hn400] at hd
  replace hd : r05_Same_b2 fu k280 nx279 x308 x313 k392 nx391 = some r := hd
  unfold r05_Same_b2 at hd
  refine Wp.sr <| Seg.op (OpT.lss rfl rfl) rfl <| Seg.nilT <| Wp.seq ?_
  refine Wp.cond (b := decide ((k392:Int) < (x308.2.length:Int))) rfl (fun hb401 => ?_) (fun hb401 => ?_)
  ·
   replace hd := brT hb401 hd
   replace hb401 := of_decide_eq_true hb401
   refine Wp.skip <| At.then_n <| Wp.seq <| Wp.block <| Wp.sr <| Seg.op (OpT.move rfl) rfl <| Seg.op (OpT.assign rfl) rfl <| Seg.nilT ?_
   refine Wp.seq ?_
   obtain ⟨x416, hx417, hd⟩ := bnd_some hd
   have hx417_ := idx_bd hx417
   obtain ⟨x423, hx424, hd⟩ := bnd_some hd
   have hx424_ := idx_bd hx424
   obtain ⟨_, ⟨_, _, rfl, ⟨rfl, hr419, hr420⟩, ⟨_, _, rfl, ⟨rfl, hr421, hr422⟩, rfl⟩⟩, hc418⟩ := SlD.get (hv312.mono (hl321.trans hl397)) hx417
   obtain ⟨_, ⟨_, _, rfl, ⟨rfl, hr426, hr427⟩, ⟨_, _, rfl, ⟨rfl, hr428, hr429⟩, rfl⟩⟩, hc425⟩ := SlD.get (hv317.mono (hl321.trans hl397)) hx424
   refine Wp.drawE 11 follows rfl (by kernel_rfl) <| SegL.opE (OpT.fld (o' := 1) fl40_1 rfl rfl) rfl <| SegL.opE (OpT.ldBlk (i := 0) (v := v311) Tryd.underlying38 rfl rfl rfl rfl) rfl <| SegL.opE (OpT.move rfl) rfl <| SegL.opE (OpT.ixSl Tryd.underlying38 ti50 rfl (hv312.mono (hl321.trans hl397)).sl rfl (idx_bd hx417)) rfl <| SegL.opE (OpT.ldHA (vs := [(.int .u8 x416.1), (.int .u8 x416.2.1), (.int .i64 x416.2.2)]) Tryd.underlying50 rfl ti50 rfl rfl (fun j u hj => (hc418 j u hj))) rfl <| SegL.opE (OpT.fld (o' := 1) fl40_1 rfl rfl) rfl <| SegL.opE (OpT.ldBlk (i := 1) (v := v316) Tryd.underlying38 rfl rfl rfl rfl) rfl ?_
   refine SegL.opE (OpT.move rfl) rfl <| SegL.opE (OpT.ixSl Tryd.underlying38 ti50 rfl (hv317.mono (hl321.trans hl397)).sl rfl (idx_bd hx424)) rfl <| SegL.opE (OpT.ldHA (vs := [(.int .u8 x423.1), (.int .u8 x423.2.1), (.int .i64 x423.2.2)]) Tryd.underlying50 rfl ti50 rfl rfl (fun j u hj => (hc425 j u hj))) rfl <| SegL.opE (OpT.neInts (xs := [x416.1, x416.2.1, x416.2.2]) (ys := [x423.1, x423.2.1, x423.2.2]) ints50 rfl rfl rfl rfl) rfl <| SegL.doneE <| EndL.is (t := 2) rfl <| EndL.is (t := 3) rfl <| EndL.is (t := 6) rfl ?_
   refine EndL.is (t := 7) rfl <| EndL.is (t := 18) rfl <| EndL.is (t := 19) rfl <| EndL.is (t := 48) rfl <| EndL.is (t := 49) rfl <| EndL.is (t := 62) rfl <| EndL.seg <| Seg.nilT ?_
   refine Wp.cond (b := !(decide (([x416.1, x416.2.1, x416.2.2] : List Int) = [x423.1, x423.2.1, x423.2.2]))) rfl (fun hb430 => ?_) (fun hb430 => ?_)
   ·
    replace hd := brT hb430 hd
    refine Wp.sr <| Seg.op (OpT.assign rfl) rfl <| Seg.nilT <| Wp.ret <| At.blk_r <| At.then_r <| At.then_r <| At.blk_r ?_
    refine At.blk_r <| At.then_r <| At.then_r <| At.blk_r <| At.then_r ?_
    obtain rfl := Option.some.inj hd
    exact At.res1 rfl (RV.tmp (v := (.bool false)) rfl) (fun w hs => ⟨rfl, (hs.dropN 4).weaken ((hl285.trans hl321).trans hl397)⟩)
   replace hd := brF hb430 hd
   refine Wp.skip <| At.blk_n <| At.then_n <| Wp.region <| Seg.op (OpT.add rfl rfl (fits64 (by omega))) rfl <| Seg.op (OpT.move rfl) rfl <| Seg.nil ?_
   refine At.nextE (L' := [(2, (ptr B5 0)), (3, (ptr B6 0)), (6, (ptr (blkOf (p307 10)) 0)), (7, (ptr (blkOf (p307 11)) 0)), (18, (.int .i64 (a0.length:Int))), (19, (.int .i64 (k280:Int))), (48, (.int .i64 (x308.2.length:Int))), (49, (.int .i64 ((k392 + 1 : Nat) : Int)))]) m395 (Nat.lt_succ_self _) (Hp.le.refl _) (.cons rfl (.cons rfl (.cons rfl (.cons rfl (.cons rfl (.cons rfl (.cons rfl (.cons (lk_int rfl (by omega)) (.nil))))))))) ⟨(k392 + 1), rfl, rfl, (by rw [← hn400]; exact hd)⟩
  replace hd := brF hb401 hd
  replace hb401 := of_decide_eq_false hb401
  refine Wp.exit <| At.then_x <| At.then_x <| At.blk_hit <| At.blk_n <| At.then_n <| Wp.region <| Seg.op (OpT.add rfl rfl (fits64 (by omega))) rfl ?_
  refine Seg.op (OpT.move rfl) rfl <| Seg.nil <| At.permK [2, 3] 4 rfl rfl rfl ?_
  refine At.nextE (L' := [(2, (ptr B5 0)), (3, (ptr B6 0)), (18, (.int .i64 (a0.length:Int))), (19, (.int .i64 ((k280 + 1 : Nat) : Int)))]) m283 (Nat.lt_succ_self _) (hl321.trans hl397) (.cons rfl (.cons rfl (.cons rfl (.cons (lk_int rfl (by omega)) (.nil))))) ⟨(k280 + 1), rfl, rfl, (by rw [← hn288]; exact hd)⟩
 replace hd := brF hb289 hd
 replace hb289 := of_decide_eq_false hb289
 refine Wp.exit <| At.then_x <| At.then_x <| At.blk_hit <| At.then_n <| Wp.sr <| Seg.op (OpT.assign rfl) rfl <| Seg.nilT ?_
 refine Wp.ret ?_
 obtain rfl := Option.some.inj hd
 exact At.res1 rfl (RV.tmp (v := (.bool true)) rfl) (fun w hs => ⟨rfl, (hs.dropN 2).weaken hl285⟩)

set_option maxRecDepth 100000 in
set_option maxHeartbeats 4000000 in
theorem au_Same_1_w {fu : Nat} {a0 : Bool × (List (Int × Int × Int))} {a1 : Bool × (List (Int × Int × Int))} {v1 v3 : Value} {r : Bool} (hv2 : SlD (cP cU8 (cP cU8 cI64)) H a0.2 v1) (hv4 : SlD (cP cU8 (cP cU8 cI64)) H a1.2 v3) (hd : au_Same_1 fu a0 a1 = some r) :
    TriV Tryd.prog 23 [(.agg #[(.bool a0.1), v1]), (.agg #[(.bool a1.1), v3])] H O (.bool r) := by
 intro w hs
 refine wp_of Tryd.func23 rfl rfl rfl ?_ hs
 clear hs w
 unfold au_Same_1 at hd
 refine Wp.sr <| Seg.box (cs := #[(.bool a0.1), v1]) rfl rfl rfl fun B5 => Seg.box (cs := #[(.bool a1.1), v3]) rfl rfl rfl fun B6 => Seg.op (OpT.assign rfl) rfl <| Seg.nilT <| Wp.seq ?_
 rcases Bool.eq_false_or_eq_true (a0.1 == a1.1) with hg7 | hg7
 ·
  replace hd := brT hg7 hd
  obtain ⟨x8, hx9, hd⟩ := bnd_some hd
  refine Wp.region <| Seg.op (OpT.fld (o' := 0) fl40_0 rfl rfl) rfl <| Seg.op (OpT.ldBlk (i := 1) (v := (.bool a0.1)) Tryd.underlying4 rfl rfl rfl rfl) rfl <| Seg.op (OpT.fld (o' := 0) fl40_0 rfl rfl) rfl <| Seg.op (OpT.ldBlk (i := 0) (v := (.bool a1.1)) Tryd.underlying4 rfl rfl rfl rfl) rfl <| Seg.op (OpT.asB (b := a0.1 == a1.1) (c := true) (OpT.eqB Tryd.underlying4 rfl rfl) hg7) rfl <| Seg.op (OpT.move rfl) rfl <| Seg.opG rfl rfl (OpT.fld (o' := 1) fl40_1 rfl rfl) rfl ?_
  refine Seg.opG rfl rfl (OpT.ldBlk (i := 1) (v := v1) Tryd.underlying38 rfl rfl rfl rfl) rfl <| Seg.opG rfl rfl (OpT.fld (o' := 1) fl40_1 rfl rfl) rfl <| Seg.opG rfl rfl (OpT.ldBlk (i := 0) (v := v3) Tryd.underlying38 rfl rfl rfl rfl) rfl <| Seg.opG rfl rfl (OpT.call ent24 rfl (slices_Equal_w hv2 hv4 hx9)) rfl <| Seg.op (OpT.pickT rfl rfl) rfl <| Seg.op (OpT.assign rfl) rfl <| Seg.nilT <| Wp.ret ?_
  obtain rfl := Option.some.inj hd
  exact At.res1 rfl (RV.tmp (v := (.bool x8)) rfl) (fun w hs => ⟨rfl, (hs.dropN 2).weaken (Hp.le.refl _)⟩)
 replace hd := brF hg7 hd
 refine Wp.region <| Seg.op (OpT.fld (o' := 0) fl40_0 rfl rfl) rfl <| Seg.op (OpT.ldBlk (i := 1) (v := (.bool a0.1)) Tryd.underlying4 rfl rfl rfl rfl) rfl <| Seg.op (OpT.fld (o' := 0) fl40_0 rfl rfl) rfl <| Seg.op (OpT.ldBlk (i := 0) (v := (.bool a1.1)) Tryd.underlying4 rfl rfl rfl rfl) rfl <| Seg.op (OpT.asB (b := a0.1 == a1.1) (c := false) (OpT.eqB Tryd.underlying4 rfl rfl) hg7) rfl <| Seg.op (OpT.move rfl) rfl <| Seg.skipG rfl rfl rfl rfl ?_
 refine Seg.skipG rfl rfl rfl rfl <| Seg.skipG rfl rfl rfl rfl <| Seg.skipG rfl rfl rfl rfl <| Seg.skipG rfl rfl rfl rfl <| Seg.op (OpT.pickF rfl rfl) rfl <| Seg.op (OpT.assign rfl) rfl <| Seg.nilT <| Wp.ret ?_
 obtain rfl := Option.some.inj hd
 exact At.res1 rfl (RV.tmp (v := (.bool false)) rfl) (fun w hs => ⟨rfl, (hs.dropN 2).weaken (Hp.le.refl _)⟩)

set_option maxRecDepth 100000 in
set_option maxHeartbeats 4000000 in
theorem slices_EqualFunc_au_Same_1_w {fu : Nat} {a0 : List (Bool × (List (Int × Int × Int)))} {a1 : List (Bool × (List (Int × Int × Int)))} {v1 v3 : Value} {r : Bool} (hv2 : SlD (cP cB (cL (cP cU8 (cP cU8 cI64)))) H a0 v1) (hv4 : SlD (cP cB (cL (cP cU8 (cP cU8 cI64)))) H a1 v3) (hd : slices_EqualFunc_au_Same_1 fu a0 a1 = some r) :
    TriV Tryd.prog 22 [v1, v3, (.func (.func 23) #[] #[])] H O (.bool r) := by
 intro w hs
 refine wp_of Tryd.func22 rfl rfl rfl ?_ hs
 clear hs w
 unfold slices_EqualFunc_au_Same_1 at hd
 refine Wp.sr <| Seg.op (OpT.assign rfl) rfl <| Seg.nilT <| Wp.seq <| Wp.sr <| Seg.op (OpT.move rfl) rfl ?_
 have hb5 := hv2.le
 refine Seg.op (OpT.len Tryd.underlying22 rfl hv2.sl) rfl <| Seg.op (OpT.move rfl) rfl ?_
 have hb6 := hv4.le
 refine Seg.op (OpT.len Tryd.underlying22 rfl hv4.sl) rfl <| Seg.op (OpT.neq rfl rfl) rfl <| Seg.nilT ?_
 refine Wp.cond (b := decide ((a0.length:Int) ≠ (a1.length:Int))) rfl (fun hb7 => ?_) (fun hb7 => ?_)
 ·
  replace hd := brT hb7 hd
  replace hb7 := of_decide_eq_true hb7
  refine Wp.sr <| Seg.op (OpT.assign rfl) rfl <| Seg.nilT <| Wp.ret <| At.then_r ?_
  obtain rfl := Option.some.inj hd
  exact At.res1 rfl (RV.tmp (v := (.bool false)) rfl) (fun w hs => ⟨rfl, (hs.dropN 0).weaken (Hp.le.refl _)⟩)
 replace hd := brF hb7 hd
 replace hb7 := of_decide_eq_false hb7
 refine Wp.skip <| At.then_n <| Wp.seq <| Wp.sr <| Seg.op (OpT.move rfl) rfl ?_
 have hb8 := hv2.le
 refine Seg.op (OpT.len Tryd.underlying22 rfl hv2.sl) rfl <| Seg.op (OpT.move rfl) rfl <| Seg.nilT <| Wp.block <| Wp.sub (L' := [(1, v3), (2, (.func (.func 23) #[] #[])), (15, v1), (16, (.int .i64 (a0.length:Int))), (17, (.int .i64 ((0 : Nat) : Int)))]) (.cons rfl (.cons rfl (.cons rfl (.cons rfl (.cons (lk_int rfl (by omega)) (.nil)))))) <| Wp.loopE (fun m LL HH OO => ∃ (k48 : Nat), [(1, v3), (2, (.func (.func 23) #[] #[])), (15, v1), (16, (.int .i64 (a0.length:Int))), (17, (.int .i64 (k48:Int)))] = LL ∧ O = OO ∧ loopK m (slices_EqualFunc_au_Same_1_b1 fu a0 a1) k48 = some r) fu ⟨0, rfl, rfl, hd⟩ ?_
 intro m50 L54 H52 O55 hl53 hI49
 obtain ⟨k48, rfl, rfl, hd⟩ := hI49
 replace hd := loopK_some hd; obtain ⟨m51, rfl, hd⟩ := hd
 obtain ⟨nx47, hn56⟩ : ∃ f, f = loopK m51 (slices_EqualFunc_au_Same_1_b1 fu a0 a1) := ⟨_, rfl⟩
 rw [← hn56] at hd
 replace hd : slices_EqualFunc_au_Same_1_b1 fu a0 a1 k48 nx47 = some r := hd
 unfold slices_EqualFunc_au_Same_1_b1 at hd
 refine Wp.sr <| Seg.op (OpT.lss rfl rfl) rfl <| Seg.nilT <| Wp.seq ?_
 refine Wp.cond (b := decide ((k48:Int) < (a0.length:Int))) rfl (fun hb57 => ?_) (fun hb57 => ?_)
 ·
  replace hd := brT hb57 hd
  replace hb57 := of_decide_eq_true hb57
  refine Wp.skip <| At.then_n <| Wp.seq <| Wp.block <| Wp.seq ?_
  obtain ⟨x58, hx59, hd⟩ := bnd_some hd
  have hx59_ := idx_bd hx59
  refine Wp.region <| Seg.op (OpT.move rfl) rfl ?_
  obtain ⟨_, ⟨_, _, rfl, rfl, ⟨v61, rfl, hv62⟩⟩, hc60⟩ := SlD.get (hv2.mono hl53) hx59
  refine Seg.op (OpT.ixSl Tryd.underlying22 ti40 rfl (hv2.mono hl53).sl rfl (idx_bd hx59)) rfl <| Seg.op (OpT.ldHA (vs := [(.bool x58.1), v61]) Tryd.underlying40 rfl ti40 rfl rfl (fun j u hj => (hc60 j u hj))) rfl <| Seg.alloc (cs := #[(.bool false), (.slice none 0 0)]) ti40 rfl rfl fun B63 => Seg.op (OpT.assign rfl) rfl <| Seg.stBlkW (i := 0) (cs' := #[(.bool x58.1), v61]) rfl rfl ti40 rfl rfl (onesA (ones_cons rfl (ones_cons hv62.one (ones_nil)))) rfl ?_
  refine Seg.own (O := .blk B63 (.cells #[(.bool x58.1), v61] 40 (0, 0)) :: O) ?_ rfl
  refine Seg.nilT <| Wp.seq ?_
  obtain ⟨x65, hx66, hd⟩ := bnd_some hd
  have hx66_ := idx_bd hx66
  refine Wp.region <| Seg.op (OpT.move rfl) rfl <| Seg.op (OpT.move rfl) rfl ?_
  obtain ⟨_, ⟨_, _, rfl, rfl, ⟨v68, rfl, hv69⟩⟩, hc67⟩ := SlD.get (hv4.mono hl53) hx66
  refine Seg.op (OpT.ixSl Tryd.underlying22 ti40 rfl (hv4.mono hl53).sl rfl (idx_bd hx66)) rfl <| Seg.op (OpT.ldHA (vs := [(.bool x65.1), v68]) Tryd.underlying40 rfl ti40 rfl rfl (fun j u hj => (hc67 j u hj))) rfl <| Seg.alloc (cs := #[(.bool false), (.slice none 0 0)]) ti40 rfl rfl fun B70 => Seg.stBlkW (i := 0) (cs' := #[(.bool x65.1), v68]) rfl rfl ti40 rfl rfl (onesA (ones_cons rfl (ones_cons hv69.one (ones_nil)))) rfl ?_
  refine Seg.own (O := .blk B70 (.cells #[(.bool x65.1), v68] 40 (0, 0)) :: .blk B63 (.cells #[(.bool x58.1), v61] 40 (0, 0)) :: O) ?_ rfl
  refine Seg.nilT <| Wp.seq ?_
  obtain ⟨x72, hx73, hd⟩ := bnd_some hd
  refine Wp.region <| Seg.op (OpT.move rfl) rfl <| Seg.op (OpT.ldBlkW (i := 1) Tryd.underlying40 rfl ti40 rfl rfl rfl) rfl <| Seg.op (OpT.ldBlkW (i := 0) Tryd.underlying40 rfl ti40 rfl rfl rfl) rfl <| Seg.op (OpT.callC (first := []) ent23 rfl rfl (au_Same_1_w hv62 hv69 hx73)) rfl <| Seg.op (OpT.not rfl) rfl <| Seg.nilT ?_
  refine Wp.cond (b := !x72) rfl (fun hb74 => ?_) (fun hb74 => ?_)
  ·
   replace hd := brT hb74 hd
   refine Wp.sr <| Seg.op (OpT.assign rfl) rfl <| Seg.nilT <| Wp.ret <| At.blk_r <| At.then_r <| At.then_r <| At.blk_r ?_
   refine At.then_r ?_
   obtain rfl := Option.some.inj hd
   exact At.res1 rfl (RV.tmp (v := (.bool false)) rfl) (fun w hs => ⟨rfl, (hs.dropN 2).weaken hl53⟩)
  replace hd := brF hb74 hd
  refine Wp.skip <| At.blk_n <| At.then_n <| Wp.region <| Seg.op (OpT.add rfl rfl (fits64 (by omega))) rfl <| Seg.op (OpT.move rfl) rfl <| Seg.nil <| At.permK [] 2 rfl rfl rfl ?_
  refine At.nextE (L' := [(1, v3), (2, (.func (.func 23) #[] #[])), (15, v1), (16, (.int .i64 (a0.length:Int))), (17, (.int .i64 ((k48 + 1 : Nat) : Int)))]) m51 (Nat.lt_succ_self _) (Hp.le.refl _) (.cons rfl (.cons rfl (.cons rfl (.cons rfl (.cons (lk_int rfl (by omega)) (.nil)))))) ⟨(k48 + 1), rfl, rfl, (by rw [← hn56]; exact hd)⟩
 replace hd := brF hb57 hd
 replace hb57 := of_decide_eq_false hb57
 refine Wp.exit <| At.then_x <| At.then_x <| At.blk_hit <| At.then_n <| Wp.sr <| Seg.op (OpT.assign rfl) rfl <| Seg.nilT ?_
 refine Wp.ret ?_
 obtain rfl := Option.some.inj hd
 exact At.res1 rfl (RV.tmp (v := (.bool true)) rfl) (fun w hs => ⟨rfl, (hs.dropN 0).weaken hl53⟩)

set_option maxRecDepth 100000 in
set_option maxHeartbeats 4000000 in
theorem au_Same_w {fu : Nat} {a0 : List (Bool × (List (Int × Int × Int)))} {a1 : List (Bool × (List (Int × Int × Int)))} {v1 v3 : Value} {r : Bool} (hv2 : SlD (cP cB (cL (cP cU8 (cP cU8 cI64)))) H a0 v1) (hv4 : SlD (cP cB (cL (cP cU8 (cP cU8 cI64)))) H a1 v3) (hd : au_Same fu a0 a1 = some r) :
    TriV Tryd.prog 10 [(.agg #[v1]), (.agg #[v3])] H O (.bool r) := by
 intro w hs
 refine wp_of Tryd.func10 rfl rfl rfl ?_ hs
 clear hs w
 unfold au_Same at hd
 refine Wp.sr <| Seg.box (cs := #[v1]) rfl rfl rfl fun B5 => Seg.box (cs := #[v3]) rfl rfl rfl fun B6 => Seg.op (OpT.assign rfl) rfl <| Seg.nilT <| Wp.seq ?_
 obtain ⟨x7, hx8, hd⟩ := bnd_some hd
 refine Wp.region <| Seg.op (OpT.fld (o' := 0) fl26_0 rfl rfl) rfl <| Seg.op (OpT.ldBlk (i := 1) (v := v1) Tryd.underlying22 rfl rfl rfl rfl) rfl <| Seg.op (OpT.fld (o' := 0) fl26_0 rfl rfl) rfl <| Seg.op (OpT.ldBlk (i := 0) (v := v3) Tryd.underlying22 rfl rfl rfl rfl) rfl <| Seg.op (OpT.call ent22 rfl (slices_EqualFunc_au_Same_1_w hv2 hv4 hx8)) rfl <| Seg.op (OpT.assign rfl) rfl <| Seg.nilT ?_
 refine Wp.ret ?_
 obtain rfl := Option.some.inj hd
 exact At.res1 rfl (RV.tmp (v := (.bool x7)) rfl) (fun w hs => ⟨rfl, (hs.dropN 2).weaken (Hp.le.refl _)⟩)

set_option maxRecDepth 100000 in
set_option maxHeartbeats 4000000 in
theorem au_Word_w {fu : Nat} {a0 : Str} {r : List (Bool × (List (Int × Int × Int)))} (hd : au_Word fu a0 = some r) :
    Tri Tryd.prog 12 [(sv a0)] H O (fun v H' O' => (∃ v211 : Value, (.agg #[v211]) = v ∧ SlD (cP cB (cL (cP cU8 (cP cU8 cI64)))) H' r v211) ∧ O = O') := by
 intro w hs
 refine wp_of Tryd.func12 rfl rfl rfl ?_ hs
 clear hs w
 unfold au_Word at hd
 refine Wp.sr <| Seg.alloc (cs := #[(.slice none 0 0)]) ti26 rfl rfl fun B1 => Seg.nilT <| Wp.sr <| Seg.alloc (cs := #[(.slice none 0 0)]) ti26 rfl rfl fun B3 => Seg.nilT <| Wp.seq <| Wp.sr ?_
 refine Seg.op (OpT.move rfl) rfl <| Seg.op (OpT.lenS Tryd.underlying9 rfl) rfl <| Seg.op (OpT.move rfl) rfl <| Seg.nilT <| Wp.block <| Wp.nilRow 40 2 <| Wp.sub (L' := [(0, (sv a0)), (2, (ptr B1 0)), (3, (ptr B3 0)), (6, (.int .i64 (a0.length:Int))), (7, (.int .i64 0))]) (.cons rfl (.cons rfl (.cons rfl (.cons rfl (.cons rfl (.nil)))))) <| Wp.loopE (fun m LL HH OO => ∃ (l143 : List (Bool × (List (Int × Int × Int)))), ∃ (i147 : Int), ∃ (v144 : Value), ∃ (xs145 : List Value), [(0, (sv a0)), (2, (ptr B1 0)), (3, (ptr B3 0)), (6, (.int .i64 (a0.length:Int))), (7, (.int .i64 i147))] = LL ∧ .row v144 40 2 l143.length xs145 :: .blk B3 (.cells #[v144] 26 (0, 0)) :: .blk B1 (.cells #[(.slice none 0 0)] 26 (0, 0)) :: O = OO ∧ loopK m (fun p nx => au_Word_b1 fu a0 p.1 p.2 nx) (l143, i147) = some r ∧ LayL (cP cB (cL (cP cU8 (cP cU8 cI64)))) HH l143 xs145) fu ⟨([] : List (Bool × (List (Int × Int × Int)))), 0, (.slice none 0 0), [], rfl, rfl, hd, (LayL.nil (c := (cP cB (cL (cP cU8 (cP cU8 cI64))))) (H := H))⟩ ?_
 intro m149 L153 H151 O154 hl152 hI148
 obtain ⟨l143, i147, v144, xs145, rfl, rfl, hd, hq146⟩ := hI148
 replace hd := loopK_some hd; obtain ⟨m150, rfl, hd⟩ := hd
 obtain ⟨nx142, hn155⟩ : ∃ f, f = loopK m150 (fun p nx => au_Word_b1 fu a0 p.1 p.2 nx) := ⟨_, rfl⟩
 rw [← hn155] at hd
 replace hd : au_Word_b1 fu a0 l143 i147 nx142 = some r := hd
 unfold au_Word_b1 at hd
 refine Wp.sr <| Seg.op (OpT.lss rfl rfl) rfl <| Seg.nilT <| Wp.seq ?_
 refine Wp.cond (b := decide (i147 < (a0.length:Int))) rfl (fun hb156 => ?_) (fun hb156 => ?_)
 ·
  replace hd := brT hb156 hd
  replace hb156 := of_decide_eq_true hb156
  refine Wp.skip <| At.then_n <| Wp.seq <| Wp.block <| Wp.sr <| Seg.op (OpT.move rfl) rfl <| Seg.op (OpT.assign rfl) rfl <| Seg.nilT ?_
  obtain ⟨x177, hx178, hd⟩ := bnd_some hd
  have hx178_ := idxS_bd hx178
  obtain ⟨x179, hx180, hd⟩ := bnd_some hd
  have hx180_ := idxS_bd hx180
  replace hd := chk_some hd; obtain ⟨ha181, hd⟩ := hd
  replace hd := chk_some hd; obtain ⟨ha183, hd⟩ := hd
  refine Wp.emp <| Wp.emp <| SegO.runK 5 [an0, ⟨[3], [], []⟩, an0, an0, an0, an0, an0, an0, an0, an0, an0, ⟨[0], [0], [11]⟩, ⟨[], [], [11]⟩, ⟨[1], [1], [11, 13]⟩, ⟨[1, 2], [2], [11, 14]⟩, an0, ⟨[3], [3], [14]⟩] follows rfl (by kernel_rfl) <| SegO.op (val := fun p176 => (ptr B3 0)) rfl rfl (fun _ => rfl) (fun _ p176 _ hx hf hy => OpT.fld (o' := 0) fl26_0 rfl rfl) rfl <| SegO.op (val := fun p176 => v144) rfl rfl (fun _ => rfl) (fun _ p176 _ hx hf hy => OpT.ldBlk (i := 3) (v := v144) Tryd.underlying22 rfl rfl (hy 3 _ rfl rfl) rfl) rfl <| SegO.op (val := fun p176 => (sv a0)) rfl rfl (fun _ => rfl) (fun _ p176 _ hx hf hy => OpT.move rfl) rfl <| SegO.op (val := fun p176 => (.int .i64 i147)) rfl rfl (fun _ => rfl) (fun _ p176 _ hx hf hy => OpT.move rfl) rfl <| SegO.op (val := fun p176 => (.int .u8 x177)) rfl rfl (fun _ => rfl) (fun _ p176 _ hx hf hy => OpT.byteS Tryd.underlying9 rfl rfl hx178) rfl ?_
  refine SegO.op (val := fun p176 => (sv a0)) rfl rfl (fun _ => rfl) (fun _ p176 _ hx hf hy => OpT.move rfl) rfl <| SegO.op (val := fun p176 => (.int .i64 i147)) rfl rfl (fun _ => rfl) (fun _ p176 _ hx hf hy => OpT.move rfl) rfl <| SegO.op (val := fun p176 => (.int .u8 x179)) rfl rfl (fun _ => rfl) (fun _ p176 _ hx hf hy => OpT.byteS Tryd.underlying9 rfl rfl hx180) rfl <| SegO.op (val := fun p176 => (.int .i64 i147)) rfl rfl (fun _ => rfl) (fun _ p176 _ hx hf hy => OpT.move rfl) rfl <| SegO.op (val := fun p176 => (.int .i64 (i147 + 1))) rfl rfl (fun _ => rfl) (fun _ p176 _ hx hf hy => OpT.add rfl rfl (fits64 ha181)) rfl <| SegO.op (val := fun p176 => (.agg #[(.int .u8 x177), (.int .u8 x179), (.int .i64 (i147 + 1))])) rfl rfl (fun _ => rfl) (fun _ p176 _ hx hf hy => OpT.buildS (vs := [(0, (.int .u8 x177)), (1, (.int .u8 x179)), (2, (.int .i64 (i147 + 1)))]) (cs := #[(.int .u8 x177), (.int .u8 x179), (.int .i64 (i147 + 1))]) plf50 ti50 rfl rfl (vc_cons rfl (vc_cons rfl (vc_cons rfl (vc_nil)))) rfl) rfl <| SegO.op1s (res := fun p176 => .row (p176 11) 50 3 1 [(.int .u8 x177), (.int .u8 x179), (.int .i64 (i147 + 1))]) 0 rfl rfl rfl (fun _ => rfl) (fun _ p176 _ hx hf hy => OpS.buildR1 (v := (.agg #[(.int .u8 x177), (.int .u8 x179), (.int .i64 (i147 + 1))])) (cs := [(.int .u8 x177), (.int .u8 x179), (.int .i64 (i147 + 1))]) 0 Tryd.underlying38 ti50 rfl rfl rfl rfl rfl (hy 0 _ rfl rfl)) rfl (fun _ => ⟨_, _, _, _, rfl⟩) <| SegO.op (val := fun p176 => (.agg #[(.bool false), (p176 11)])) rfl rfl (fun _ => rfl) (fun _ p176 _ hx hf hy => OpT.buildS (vs := [(1, (p176 11))]) (cs := #[(.bool false), (p176 11)]) plf40 ti40 rfl rfl (vc_cons (cells1 (hf 11 rfl rfl)) (vc_nil)) rfl) rfl ?_
  refine SegO.op1s (res := fun p176 => .row (p176 13) 40 2 1 [(.bool false), (p176 11)]) 1 rfl rfl rfl (fun _ => rfl) (fun _ p176 _ hx hf hy => OpS.buildR1 (v := (.agg #[(.bool false), (p176 11)])) (cs := [(.bool false), (p176 11)]) 1 Tryd.underlying22 ti40 rfl rfl rfl rfl rfl (hy 1 _ rfl rfl)) rfl (fun _ => ⟨_, _, _, _, rfl⟩) <| SegO.op1s (res := fun p176 => .row (p176 14) 40 2 (l143.length + 1) (xs145 ++ [(.bool false), (p176 11)])) 2 rfl rfl rfl (fun _ => rfl) (fun _ p176 _ hx hf hy => OpS.appR 2 1 Tryd.underlying22 ti40 rfl rfl rfl rfl (hy 2 _ rfl rfl) (hy 1 _ rfl rfl) (ones_cons rfl (ones_cons (hf 11 rfl rfl) (ones_nil))) rfl ha183) rfl (fun _ => ⟨_, _, _, _, rfl⟩) <| SegO.op (val := fun p176 => (ptr B3 0)) rfl rfl (fun _ => rfl) (fun _ p176 _ hx hf hy => OpT.fld (o' := 0) fl26_0 rfl rfl) rfl <| SegO.op1n (res := fun p176 => .blk B3 (.cells #[(p176 14)] 26 (0, 0))) 3 rfl rfl rfl (fun _ => rfl) (fun _ p176 _ hx hf hy => OpS.stR (vs := [(p176 14)]) rfl rfl (cellsL (hf 14 rfl rfl)) ti22 rfl (ones_cons (hf 14 rfl rfl) (ones_nil)) (hy 3 _ rfl rfl) rfl rfl) <| SegO.done fun H184 p176 hl185 hF186 => At.sub (L' := [(0, (sv a0)), (2, (ptr B1 0)), (3, (ptr B3 0)), (6, (.int .i64 (a0.length:Int))), (7, (.int .i64 i147))]) (.cons rfl (.cons rfl (.cons rfl (.cons rfl (.cons rfl (.nil)))))) ?_
  refine At.own (O := .row (p176 11) 50 3 ([(x177, x179, i147 + 1)] : List (Int × Int × Int)).length [(.int .u8 x177), (.int .u8 x179), (.int .i64 (i147 + 1))] :: .row (p176 13) 40 2 ([(false, ([(x177, x179, i147 + 1)] : List (Int × Int × Int)))] : List (Bool × (List (Int × Int × Int)))).length [(.bool false), (p176 11)] :: .row (p176 14) 40 2 (l143 ++ ([(false, ([(x177, x179, i147 + 1)] : List (Int × Int × Int)))] : List (Bool × (List (Int × Int × Int))))).length (xs145 ++ [(.bool false), (p176 11)]) :: .blk B3 (.cells #[(p176 14)] 26 (0, 0)) :: .blk B1 (.cells #[(.slice none 0 0)] 26 (0, 0)) :: O) ?_ (by first | rfl | (simp only [List.length_append, List.length_set]; rfl) | simp)
  have hq188 : LayL (cP cU8 (cP cU8 cI64)) H184 ([(x177, x179, i147 + 1)] : List (Int × Int × Int)) [(.int .u8 x177), (.int .u8 x179), (.int .i64 (i147 + 1))] := (LayL.sing (c := (cP cU8 (cP cU8 cI64))) (a := (x177, x179, i147 + 1)) (cs := [(.int .u8 x177), (.int .u8 x179), (.int .i64 (i147 + 1))]) (⟨[(.int .u8 x177)], [(.int .u8 x179), (.int .i64 (i147 + 1))], rfl, ⟨rfl, (show (0 : Int) ≤ x177 by omega), (show x177 ≤ (255 : Int) by omega)⟩, ⟨[(.int .u8 x179)], [(.int .i64 (i147 + 1))], rfl, ⟨rfl, (show (0 : Int) ≤ x179 by omega), (show x179 ≤ (255 : Int) by omega)⟩, rfl⟩⟩))
  refine At.rowLe (i := 0) rfl fun hb189 => ?_
  refine At.freeze (i := 0) rfl fun H192 hl193 hs190 => ?_
  have hv191 := SlD.of (c := (cP cU8 (cP cU8 cI64))) hs190 rfl (hq188.mono hl193) hb189
  have hq194 : LayL (cP cB (cL (cP cU8 (cP cU8 cI64)))) H192 (l143 ++ ([(false, ([(x177, x179, i147 + 1)] : List (Int × Int × Int)))] : List (Bool × (List (Int × Int × Int))))) (xs145 ++ [(.bool false), (p176 11)]) := (LayL.app (hq146.mono (hl185.trans hl193)) (LayL.sing (c := (cP cB (cL (cP cU8 (cP cU8 cI64))))) (a := (false, ([(x177, x179, i147 + 1)] : List (Int × Int × Int)))) (cs := [(.bool false), (p176 11)]) (⟨[(.bool false)], [(p176 11)], rfl, rfl, ⟨_, rfl, hv191⟩⟩)))
  refine At.permK [1, 2, 3] 4 rfl rfl rfl <| At.blk_n <| At.then_n ?_
  replace hd := chk_some hd; obtain ⟨ha195, hd⟩ := hd
  refine Wp.region <| Seg.op (OpT.add rfl rfl (fits64 ha195)) rfl <| Seg.op (OpT.move rfl) rfl <| Seg.nil ?_
  refine At.nextE (L' := [(0, (sv a0)), (2, (ptr B1 0)), (3, (ptr B3 0)), (6, (.int .i64 (a0.length:Int))), (7, (.int .i64 (i147 + 1)))]) m150 (Nat.lt_succ_self _) (hl185.trans hl193) (.cons rfl (.cons rfl (.cons rfl (.cons rfl (.cons rfl (.nil)))))) ⟨(l143 ++ ([(false, ([(x177, x179, i147 + 1)] : List (Int × Int × Int)))] : List (Bool × (List (Int × Int × Int))))), (i147 + 1), (p176 14), xs145 ++ [(.bool false), (p176 11)], rfl, rfl, (by rw [← hn155]; exact hd), hq194⟩
 replace hd := brF hb156 hd
 replace hb156 := of_decide_eq_false hb156
 refine Wp.exit <| At.then_x <| At.then_x <| At.blk_hit <| At.then_n <| Wp.seq ?_
 replace hd := chk_some hd; obtain ⟨ha200, hd⟩ := hd
 refine Wp.region <| Seg.op (OpT.fld (o' := 0) fl26_0 rfl rfl) rfl <| Seg.op (OpT.ldBlk (i := 1) (v := v144) Tryd.underlying22 rfl rfl rfl rfl) rfl <| Seg.op (OpT.buildS (vs := [(0, (.bool true))]) (cs := #[(.bool true), (.slice none 0 0)]) plf40 ti40 rfl rfl (vc_cons rfl (vc_nil)) rfl) rfl <| Seg.buildD1 (c := (cP cB (cL (cP cU8 (cP cU8 cI64))))) (y := (true, ([] : List (Int × Int × Int)))) (cs := [(.bool true), (.slice none 0 0)]) Tryd.underlying22 ti40 rfl rfl rfl rfl (⟨[(.bool true)], [(.slice none 0 0)], rfl, rfl, ⟨_, rfl, SlD.nil⟩⟩) rfl fun v197 xs198 hq199 => Seg.appD (i := 1) (j := 0) hq146 hq199 Tryd.underlying22 ti40 rfl (by decide) rfl rfl rfl rfl (by decide) ha200 rfl fun v201 xs202 hq203 => Seg.drop (i := 0) <| Seg.op (OpT.fld (o' := 0) fl26_0 rfl rfl) rfl ?_
 refine Seg.rowOne (i := 0) rfl fun ho204 => Seg.stBlk1 (i := 1) rfl rfl ho204 ti22 rfl (Nat.le_of_ble_eq_true rfl) ?_
 refine Seg.own (O := .row v201 40 2 (l143 ++ ([(true, ([] : List (Int × Int × Int)))] : List (Bool × (List (Int × Int × Int))))).length xs202 :: .blk B3 (.cells #[v201] 26 (0, 0)) :: .blk B1 (.cells #[(.slice none 0 0)] 26 (0, 0)) :: O) ?_ rfl
 refine Seg.nilT <| Wp.sr <| Seg.op (OpT.ldBlkW (i := 1) Tryd.underlying26 rfl ti26 rfl rfl rfl) rfl <| Seg.rowOne (i := 0) rfl fun ho205 => Seg.stBlkW (i := 2) (cs' := #[v201]) rfl rfl ti26 rfl rfl (onesA (ones_cons ho205 (ones_nil))) rfl ?_
 refine Seg.own (O := .row v201 40 2 (l143 ++ ([(true, ([] : List (Int × Int × Int)))] : List (Bool × (List (Int × Int × Int))))).length xs202 :: .blk B3 (.cells #[v201] 26 (0, 0)) :: .blk B1 (.cells #[v201] 26 (0, 0)) :: O) ?_ rfl
 refine Seg.nilT <| Wp.ret ?_
 refine At.rowLe (i := 0) rfl fun hb206 => ?_
 refine At.freeze (i := 0) rfl fun H209 hl210 hs207 => ?_
 have hv208 := SlD.of (c := (cP cB (cL (cP cU8 (cP cU8 cI64))))) hs207 rfl (hq203.mono hl210) hb206
 obtain rfl := Option.some.inj hd
 exact At.res1 rfl (RV.cellA (i := 1) rfl Tryd.underlying26 rfl ti26 rfl rfl) (fun w hs => ⟨_, _, _, rfl, (hl152.trans hl210), (hs.dropN 2), ⟨⟨v201, rfl, hv208⟩, rfl⟩⟩)

set_option maxRecDepth 100000 in
set_option maxHeartbeats 4000000 in
theorem au_All_w {fu : Nat} {r : List (Bool × (List (Int × Int × Int)))} (hd : au_All fu = some r) :
    Tri Tryd.prog 15 [] H O (fun v H' O' => (∃ v24 : Value, (.agg #[v24]) = v ∧ SlD (cP cB (cL (cP cU8 (cP cU8 cI64)))) H' r v24) ∧ O = O') := by
 intro w hs
 refine wp_of Tryd.func15 rfl rfl rfl ?_ hs
 clear hs w
 unfold au_All at hd
 refine Wp.sr <| Seg.alloc (cs := #[(.slice none 0 0)]) ti26 rfl rfl fun B1 => Seg.nilT <| Wp.sr <| Seg.op (OpT.buildS (vs := [(0, (.int .u8 0)), (1, (.int .u8 255)), (2, (.int .i64 0))]) (cs := #[(.int .u8 0), (.int .u8 255), (.int .i64 0)]) plf50 ti50 rfl rfl (vc_cons rfl (vc_cons rfl (vc_cons rfl (vc_nil)))) rfl) rfl <| Seg.buildD1 (c := (cP cU8 (cP cU8 cI64))) (y := (0, 255, 0)) (cs := [(.int .u8 0), (.int .u8 255), (.int .i64 0)]) Tryd.underlying38 ti50 rfl rfl rfl rfl (⟨[(.int .u8 0)], [(.int .u8 255), (.int .i64 0)], rfl, ⟨rfl, (show (0 : Int) ≤ 0 by omega), (show 0 ≤ (255 : Int) by omega)⟩, ⟨[(.int .u8 255)], [(.int .i64 0)], rfl, ⟨rfl, (show (0 : Int) ≤ 255 by omega), (show 255 ≤ (255 : Int) by omega)⟩, rfl⟩⟩) rfl fun v3 xs4 hq5 => Seg.rowOne (i := 0) rfl fun ho7 => Seg.op (OpT.buildS (vs := [(0, (.bool true)), (1, v3)]) (cs := #[(.bool true), v3]) plf40 ti40 rfl rfl (vc_cons rfl (vc_cons (cells1 ho7) (vc_nil))) rfl) rfl ?_
 refine Seg.rowLe (i := 0) rfl fun hb11 => ?_
 refine Seg.freeze (i := 0) rfl fun H12 hl13 hs14 => ?_
 have hv15 := SlD.of (c := (cP cU8 (cP cU8 cI64))) hs14 rfl (hq5.mono hl13) hb11
 refine Seg.buildD1 (c := (cP cB (cL (cP cU8 (cP cU8 cI64))))) (y := (true, ([(0, 255, 0)] : List (Int × Int × Int)))) (cs := [(.bool true), v3]) Tryd.underlying22 ti40 rfl rfl rfl rfl (⟨[(.bool true)], [v3], rfl, rfl, ⟨_, rfl, hv15⟩⟩) rfl fun v8 xs9 hq10 => Seg.rowOne (i := 0) rfl fun ho17 => Seg.op (OpT.buildS (vs := [(0, v8)]) (cs := #[v8]) plf26 ti26 rfl rfl (vc_cons (cells1 ho17) (vc_nil)) rfl) rfl <| Seg.rowOne (i := 0) rfl fun ho18 => Seg.stBlkW (i := 1) (cs' := #[v8]) rfl rfl ti26 rfl rfl (onesA (ones_cons ho18 (ones_nil))) rfl ?_
 refine Seg.own (O := .row v8 40 2 ([(true, ([(0, 255, 0)] : List (Int × Int × Int)))] : List (Bool × (List (Int × Int × Int)))).length xs9 :: .blk B1 (.cells #[v8] 26 (0, 0)) :: O) ?_ rfl
 refine Seg.nilT <| Wp.ret ?_
 refine At.rowLe (i := 0) rfl fun hb19 => ?_
 refine At.freeze (i := 0) rfl fun H22 hl23 hs20 => ?_
 have hv21 := SlD.of (c := (cP cB (cL (cP cU8 (cP cU8 cI64))))) hs20 rfl (hq10.mono hl23) hb19
 obtain rfl := Option.some.inj hd
 exact At.res1 rfl (RV.cellA (i := 0) rfl Tryd.underlying26 rfl ti26 rfl rfl) (fun w hs => ⟨_, _, _, rfl, (hl13.trans hl23), (hs.dropN 1), ⟨⟨v8, rfl, hv21⟩, rfl⟩⟩)

set_option maxRecDepth 100000 in
set_option maxHeartbeats 4000000 in
theorem au_cut_w {fu : Nat} {a0 : List (Bool × (List (Int × Int × Int)))} {v1 : Value} {r : List Int} (hv2 : SlD (cP cB (cL (cP cU8 (cP cU8 cI64)))) H a0 v1) (hd : au_cut fu a0 = some r) :
    Tri Tryd.prog 33 [v1] H O (fun v H' O' => (∃ v358 : Value, v358 = v ∧ SlD cI64 H' r v358) ∧ O = O') := by
 intro w hs
 refine wp_of Tryd.func33 rfl rfl rfl ?_ hs
 clear hs w
 unfold au_cut at hd
 refine Wp.sr <| Seg.op (OpT.assign rfl) rfl <| Seg.nilT <| Wp.sr <| Seg.alloc (cs := (List.replicate 257 (.bool false)).toArray) ti101 rfl rfl fun B4 => ?_
 have hq5 : LayL cB H (List.replicate 257 false : List Bool) ((List.replicate 257 (.bool false)).toArray).toList := LayL.repl rfl 257
 refine Seg.nilT <| Wp.seq ?_
 obtain ⟨x6, hx7, hd⟩ := bnd_some hd
 refine Wp.region ?_
 obtain ⟨_, rfl, hc8, hc8_⟩ := LayL.get hq5 (idx_some hx7).2
 have hn9 := LayL.lenA hq5 (szRep 257 _)
 refine Seg.op (OpT.ixArr (off' := 0 * 1) Tryd.underlying101 ti4 rfl rfl (by have := idx_bd hx7; simp only [cB, cI64, cU8] at hn9; omega) (by simp)) rfl ?_
 refine Seg.stA (q := 0) (y := true) (i := 0) hq5 (szRep 257 _) (idx_bd hx7) rfl rfl rfl ti4 rfl (rfl) (fun cs10 hq11 => ?_)
 refine Seg.nilT <| Wp.seq <| Wp.sr <| Seg.op (OpT.move rfl) rfl ?_
 have hb12 := hv2.le
 refine Seg.op (OpT.len Tryd.underlying22 rfl hv2.sl) rfl <| Seg.op (OpT.move rfl) rfl <| Seg.nilT <| Wp.block <| Wp.sub (L' := [(3, (ptr B4 0)), (11, v1), (12, (.int .i64 (a0.length:Int))), (13, (.int .i64 ((0 : Nat) : Int)))]) (.cons rfl (.cons rfl (.cons rfl (.cons (lk_int rfl (by omega)) (.nil))))) <| Wp.loopE (fun m LL HH OO => ∃ (l187 : List Bool), ∃ (k190 : Nat), ∃ (cs188 : Array Value), [(3, (ptr B4 0)), (11, v1), (12, (.int .i64 (a0.length:Int))), (13, (.int .i64 (k190:Int)))] = LL ∧ .blk B4 (.cells cs188 101 (0, 0)) :: O = OO ∧ loopK m (fun p nx => au_cut_b1 fu a0 p.1 p.2 nx) (l187, k190) = some r ∧ LayL cB HH l187 cs188.toList ∧ cs188.size = 257) fu ⟨((List.replicate 257 false : List Bool).set 0 true), 0, cs10, rfl, rfl, hd, ⟨hq11.1, hq11.2⟩⟩ ?_
 intro m192 L196 H194 O197 hl195 hI191
 obtain ⟨l187, k190, cs188, rfl, rfl, hd, hq189⟩ := hI191
 replace hd := loopK_some hd; obtain ⟨m193, rfl, hd⟩ := hd
 obtain ⟨nx186, hn198⟩ : ∃ f, f = loopK m193 (fun p nx => au_cut_b1 fu a0 p.1 p.2 nx) := ⟨_, rfl⟩
 rw [← hn198] at hd
 replace hd : au_cut_b1 fu a0 l187 k190 nx186 = some r := hd
 unfold au_cut_b1 at hd
 refine Wp.sr <| Seg.op (OpT.lss rfl rfl) rfl <| Seg.nilT <| Wp.seq ?_
 refine Wp.cond (b := decide ((k190:Int) < (a0.length:Int))) rfl (fun hb199 => ?_) (fun hb199 => ?_)
 ·
  replace hd := brT hb199 hd
  replace hb199 := of_decide_eq_true hb199
  refine Wp.skip <| At.then_n <| Wp.seq <| Wp.block <| Wp.seq ?_
  obtain ⟨x200, hx201, hd⟩ := bnd_some hd
  have hx201_ := idx_bd hx201
  refine Wp.region ?_
  obtain ⟨_, ⟨_, _, rfl, rfl, ⟨v203, rfl, hv204⟩⟩, hc202⟩ := SlD.get (hv2.mono hl195) hx201
  refine Seg.op (OpT.ixSl Tryd.underlying22 ti40 rfl (hv2.mono hl195).sl rfl (idx_bd hx201)) rfl <| Seg.op (OpT.ldHA (vs := [(.bool x200.1), v203]) Tryd.underlying40 rfl ti40 rfl rfl (fun j u hj => (hc202 j u hj))) rfl <| Seg.alloc (cs := #[(.bool false), (.slice none 0 0)]) ti40 rfl rfl fun B205 => Seg.stBlkW (i := 0) (cs' := #[(.bool x200.1), v203]) rfl rfl ti40 rfl rfl (onesA (ones_cons rfl (ones_cons hv204.one (ones_nil)))) rfl ?_
  refine Seg.own (O := .blk B205 (.cells #[(.bool x200.1), v203] 40 (0, 0)) :: .blk B4 (.cells cs188 101 (0, 0)) :: O) ?_ rfl
  refine Seg.nilT <| Wp.sr <| Seg.op (OpT.fld (o' := 1) fl40_1 rfl rfl) rfl <| Seg.op (OpT.ldBlk (i := 0) (v := v203) Tryd.underlying38 rfl rfl rfl rfl) rfl ?_
  have hb207 := hv204.le
  refine Seg.op (OpT.len Tryd.underlying38 rfl hv204.sl) rfl <| Seg.op (OpT.move rfl) rfl <| Seg.nilT <| Wp.block <| Wp.sub (L' := [(3, (ptr B4 0)), (11, v1), (12, (.int .i64 (a0.length:Int))), (13, (.int .i64 (k190:Int))), (18, v203), (19, (.int .i64 (x200.2.length:Int))), (20, (.int .i64 ((0 : Nat) : Int)))]) (.cons rfl (.cons rfl (.cons rfl (.cons rfl (.cons rfl (.cons rfl (.cons (lk_int rfl (by omega)) (.nil)))))))) <| Wp.loopE (fun m LL HH OO => ∃ (l258 : List Bool), ∃ (k261 : Nat), ∃ (cs259 : Array Value), [(3, (ptr B4 0)), (11, v1), (12, (.int .i64 (a0.length:Int))), (13, (.int .i64 (k190:Int))), (18, v203), (19, (.int .i64 (x200.2.length:Int))), (20, (.int .i64 (k261:Int)))] = LL ∧ .blk B205 (.cells #[(.bool x200.1), v203] 40 (0, 0)) :: .blk B4 (.cells cs259 101 (0, 0)) :: O = OO ∧ loopK m (fun p nx => au_cut_b2 fu k190 nx186 x200 p.1 p.2 nx) (l258, k261) = some r ∧ LayL cB HH l258 cs259.toList ∧ cs259.size = 257) fu ⟨l187, 0, cs188, rfl, rfl, hd, ⟨hq189.1, hq189.2⟩⟩ ?_
  intro m263 L267 H265 O268 hl266 hI262
  obtain ⟨l258, k261, cs259, rfl, rfl, hd, hq260⟩ := hI262
  replace hd := loopK_some hd; obtain ⟨m264, rfl, hd⟩ := hd
  obtain ⟨nx257, hn269⟩ : ∃ f, f = loopK m264 (fun p nx => au_cut_b2 fu k190 nx186 x200 p.1 p.2 nx) := ⟨_, rfl⟩
  rw [← hn269] at hd
  replace hd : au_cut_b2 fu k190 nx186 x200 l258 k261 nx257 = some r := hd
  unfold au_cut_b2 at hd
  refine Wp.sr <| Seg.op (OpT.lss rfl rfl) rfl <| Seg.nilT <| Wp.seq ?_
  refine Wp.cond (b := decide ((k261:Int) < (x200.2.length:Int))) rfl (fun hb270 => ?_) (fun hb270 => ?_)
  ·
   replace hd := brT hb270 hd
   replace hb270 := of_decide_eq_true hb270
   refine Wp.skip <| At.then_n <| Wp.seq <| Wp.block <| Wp.seq ?_
   obtain ⟨x271, hx272, hd⟩ := bnd_some hd
   have hx272_ := idx_bd hx272
   refine Wp.region ?_
   obtain ⟨_, ⟨_, _, rfl, ⟨rfl, hr274, hr275⟩, ⟨_, _, rfl, ⟨rfl, hr276, hr277⟩, rfl⟩⟩, hc273⟩ := SlD.get (hv204.mono hl266) hx272
   refine Seg.op (OpT.ixSl Tryd.underlying38 ti50 rfl (hv204.mono hl266).sl rfl (idx_bd hx272)) rfl <| Seg.op (OpT.ldHA (vs := [(.int .u8 x271.1), (.int .u8 x271.2.1), (.int .i64 x271.2.2)]) Tryd.underlying50 rfl ti50 rfl rfl (fun j u hj => (hc273 j u hj))) rfl <| Seg.alloc (cs := #[(.int .u8 0), (.int .u8 0), (.int .i64 0)]) ti50 rfl rfl fun B278 => Seg.stBlkW (i := 0) (cs' := #[(.int .u8 x271.1), (.int .u8 x271.2.1), (.int .i64 x271.2.2)]) rfl rfl ti50 rfl rfl (onesA (ones_cons rfl (ones_cons rfl (ones_cons rfl (ones_nil))))) rfl ?_
   refine Seg.own (O := .blk B278 (.cells #[(.int .u8 x271.1), (.int .u8 x271.2.1), (.int .i64 x271.2.2)] 50 (0, 0)) :: .blk B205 (.cells #[(.bool x200.1), v203] 40 (0, 0)) :: .blk B4 (.cells cs259 101 (0, 0)) :: O) ?_ rfl
   refine Seg.nilT <| Wp.seq ?_
   obtain ⟨x279, hx280, hd⟩ := bnd_some hd
   refine Wp.region <| Seg.op (OpT.fld (o' := 0) fl50_0 rfl rfl) rfl <| Seg.op (OpT.ldBlk (i := 0) (v := (.int .u8 x271.1)) Tryd.underlying5 rfl rfl rfl rfl) rfl ?_
   obtain ⟨_, rfl, hc281, hc281_⟩ := LayL.get hq260.1 (idx_some hx280).2
   have hn282 := LayL.lenA hq260.1 hq260.2
   refine Seg.op (OpT.ixArr (off' := x271.1.toNat * 1) Tryd.underlying101 ti4 rfl rfl (by have := idx_bd hx280; simp only [cB, cI64, cU8] at hn282; omega) (by simp)) rfl ?_
   refine Seg.stA (q := 2) (y := true) (i := x271.1) hq260.1 hq260.2 (idx_bd hx280) rfl rfl rfl ti4 rfl (rfl) (fun cs283 hq284 => ?_)
   refine Seg.nilT ?_
   replace hd := chk_some hd; obtain ⟨ha285, hd⟩ := hd
   obtain ⟨x286, hx287, hd⟩ := bnd_some hd
   refine Wp.region <| Seg.op (OpT.fld (o' := 1) fl50_1 rfl rfl) rfl <| Seg.op (OpT.ldBlk (i := 0) (v := (.int .u8 x271.2.1)) Tryd.underlying5 rfl rfl rfl rfl) rfl <| Seg.op (OpT.conv Tryd.underlying5 Tryd.underlying3 rfl (fits64 (by omega))) rfl <| Seg.op (OpT.add rfl rfl (fits64 ha285)) rfl ?_
   obtain ⟨_, rfl, hc288, hc288_⟩ := LayL.get hq284.1 (idx_some hx287).2
   have hn289 := LayL.lenA hq284.1 hq284.2
   refine Seg.op (OpT.ixArr (off' := ((x271.2.1 + 1).toNat) * 1) Tryd.underlying101 ti4 rfl rfl (by have := idx_bd hx287; simp only [cB, cI64, cU8] at hn289; omega) (by simp)) rfl ?_
   refine Seg.stA (q := 2) (y := true) (i := (x271.2.1 + 1)) hq284.1 hq284.2 (idx_bd hx287) rfl rfl rfl ti4 rfl (rfl) (fun cs290 hq291 => ?_)
   refine Seg.nil <| At.blk_n <| At.then_n <| Wp.region <| Seg.op (OpT.add rfl rfl (fits64 (by omega))) rfl <| Seg.op (OpT.move rfl) rfl <| Seg.nil <| At.permK [1, 2] 3 rfl rfl rfl ?_
   refine At.nextE (L' := [(3, (ptr B4 0)), (11, v1), (12, (.int .i64 (a0.length:Int))), (13, (.int .i64 (k190:Int))), (18, v203), (19, (.int .i64 (x200.2.length:Int))), (20, (.int .i64 ((k261 + 1 : Nat) : Int)))]) m264 (Nat.lt_succ_self _) (Hp.le.refl _) (.cons rfl (.cons rfl (.cons rfl (.cons rfl (.cons rfl (.cons rfl (.cons (lk_int rfl (by omega)) (.nil)))))))) ⟨((l258.set x271.1.toNat true).set ((x271.2.1 + 1).toNat) true), (k261 + 1), cs290, rfl, rfl, (by rw [← hn269]; exact hd), ⟨hq291.1, hq291.2⟩⟩
  replace hd := brF hb270 hd
  replace hb270 := of_decide_eq_false hb270
  refine Wp.exit <| At.then_x <| At.then_x <| At.blk_hit <| At.blk_n <| At.then_n <| Wp.region <| Seg.op (OpT.add rfl rfl (fits64 (by omega))) rfl ?_
  refine Seg.op (OpT.move rfl) rfl <| Seg.nil <| At.permK [1] 2 rfl rfl rfl ?_
  refine At.nextE (L' := [(3, (ptr B4 0)), (11, v1), (12, (.int .i64 (a0.length:Int))), (13, (.int .i64 ((k190 + 1 : Nat) : Int)))]) m193 (Nat.lt_succ_self _) hl266 (.cons rfl (.cons rfl (.cons rfl (.cons (lk_int rfl (by omega)) (.nil))))) ⟨l258, (k190 + 1), cs259, rfl, rfl, (by rw [← hn198]; exact hd), ⟨hq260.1, hq260.2⟩⟩
 replace hd := brF hb199 hd
 replace hb199 := of_decide_eq_false hb199
 refine Wp.exit <| At.then_x <| At.then_x <| At.blk_hit <| At.then_n <| Wp.sr <| Seg.op (OpT.assign rfl) rfl <| Seg.nilT ?_
 refine Wp.seq <| Wp.sr <| Seg.op (OpT.move rfl) rfl <| Seg.nilT <| Wp.block <| Wp.nilRow 3 1 <| Wp.sub (L' := [(3, (ptr B4 0)), (8, (.slice none 0 0)), (34, (.int .i64 ((0 : Nat) : Int)))]) (.cons rfl (.cons rfl (.cons (lk_int rfl (by omega)) (.nil)))) <| Wp.loopE (fun m LL HH OO => ∃ (l327 : List Int), ∃ (k331 : Nat), ∃ (v328 : Value), ∃ (xs329 : List Value), [(3, (ptr B4 0)), (8, v328), (34, (.int .i64 (k331:Int)))] = LL ∧ .row v328 3 1 l327.length xs329 :: .blk B4 (.cells cs188 101 (0, 0)) :: O = OO ∧ loopK m (fun p nx => au_cut_b3 fu l187 p.1 p.2 nx) (l327, k331) = some r ∧ LayL cI64 HH l327 xs329) fu ⟨([] : List Int), 0, (.slice none 0 0), [], rfl, rfl, hd, (LayL.nil (c := cI64) (H := H194))⟩ ?_
 intro m333 L337 H335 O338 hl336 hI332
 obtain ⟨l327, k331, v328, xs329, rfl, rfl, hd, hq330⟩ := hI332
 replace hd := loopK_some hd; obtain ⟨m334, rfl, hd⟩ := hd
 obtain ⟨nx326, hn339⟩ : ∃ f, f = loopK m334 (fun p nx => au_cut_b3 fu l187 p.1 p.2 nx) := ⟨_, rfl⟩
 rw [← hn339] at hd
 replace hd : au_cut_b3 fu l187 l327 k331 nx326 = some r := hd
 unfold au_cut_b3 at hd
 refine Wp.sr <| Seg.op (OpT.lss rfl rfl) rfl <| Seg.nilT <| Wp.seq ?_
 refine Wp.cond (b := decide ((k331:Int) < 256)) rfl (fun hb340 => ?_) (fun hb340 => ?_)
 ·
  replace hd := brT hb340 hd
  replace hb340 := of_decide_eq_true hb340
  refine Wp.skip <| At.then_n <| Wp.seq <| Wp.block <| Wp.sr <| Seg.op (OpT.move rfl) rfl <| Seg.op (OpT.assign rfl) rfl <| Seg.nilT ?_
  refine Wp.seq ?_
  obtain ⟨x341, hx342, hd⟩ := bnd_some hd
  refine Wp.region <| Seg.op (OpT.move rfl) rfl ?_
  obtain ⟨_, rfl, hc343, hc343_⟩ := LayL.get (hq189.1.mono hl336) (idx_some hx342).2
  have hn344 := LayL.lenA (hq189.1.mono hl336) hq189.2
  refine Seg.op (OpT.ixArr (off' := k331 * 1) Tryd.underlying101 ti4 rfl rfl (by have := idx_bd hx342; simp only [cB, cI64, cU8] at hn344; omega) (by simp)) rfl <| Seg.op (OpT.ldBlk (i := 1) (v := (.bool x341)) Tryd.underlying4 rfl rfl rfl (by have := hc343 0 _ rfl; simpa [cB, cI64, cU8] using this)) rfl <| Seg.nilT ?_
  refine Wp.cond (b := x341) rfl (fun hb345 => ?_) (fun hb345 => ?_)
  ·
   replace hd := brT hb345 hd
   replace hd := chk_some hd; obtain ⟨ha349, hd⟩ := hd
   refine Wp.region <| Seg.op (OpT.move rfl) rfl <| Seg.op (OpT.move rfl) rfl <| Seg.buildD1 (c := cI64) (y := (k331:Int)) (cs := [(.int .i64 (k331:Int))]) Tryd.underlying67 ti3 rfl rfl rfl rfl (rfl) rfl fun v346 xs347 hq348 => Seg.appD (i := 1) (j := 0) hq330 hq348 Tryd.underlying67 ti3 rfl (by decide) rfl rfl rfl rfl (by decide) ha349 rfl fun v350 xs351 hq352 => Seg.drop (i := 0) <| Seg.op (OpT.assign rfl) rfl <| Seg.nil ?_
   refine At.blk_n <| At.then_n <| Wp.region <| Seg.op (OpT.add rfl rfl (fits64 (by omega))) rfl <| Seg.op (OpT.move rfl) rfl <| Seg.nil ?_
   refine At.nextE (L' := [(3, (ptr B4 0)), (8, v350), (34, (.int .i64 ((k331 + 1 : Nat) : Int)))]) m334 (Nat.lt_succ_self _) (Hp.le.refl _) (.cons rfl (.cons rfl (.cons (lk_int rfl (by omega)) (.nil)))) ⟨(l327 ++ ([(k331:Int)] : List Int)), (k331 + 1), v350, xs351, rfl, rfl, (by rw [← hn339]; exact hd), hq352⟩
  replace hd := brF hb345 hd
  refine Wp.skip <| At.blk_n <| At.then_n <| Wp.region <| Seg.op (OpT.add rfl rfl (fits64 (by omega))) rfl <| Seg.op (OpT.move rfl) rfl <| Seg.nil ?_
  refine At.nextE (L' := [(3, (ptr B4 0)), (8, v328), (34, (.int .i64 ((k331 + 1 : Nat) : Int)))]) m334 (Nat.lt_succ_self _) (Hp.le.refl _) (.cons rfl (.cons rfl (.cons (lk_int rfl (by omega)) (.nil)))) ⟨l327, (k331 + 1), v328, xs329, rfl, rfl, (by rw [← hn339]; exact hd), hq330⟩
 replace hd := brF hb340 hd
 replace hb340 := of_decide_eq_false hb340
 refine Wp.exit <| At.then_x <| At.then_x <| At.blk_hit <| At.then_n <| Wp.sr <| Seg.op (OpT.move rfl) rfl <| Seg.op (OpT.assign rfl) rfl ?_
 refine Seg.nilT <| Wp.ret ?_
 refine At.rowLe (i := 0) rfl fun hb353 => ?_
 refine At.freeze (i := 0) rfl fun H356 hl357 hs354 => ?_
 have hv355 := SlD.of (c := cI64) hs354 rfl (hq330.mono hl357) hb353
 obtain rfl := Option.some.inj hd
 exact At.res1 rfl (RV.tmp (v := v328) rfl) (fun w hs => ⟨_, _, _, rfl, ((hl195.trans hl336).trans hl357), (hs.dropN 1), ⟨⟨v328, rfl, hv355⟩, rfl⟩⟩)

set_option maxRecDepth 100000 in
set_option maxHeartbeats 4000000 in
theorem au_complete_w {fu : Nat} {a0 : List (Bool × (List (Int × Int × Int)))} {v1 : Value} {r : (List Int) × (List (List Int)) × (List Bool) × (List Int)} (hv2 : SlD (cP cB (cL (cP cU8 (cP cU8 cI64)))) H a0 v1) (hd : au_complete fu a0 = some r) :
    Tri Tryd.prog 25 [v1] H O (fun v H' O' => ∃ B1 : Nat, ∃ v933 : Value, ∃ v935 : Value, ∃ v937 : Value, ∃ v939 : Value, (ptr B1 0) = v ∧ SlD cI64 H' r.1 v933 ∧ SlD (cL cI64) H' r.2.1 v935 ∧ SlD cB H' r.2.2.1 v937 ∧ SlD cI64 H' r.2.2.2 v939 ∧ .blk B1 (.cells #[v933, v935, v937, v939] 71 (0, 0)) :: O = O') := by
 intro w hs
 refine wp_of Tryd.func25 rfl rfl rfl ?_ hs
 clear hs w
 unfold au_complete at hd
 refine Wp.sr <| Seg.op (OpT.assign rfl) rfl <| Seg.nilT <| Wp.seq ?_
 obtain ⟨x3, hx4, hd⟩ := bnd_some hd
 refine Wp.region <| Seg.op (OpT.move rfl) rfl <| Seg.opS (OpS.call ent33 rfl (au_cut_w hv2 hx4)) rfl ?_
 rintro _ H5 _ hl6 ⟨⟨v7, rfl, hv8⟩, rfl⟩
 refine Seg.op (OpT.buildS (vs := [(0, v7)]) (cs := #[v7, (.slice none 0 0), (.slice none 0 0), (.slice none 0 0)]) plf71 ti71 rfl rfl (vc_cons (cells1 hv8.one) (vc_nil)) rfl) rfl <| Seg.box (cs := #[v7, (.slice none 0 0), (.slice none 0 0), (.slice none 0 0)]) rfl rfl rfl fun B13 => Seg.op (OpT.assign rfl) rfl <| Seg.nilT <| Wp.sr <| Seg.op (OpT.move rfl) rfl ?_
 have hb14 := hv2.le
 refine Seg.op (OpT.len Tryd.underlying22 rfl (hv2.mono hl6).sl) rfl <| Seg.op (OpT.assign rfl) rfl <| Seg.nilT <| Wp.seq <| Wp.sr <| Seg.op (OpT.move rfl) rfl ?_
 have hb15 := hv2.le
 refine Seg.op (OpT.len Tryd.underlying22 rfl (hv2.mono hl6).sl) rfl <| Seg.op (OpT.move rfl) rfl <| Seg.nilT <| Wp.block <| Wp.nilRow 67 1 <| Wp.nilRow 4 1 <| Wp.sub (L' := [(3, (ptr B13 0)), (4, (.int .i64 (a0.length:Int))), (20, v1), (21, (.int .i64 (a0.length:Int))), (22, (.int .i64 ((0 : Nat) : Int)))]) (.cons rfl (.cons rfl (.cons rfl (.cons rfl (.cons (lk_int rfl (by omega)) (.nil)))))) <| Wp.loopE (fun m LL HH OO => ∃ (l558 : List (List Int)), ∃ (l562 : List Bool), ∃ (k566 : Nat), ∃ (v559 : Value), ∃ (xs560 : List Value), ∃ (v563 : Value), ∃ (xs564 : List Value), [(3, (ptr B13 0)), (4, (.int .i64 (a0.length:Int))), (20, v1), (21, (.int .i64 (a0.length:Int))), (22, (.int .i64 (k566:Int)))] = LL ∧ .row v563 4 1 l562.length xs564 :: .row v559 67 1 l558.length xs560 :: .blk B13 (.cells #[v7, v559, v563, (.slice none 0 0)] 71 (0, 0)) :: O = OO ∧ loopK m (fun p nx => au_complete_b1 fu a0 x3 p.1 p.2.1 p.2.2 nx) (l558, l562, k566) = some r ∧ LayL (cL cI64) HH l558 xs560 ∧ LayL cB HH l562 xs564) fu ⟨([] : List (List Int)), ([] : List Bool), 0, (.slice none 0 0), [], (.slice none 0 0), [], rfl, rfl, hd, (LayL.nil (c := (cL cI64)) (H := H5)), (LayL.nil (c := cB) (H := H5))⟩ ?_
 intro m568 L572 H570 O573 hl571 hI567
 obtain ⟨l558, l562, k566, v559, xs560, v563, xs564, rfl, rfl, hd, hq561, hq565⟩ := hI567
 replace hd := loopK_some hd; obtain ⟨m569, rfl, hd⟩ := hd
 obtain ⟨nx557, hn574⟩ : ∃ f, f = loopK m569 (fun p nx => au_complete_b1 fu a0 x3 p.1 p.2.1 p.2.2 nx) := ⟨_, rfl⟩
 rw [← hn574] at hd
 replace hd : au_complete_b1 fu a0 x3 l558 l562 k566 nx557 = some r := hd
 unfold au_complete_b1 at hd
 refine Wp.sr <| Seg.op (OpT.lss rfl rfl) rfl <| Seg.nilT <| Wp.seq ?_
 refine Wp.cond (b := decide ((k566:Int) < (a0.length:Int))) rfl (fun hb575 => ?_) (fun hb575 => ?_)
 ·
  replace hd := brT hb575 hd
  replace hb575 := of_decide_eq_true hb575
  refine Wp.skip <| At.then_n <| Wp.seq <| Wp.block <| Wp.seq ?_
  obtain ⟨x576, hx577, hd⟩ := bnd_some hd
  have hx577_ := idx_bd hx577
  refine Wp.region ?_
  obtain ⟨_, ⟨_, _, rfl, rfl, ⟨v579, rfl, hv580⟩⟩, hc578⟩ := SlD.get (hv2.mono (hl6.trans hl571)) hx577
  refine Seg.op (OpT.ixSl Tryd.underlying22 ti40 rfl (hv2.mono (hl6.trans hl571)).sl rfl (idx_bd hx577)) rfl <| Seg.op (OpT.ldHA (vs := [(.bool x576.1), v579]) Tryd.underlying40 rfl ti40 rfl rfl (fun j u hj => (hc578 j u hj))) rfl <| Seg.alloc (cs := #[(.bool false), (.slice none 0 0)]) ti40 rfl rfl fun B581 => Seg.stBlkW (i := 0) (cs' := #[(.bool x576.1), v579]) rfl rfl ti40 rfl rfl (onesA (ones_cons rfl (ones_cons hv580.one (ones_nil)))) rfl ?_
  refine Seg.own (O := .blk B581 (.cells #[(.bool x576.1), v579] 40 (0, 0)) :: .row v563 4 1 l562.length xs564 :: .row v559 67 1 l558.length xs560 :: .blk B13 (.cells #[v7, v559, v563, (.slice none 0 0)] 71 (0, 0)) :: O) ?_ rfl
  refine Seg.nilT <| Wp.seq ?_
  replace hd := chk_some hd; obtain ⟨ha587, hd⟩ := hd
  refine Wp.region <| Seg.op (OpT.move rfl) rfl <| Seg.op (OpT.nilCheck rfl) rfl <| Seg.op (OpT.fld (o' := 0) fl71_0 rfl rfl) rfl <| Seg.op (OpT.ldBlk (i := 3) (v := v7) Tryd.underlying67 rfl rfl rfl rfl) rfl ?_
  have hb583 := hv8.le
  refine Seg.op (OpT.len Tryd.underlying67 rfl (hv8.mono hl571).sl) rfl <| Seg.makeD (c := cI64) (z := 0) (m := x3.length) Tryd.underlying67 ti3 rfl rfl ha587 (rfl) rfl rfl rfl fun v584 xs585 hq586 => Seg.op (OpT.assign rfl) rfl <| Seg.nilT <| Wp.seq <| Wp.sr <| Seg.op (OpT.move rfl) rfl <| Seg.op (OpT.nilCheck rfl) rfl ?_
  refine Seg.op (OpT.fld (o' := 0) fl71_0 rfl rfl) rfl <| Seg.op (OpT.ldBlk (i := 4) (v := v7) Tryd.underlying67 rfl rfl rfl rfl) rfl ?_
  have hb588 := hv8.le
  refine Seg.op (OpT.len Tryd.underlying67 rfl (hv8.mono hl571).sl) rfl <| Seg.op (OpT.move rfl) rfl <| Seg.nilT <| Wp.block <| Wp.sub (L' := [(3, (ptr B13 0)), (4, (.int .i64 (a0.length:Int))), (6, (ptr B581 0)), (7, v584), (20, v1), (21, (.int .i64 (a0.length:Int))), (22, (.int .i64 (k566:Int))), (35, v7), (36, (.int .i64 (x3.length:Int))), (37, (.int .i64 ((0 : Nat) : Int)))]) (.cons rfl (.cons rfl (.cons rfl (.cons rfl (.cons rfl (.cons rfl (.cons rfl (.cons rfl (.cons rfl (.cons (lk_int rfl (by omega)) (.nil))))))))))) <| Wp.loopE (fun m LL HH OO => ∃ (l738 : List Int), ∃ (k742 : Nat), ∃ (v739 : Value), ∃ (xs740 : List Value), [(3, (ptr B13 0)), (4, (.int .i64 (a0.length:Int))), (6, (ptr B581 0)), (7, v739), (20, v1), (21, (.int .i64 (a0.length:Int))), (22, (.int .i64 (k566:Int))), (35, v7), (36, (.int .i64 (x3.length:Int))), (37, (.int .i64 (k742:Int)))] = LL ∧ .row v739 3 1 l738.length xs740 :: .blk B581 (.cells #[(.bool x576.1), v579] 40 (0, 0)) :: .row v563 4 1 l562.length xs564 :: .row v559 67 1 l558.length xs560 :: .blk B13 (.cells #[v7, v559, v563, (.slice none 0 0)] 71 (0, 0)) :: O = OO ∧ loopK m (fun p nx => au_complete_b2 fu a0 x3 l558 l562 k566 nx557 x576 p.1 p.2 nx) (l738, k742) = some r ∧ LayL cI64 HH l738 xs740) fu ⟨(List.replicate x3.length 0 : List Int), 0, v584, xs585, rfl, rfl, hd, hq586⟩ ?_
  intro m744 L748 H746 O749 hl747 hI743
  obtain ⟨l738, k742, v739, xs740, rfl, rfl, hd, hq741⟩ := hI743
  replace hd := loopK_some hd; obtain ⟨m745, rfl, hd⟩ := hd
  obtain ⟨nx737, hn750⟩ : ∃ f, f = loopK m745 (fun p nx => au_complete_b2 fu a0 x3 l558 l562 k566 nx557 x576 p.1 p.2 nx) := ⟨_, rfl⟩
  rw [← hn750] at hd
  replace hd : au_complete_b2 fu a0 x3 l558 l562 k566 nx557 x576 l738 k742 nx737 = some r := hd
  unfold au_complete_b2 at hd
  refine Wp.sr <| Seg.op (OpT.lss rfl rfl) rfl <| Seg.nilT <| Wp.seq ?_
  refine Wp.cond (b := decide ((k742:Int) < (x3.length:Int))) rfl (fun hb751 => ?_) (fun hb751 => ?_)
  ·
   replace hd := brT hb751 hd
   replace hb751 := of_decide_eq_true hb751
   refine Wp.skip <| At.then_n <| Wp.seq <| Wp.block <| Wp.seq ?_
   obtain ⟨x752, hx753, hd⟩ := bnd_some hd
   have hx753_ := idx_bd hx753
   refine Wp.region <| Seg.op (OpT.move rfl) rfl ?_
   obtain ⟨_, rfl, hc754⟩ := SlD.get (hv8.mono (hl571.trans hl747)) hx753
   refine Seg.op (OpT.ixSl Tryd.underlying67 ti3 rfl (hv8.mono (hl571.trans hl747)).sl rfl (idx_bd hx753)) rfl <| Seg.op (OpT.ldH Tryd.underlying3 rfl rfl (hc754 0 _ rfl)) rfl <| Seg.op (OpT.assign rfl) rfl <| Seg.op (OpT.assign rfl) rfl <| Seg.nilT <| Wp.seq ?_
   obtain ⟨x755, hx756, hd⟩ := bnd_some hd
   have hx756_ := idx_bd hx756
   refine Wp.region <| Seg.op (OpT.move rfl) rfl <| Seg.op (OpT.move rfl) rfl <| Seg.op (OpT.move rfl) rfl ?_
   obtain ⟨_, rfl, hc757, hc757_⟩ := LayL.get hq741 (idx_some hx756).2
   refine Seg.op (OpT.ixRow (j := 0) Tryd.underlying67 ti3 rfl rfl rfl (idx_bd hx756)) rfl ?_
   refine Seg.stD (q := 0) (off := 0) (vs := [(.int .i64 (a0.length:Int))]) (y := (a0.length:Int)) (cs := [(.int .i64 x755)]) hq741 hx756 hc757_ rfl rfl rfl ti3 rfl rfl (ones_cons rfl (ones_nil)) rfl (rfl) rfl (fun xs758 hq759 => ?_)
   refine Seg.nilT <| Wp.sr <| Seg.op (OpT.fld (o' := 1) fl40_1 rfl rfl) rfl <| Seg.op (OpT.ldBlk (i := 1) (v := v579) Tryd.underlying38 rfl rfl rfl rfl) rfl ?_
   have hb760 := hv580.le
   refine Seg.op (OpT.len Tryd.underlying38 rfl (hv580.mono hl747).sl) rfl <| Seg.op (OpT.move rfl) rfl <| Seg.nilT <| Wp.block <| Wp.sub (L' := [(3, (ptr B13 0)), (4, (.int .i64 (a0.length:Int))), (6, (ptr B581 0)), (7, v739), (8, (.int .i64 (k742:Int))), (9, (.int .i64 x752)), (20, v1), (21, (.int .i64 (a0.length:Int))), (22, (.int .i64 (k566:Int))), (35, v7), (36, (.int .i64 (x3.length:Int))), (37, (.int .i64 (k742:Int))), (47, v579), (48, (.int .i64 (x576.2.length:Int))), (49, (.int .i64 ((0 : Nat) : Int)))]) (.cons rfl (.cons rfl (.cons rfl (.cons rfl (.cons rfl (.cons rfl (.cons rfl (.cons rfl (.cons rfl (.cons rfl (.cons rfl (.cons rfl (.cons rfl (.cons rfl (.cons (lk_int rfl (by omega)) (.nil)))))))))))))))) <| Wp.loopE (fun m LL HH OO => ∃ (l802 : List Int), ∃ (k806 : Nat), ∃ (v803 : Value), ∃ (xs804 : List Value), [(3, (ptr B13 0)), (4, (.int .i64 (a0.length:Int))), (6, (ptr B581 0)), (7, v803), (8, (.int .i64 (k742:Int))), (9, (.int .i64 x752)), (20, v1), (21, (.int .i64 (a0.length:Int))), (22, (.int .i64 (k566:Int))), (35, v7), (36, (.int .i64 (x3.length:Int))), (37, (.int .i64 (k742:Int))), (47, v579), (48, (.int .i64 (x576.2.length:Int))), (49, (.int .i64 (k806:Int)))] = LL ∧ .row v803 3 1 l802.length xs804 :: .blk B581 (.cells #[(.bool x576.1), v579] 40 (0, 0)) :: .row v563 4 1 l562.length xs564 :: .row v559 67 1 l558.length xs560 :: .blk B13 (.cells #[v7, v559, v563, (.slice none 0 0)] 71 (0, 0)) :: O = OO ∧ loopK m (fun p nx => au_complete_b3 fu x576 k742 nx737 x752 p.1 p.2 nx) (l802, k806) = some r ∧ LayL cI64 HH l802 xs804) fu ⟨(l738.set k742 (a0.length:Int)), 0, v739, xs758, rfl, rfl, hd, hq759⟩ ?_
   intro m808 L812 H810 O813 hl811 hI807
   obtain ⟨l802, k806, v803, xs804, rfl, rfl, hd, hq805⟩ := hI807
   replace hd := loopK_some hd; obtain ⟨m809, rfl, hd⟩ := hd
   obtain ⟨nx801, hn814⟩ : ∃ f, f = loopK m809 (fun p nx => au_complete_b3 fu x576 k742 nx737 x752 p.1 p.2 nx) := ⟨_, rfl⟩
   rw [← hn814] at hd
   replace hd : au_complete_b3 fu x576 k742 nx737 x752 l802 k806 nx801 = some r := hd
   unfold au_complete_b3 at hd
   refine Wp.sr <| Seg.op (OpT.lss rfl rfl) rfl <| Seg.nilT <| Wp.seq ?_
   refine Wp.cond (b := decide ((k806:Int) < (x576.2.length:Int))) rfl (fun hb815 => ?_) (fun hb815 => ?_)
   ·
    replace hd := brT hb815 hd
    replace hb815 := of_decide_eq_true hb815
    refine Wp.skip <| At.then_n <| Wp.seq <| Wp.block <| Wp.seq ?_
    obtain ⟨x816, hx817, hd⟩ := bnd_some hd
    have hx817_ := idx_bd hx817
    refine Wp.region ?_
    obtain ⟨_, ⟨_, _, rfl, ⟨rfl, hr819, hr820⟩, ⟨_, _, rfl, ⟨rfl, hr821, hr822⟩, rfl⟩⟩, hc818⟩ := SlD.get (hv580.mono (hl747.trans hl811)) hx817
    refine Seg.op (OpT.ixSl Tryd.underlying38 ti50 rfl (hv580.mono (hl747.trans hl811)).sl rfl (idx_bd hx817)) rfl <| Seg.op (OpT.ldHA (vs := [(.int .u8 x816.1), (.int .u8 x816.2.1), (.int .i64 x816.2.2)]) Tryd.underlying50 rfl ti50 rfl rfl (fun j u hj => (hc818 j u hj))) rfl <| Seg.alloc (cs := #[(.int .u8 0), (.int .u8 0), (.int .i64 0)]) ti50 rfl rfl fun B823 => Seg.stBlkW (i := 0) (cs' := #[(.int .u8 x816.1), (.int .u8 x816.2.1), (.int .i64 x816.2.2)]) rfl rfl ti50 rfl rfl (onesA (ones_cons rfl (ones_cons rfl (ones_cons rfl (ones_nil))))) rfl ?_
    refine Seg.own (O := .blk B823 (.cells #[(.int .u8 x816.1), (.int .u8 x816.2.1), (.int .i64 x816.2.2)] 50 (0, 0)) :: .row v803 3 1 l802.length xs804 :: .blk B581 (.cells #[(.bool x576.1), v579] 40 (0, 0)) :: .row v563 4 1 l562.length xs564 :: .row v559 67 1 l558.length xs560 :: .blk B13 (.cells #[v7, v559, v563, (.slice none 0 0)] 71 (0, 0)) :: O) ?_ rfl
    refine Seg.nilT <| Wp.seq ?_
    rcases Bool.eq_false_or_eq_true (decide (x816.1 ≤ x752)) with hg824 | hg824
    ·
     replace hd := brT hg824 hd
     have hg824_ := of_decide_eq_true hg824
     refine Wp.region <| Seg.op (OpT.fld (o' := 0) fl50_0 rfl rfl) rfl <| Seg.op (OpT.ldBlk (i := 0) (v := (.int .u8 x816.1)) Tryd.underlying5 rfl rfl rfl rfl) rfl <| Seg.op (OpT.conv Tryd.underlying5 Tryd.underlying3 rfl (fits64 (by omega))) rfl <| Seg.op (OpT.move rfl) rfl <| Seg.op (OpT.asB (b := decide (x816.1 ≤ x752)) (c := true) (OpT.leq rfl rfl) hg824) rfl <| Seg.op (OpT.move rfl) rfl <| Seg.opG rfl rfl (OpT.move rfl) rfl ?_
     refine Seg.opG rfl rfl (OpT.fld (o' := 1) fl50_1 rfl rfl) rfl <| Seg.opG rfl rfl (OpT.ldBlk (i := 0) (v := (.int .u8 x816.2.1)) Tryd.underlying5 rfl rfl rfl rfl) rfl <| Seg.opG rfl rfl (OpT.conv Tryd.underlying5 Tryd.underlying3 rfl (fits64 (by omega))) rfl <| Seg.opG rfl rfl (OpT.leq rfl rfl) rfl <| Seg.op (OpT.pickT rfl rfl) rfl <| Seg.nilT ?_
     refine Wp.cond (b := decide (x752 ≤ x816.2.1)) rfl (fun hb825 => ?_) (fun hb825 => ?_)
     ·
      replace hd := brT hb825 hd
      replace hb825 := of_decide_eq_true hb825
      obtain ⟨x826, hx827, hd⟩ := bnd_some hd
      have hx827_ := idx_bd hx827
      refine Wp.region <| Seg.op (OpT.move rfl) rfl <| Seg.op (OpT.move rfl) rfl <| Seg.op (OpT.fld (o' := 2) fl50_2 rfl rfl) rfl <| Seg.op (OpT.ldBlk (i := 0) (v := (.int .i64 x816.2.2)) Tryd.underlying3 rfl rfl rfl rfl) rfl ?_
      obtain ⟨_, rfl, hc828, hc828_⟩ := LayL.get hq805 (idx_some hx827).2
      refine Seg.op (OpT.ixRow (j := 1) Tryd.underlying67 ti3 rfl rfl rfl (idx_bd hx827)) rfl ?_
      refine Seg.stD (q := 1) (off := 0) (vs := [(.int .i64 x816.2.2)]) (y := x816.2.2) (cs := [(.int .i64 x826)]) hq805 hx827 hc828_ rfl rfl rfl ti3 rfl rfl (ones_cons rfl (ones_nil)) rfl (rfl) rfl (fun xs829 hq830 => ?_)
      refine Seg.nil <| At.blk_n <| At.then_n <| Wp.region <| Seg.op (OpT.add rfl rfl (fits64 (by omega))) rfl <| Seg.op (OpT.move rfl) rfl <| Seg.nil <| At.permK [1, 2, 3, 4, 5] 6 rfl rfl rfl ?_
      refine At.nextE (L' := [(3, (ptr B13 0)), (4, (.int .i64 (a0.length:Int))), (6, (ptr B581 0)), (7, v803), (8, (.int .i64 (k742:Int))), (9, (.int .i64 x752)), (20, v1), (21, (.int .i64 (a0.length:Int))), (22, (.int .i64 (k566:Int))), (35, v7), (36, (.int .i64 (x3.length:Int))), (37, (.int .i64 (k742:Int))), (47, v579), (48, (.int .i64 (x576.2.length:Int))), (49, (.int .i64 ((k806 + 1 : Nat) : Int)))]) m809 (Nat.lt_succ_self _) (Hp.le.refl _) (.cons rfl (.cons rfl (.cons rfl (.cons rfl (.cons rfl (.cons rfl (.cons rfl (.cons rfl (.cons rfl (.cons rfl (.cons rfl (.cons rfl (.cons rfl (.cons rfl (.cons (lk_int rfl (by omega)) (.nil)))))))))))))))) ⟨(l802.set k742 x816.2.2), (k806 + 1), v803, xs829, rfl, rfl, (by rw [← hn814]; exact hd), hq830⟩
     replace hd := brF hb825 hd
     replace hb825 := of_decide_eq_false hb825
     refine Wp.skip <| At.blk_n <| At.then_n <| Wp.region <| Seg.op (OpT.add rfl rfl (fits64 (by omega))) rfl <| Seg.op (OpT.move rfl) rfl <| Seg.nil <| At.permK [1, 2, 3, 4, 5] 6 rfl rfl rfl ?_
     refine At.nextE (L' := [(3, (ptr B13 0)), (4, (.int .i64 (a0.length:Int))), (6, (ptr B581 0)), (7, v803), (8, (.int .i64 (k742:Int))), (9, (.int .i64 x752)), (20, v1), (21, (.int .i64 (a0.length:Int))), (22, (.int .i64 (k566:Int))), (35, v7), (36, (.int .i64 (x3.length:Int))), (37, (.int .i64 (k742:Int))), (47, v579), (48, (.int .i64 (x576.2.length:Int))), (49, (.int .i64 ((k806 + 1 : Nat) : Int)))]) m809 (Nat.lt_succ_self _) (Hp.le.refl _) (.cons rfl (.cons rfl (.cons rfl (.cons rfl (.cons rfl (.cons rfl (.cons rfl (.cons rfl (.cons rfl (.cons rfl (.cons rfl (.cons rfl (.cons rfl (.cons rfl (.cons (lk_int rfl (by omega)) (.nil)))))))))))))))) ⟨l802, (k806 + 1), v803, xs804, rfl, rfl, (by rw [← hn814]; exact hd), hq805⟩
    replace hd := brF hg824 hd
    have hg824_ := of_decide_eq_false hg824
    refine Wp.region <| Seg.op (OpT.fld (o' := 0) fl50_0 rfl rfl) rfl <| Seg.op (OpT.ldBlk (i := 0) (v := (.int .u8 x816.1)) Tryd.underlying5 rfl rfl rfl rfl) rfl <| Seg.op (OpT.conv Tryd.underlying5 Tryd.underlying3 rfl (fits64 (by omega))) rfl <| Seg.op (OpT.move rfl) rfl <| Seg.op (OpT.asB (b := decide (x816.1 ≤ x752)) (c := false) (OpT.leq rfl rfl) hg824) rfl <| Seg.op (OpT.move rfl) rfl <| Seg.skipG rfl rfl rfl rfl ?_
    refine Seg.skipG rfl rfl rfl rfl <| Seg.skipG rfl rfl rfl rfl <| Seg.skipG rfl rfl rfl rfl <| Seg.skipG rfl rfl rfl rfl <| Seg.op (OpT.pickF rfl rfl) rfl <| Seg.nilT <| Wp.condF rfl <| Wp.skip ?_
    refine At.blk_n <| At.then_n <| Wp.region <| Seg.op (OpT.add rfl rfl (fits64 (by omega))) rfl <| Seg.op (OpT.move rfl) rfl <| Seg.nil <| At.permK [1, 2, 3, 4, 5] 6 rfl rfl rfl ?_
    refine At.nextE (L' := [(3, (ptr B13 0)), (4, (.int .i64 (a0.length:Int))), (6, (ptr B581 0)), (7, v803), (8, (.int .i64 (k742:Int))), (9, (.int .i64 x752)), (20, v1), (21, (.int .i64 (a0.length:Int))), (22, (.int .i64 (k566:Int))), (35, v7), (36, (.int .i64 (x3.length:Int))), (37, (.int .i64 (k742:Int))), (47, v579), (48, (.int .i64 (x576.2.length:Int))), (49, (.int .i64 ((k806 + 1 : Nat) : Int)))]) m809 (Nat.lt_succ_self _) (Hp.le.refl _) (.cons rfl (.cons rfl (.cons rfl (.cons rfl (.cons rfl (.cons rfl (.cons rfl (.cons rfl (.cons rfl (.cons rfl (.cons rfl (.cons rfl (.cons rfl (.cons rfl (.cons (lk_int rfl (by omega)) (.nil)))))))))))))))) ⟨l802, (k806 + 1), v803, xs804, rfl, rfl, (by rw [← hn814]; exact hd), hq805⟩
   replace hd := brF hb815 hd
   replace hb815 := of_decide_eq_false hb815
   refine Wp.exit <| At.then_x <| At.then_x <| At.blk_hit <| At.blk_n <| At.then_n <| Wp.region <| Seg.op (OpT.add rfl rfl (fits64 (by omega))) rfl ?_
   refine Seg.op (OpT.move rfl) rfl <| Seg.nil ?_
   refine At.nextE (L' := [(3, (ptr B13 0)), (4, (.int .i64 (a0.length:Int))), (6, (ptr B581 0)), (7, v803), (20, v1), (21, (.int .i64 (a0.length:Int))), (22, (.int .i64 (k566:Int))), (35, v7), (36, (.int .i64 (x3.length:Int))), (37, (.int .i64 ((k742 + 1 : Nat) : Int)))]) m745 (Nat.lt_succ_self _) hl811 (.cons rfl (.cons rfl (.cons rfl (.cons rfl (.cons rfl (.cons rfl (.cons rfl (.cons rfl (.cons rfl (.cons (lk_int rfl (by omega)) (.nil))))))))))) ⟨l802, (k742 + 1), v803, xs804, rfl, rfl, (by rw [← hn750]; exact hd), hq805⟩
  replace hd := brF hb751 hd
  replace hb751 := of_decide_eq_false hb751
  refine Wp.exit <| At.then_x <| At.then_x <| At.blk_hit <| At.then_n <| Wp.seq ?_
  replace hd := chk_some hd; obtain ⟨ha839, hd⟩ := hd
  refine Wp.region <| Seg.op (OpT.move rfl) rfl <| Seg.op (OpT.move rfl) rfl <| Seg.op (OpT.nilCheck rfl) rfl <| Seg.op (OpT.fld (o' := 1) fl71_1 rfl rfl) rfl <| Seg.op (OpT.ldBlk (i := 4) (v := v559) Tryd.underlying59 rfl rfl rfl rfl) rfl <| Seg.op (OpT.move rfl) rfl ?_
  refine Seg.rowLe (i := 0) rfl fun hb834 => ?_
  refine Seg.freeze (i := 0) rfl fun H835 hl836 hs837 => ?_
  have hv838 := SlD.of (c := cI64) hs837 rfl (hq741.mono hl836) hb834
  refine Seg.buildD1 (c := (cL cI64)) (y := l738) (cs := [v739]) Tryd.underlying59 ti67 rfl rfl rfl (cellsL hv838.one) (⟨_, rfl, hv838⟩) rfl fun v831 xs832 hq833 => Seg.appD (i := 3) (j := 0) (hq561.mono (hl747.trans hl836)) hq833 Tryd.underlying59 ti67 rfl (by decide) rfl rfl rfl rfl (by decide) ha839 rfl fun v840 xs841 hq842 => Seg.drop (i := 0) <| Seg.op (OpT.nilCheck rfl) rfl <| Seg.op (OpT.fld (o' := 1) fl71_1 rfl rfl) rfl <| Seg.rowOne (i := 2) rfl fun ho843 => Seg.stBlk1 (i := 3) rfl rfl ho843 ti59 rfl (Nat.le_of_ble_eq_true rfl) ?_
  refine Seg.own (O := .blk B581 (.cells #[(.bool x576.1), v579] 40 (0, 0)) :: .row v563 4 1 l562.length xs564 :: .row v840 67 1 (l558 ++ ([l738] : List (List Int))).length xs841 :: .blk B13 (.cells #[v7, v840, v563, (.slice none 0 0)] 71 (0, 0)) :: O) ?_ rfl
  refine Seg.nilT ?_
  replace hd := chk_some hd; obtain ⟨ha852, hd⟩ := hd
  refine Wp.emp <| SegO.runK 5 [an0, an0, an0, an0, ⟨[4], [], []⟩, an0, ⟨[1], [], []⟩, ⟨[0], [0], [7]⟩, ⟨[0, 2], [2], [8]⟩, an0, an0, ⟨[4], [4], [8]⟩] follows rfl (by kernel_rfl) <| SegO.op (val := fun p851 => (ptr B13 0)) rfl rfl (fun _ => rfl) (fun _ p851 _ hx hf hy => OpT.move rfl) rfl <| SegO.op (val := fun p851 => (ptr B13 0)) rfl rfl (fun _ => rfl) (fun _ p851 _ hx hf hy => OpT.move rfl) rfl <| SegO.op (val := fun p851 => (ptr B13 0)) rfl rfl (fun _ => rfl) (fun _ p851 _ hx hf hy => OpT.nilCheck rfl) rfl <| SegO.op (val := fun p851 => (ptr B13 2)) rfl rfl (fun _ => rfl) (fun _ p851 _ hx hf hy => OpT.fld (o' := 2) fl71_2 rfl rfl) rfl <| SegO.op (val := fun p851 => v563) rfl rfl (fun _ => rfl) (fun _ p851 _ hx hf hy => OpT.ldBlk (i := 4) (v := v563) Tryd.underlying69 rfl rfl (hy 4 _ rfl rfl) rfl) rfl <| SegO.op (val := fun p851 => (ptr B581 0)) rfl rfl (fun _ => rfl) (fun _ p851 _ hx hf hy => OpT.fld (o' := 0) fl40_0 rfl rfl) rfl ?_
  refine SegO.op (val := fun p851 => (.bool x576.1)) rfl rfl (fun _ => rfl) (fun _ p851 _ hx hf hy => OpT.ldBlk (i := 1) (v := (.bool x576.1)) Tryd.underlying4 rfl rfl (hy 1 _ rfl rfl) rfl) rfl <| SegO.op1s (res := fun p851 => .row (p851 7) 4 1 1 [(.bool x576.1)]) 0 rfl rfl rfl (fun _ => rfl) (fun _ p851 _ hx hf hy => OpS.buildR1 (v := (.bool x576.1)) (cs := [(.bool x576.1)]) 0 Tryd.underlying69 ti4 rfl rfl rfl rfl rfl (hy 0 _ rfl rfl)) rfl (fun _ => ⟨_, _, _, _, rfl⟩) <| SegO.op1s (res := fun p851 => .row (p851 8) 4 1 (l562.length + 1) (xs564 ++ [(.bool x576.1)])) 2 rfl rfl rfl (fun _ => rfl) (fun _ p851 _ hx hf hy => OpS.appR 2 0 Tryd.underlying69 ti4 rfl rfl rfl rfl (hy 2 _ rfl rfl) (hy 0 _ rfl rfl) (ones_cons rfl (ones_nil)) rfl ha852) rfl (fun _ => ⟨_, _, _, _, rfl⟩) <| SegO.op (val := fun p851 => (ptr B13 0)) rfl rfl (fun _ => rfl) (fun _ p851 _ hx hf hy => OpT.nilCheck rfl) rfl <| SegO.op (val := fun p851 => (ptr B13 2)) rfl rfl (fun _ => rfl) (fun _ p851 _ hx hf hy => OpT.fld (o' := 2) fl71_2 rfl rfl) rfl <| SegO.op1n (res := fun p851 => .blk B13 (.cells #[v7, v840, (p851 8), (.slice none 0 0)] 71 (0, 0))) 4 rfl rfl rfl (fun _ => rfl) (fun _ p851 _ hx hf hy => OpS.stR (vs := [(p851 8)]) rfl rfl (cellsL (hf 8 rfl rfl)) ti69 rfl (ones_cons (hf 8 rfl rfl) (ones_nil)) (hy 4 _ rfl rfl) rfl rfl) <| SegO.done fun H853 p851 hl854 hF855 => At.sub (L' := [(3, (ptr B13 0)), (4, (.int .i64 (a0.length:Int))), (20, v1), (21, (.int .i64 (a0.length:Int))), (22, (.int .i64 (k566:Int)))]) (.cons rfl (.cons rfl (.cons rfl (.cons rfl (.cons rfl (.nil)))))) ?_
  refine At.own (O := .row (p851 7) 4 1 ([x576.1] : List Bool).length [(.bool x576.1)] :: .blk B581 (.cells #[(.bool x576.1), v579] 40 (0, 0)) :: .row (p851 8) 4 1 (l562 ++ ([x576.1] : List Bool)).length (xs564 ++ [(.bool x576.1)]) :: .row v840 67 1 (l558 ++ ([l738] : List (List Int))).length xs841 :: .blk B13 (.cells #[v7, v840, (p851 8), (.slice none 0 0)] 71 (0, 0)) :: O) ?_ (by first | rfl | (simp only [List.length_append, List.length_set]; rfl) | simp)
  have hq857 : LayL cB H853 (l562 ++ ([x576.1] : List Bool)) (xs564 ++ [(.bool x576.1)]) := (LayL.app (hq565.mono ((hl747.trans hl836).trans hl854)) (LayL.sing (c := cB) (a := x576.1) (cs := [(.bool x576.1)]) rfl))
  refine At.permK [1, 2, 3, 4] 5 rfl rfl rfl <| At.blk_n <| At.then_n <| Wp.region <| Seg.op (OpT.add rfl rfl (fits64 (by omega))) rfl <| Seg.op (OpT.move rfl) rfl <| Seg.nil <| At.permK [1, 2, 3] 4 rfl rfl rfl ?_
  refine At.nextE (L' := [(3, (ptr B13 0)), (4, (.int .i64 (a0.length:Int))), (20, v1), (21, (.int .i64 (a0.length:Int))), (22, (.int .i64 ((k566 + 1 : Nat) : Int)))]) m569 (Nat.lt_succ_self _) ((hl747.trans hl836).trans hl854) (.cons rfl (.cons rfl (.cons rfl (.cons rfl (.cons (lk_int rfl (by omega)) (.nil)))))) ⟨(l558 ++ ([l738] : List (List Int))), (l562 ++ ([x576.1] : List Bool)), (k566 + 1), v840, xs841, (p851 8), xs564 ++ [(.bool x576.1)], rfl, rfl, (by rw [← hn574]; exact hd), (hq842.mono hl854), hq857⟩
 replace hd := brF hb575 hd
 replace hb575 := of_decide_eq_false hb575
 refine Wp.exit <| At.then_x <| At.then_x <| At.blk_hit <| At.then_n <| Wp.seq ?_
 replace hd := chk_some hd; obtain ⟨ha862, hd⟩ := hd
 refine Wp.region <| Seg.op (OpT.move rfl) rfl <| Seg.op (OpT.nilCheck rfl) rfl <| Seg.op (OpT.fld (o' := 0) fl71_0 rfl rfl) rfl <| Seg.op (OpT.ldBlk (i := 2) (v := v7) Tryd.underlying67 rfl rfl rfl rfl) rfl ?_
 have hb858 := hv8.le
 refine Seg.op (OpT.len Tryd.underlying67 rfl (hv8.mono hl571).sl) rfl <| Seg.makeD (c := cI64) (z := 0) (m := x3.length) Tryd.underlying67 ti3 rfl rfl ha862 (rfl) rfl rfl rfl fun v859 xs860 hq861 => Seg.op (OpT.assign rfl) rfl <| Seg.nilT <| Wp.seq <| Wp.sr <| Seg.op (OpT.move rfl) rfl ?_
 refine Seg.rowLe (i := 0) rfl fun hb863 => ?_
 refine Seg.op (OpT.lenRow (i := 0) Tryd.underlying67 rfl rfl) rfl <| Seg.op (OpT.move rfl) rfl <| Seg.nilT <| Wp.block <| Wp.sub (L' := [(3, (ptr B13 0)), (4, (.int .i64 (a0.length:Int))), (12, v859), (101, (.int .i64 (((List.replicate x3.length 0 : List Int).length : Nat) : Int))), (102, (.int .i64 ((0 : Nat) : Int)))]) (.cons rfl (.cons rfl (.cons rfl (.cons rfl (.cons (lk_int rfl (by omega)) (.nil)))))) <| Wp.loopE (fun m LL HH OO => ∃ (l883 : List Int), ∃ (k887 : Nat), ∃ (v884 : Value), ∃ (xs885 : List Value), [(3, (ptr B13 0)), (4, (.int .i64 (a0.length:Int))), (12, v884), (101, (.int .i64 (((List.replicate x3.length 0 : List Int).length : Nat) : Int))), (102, (.int .i64 (k887:Int)))] = LL ∧ .row v884 3 1 l883.length xs885 :: .row v563 4 1 l562.length xs564 :: .row v559 67 1 l558.length xs560 :: .blk B13 (.cells #[v7, v559, v563, (.slice none 0 0)] 71 (0, 0)) :: O = OO ∧ loopK m (fun p nx => au_complete_b4 fu a0 x3 l558 l562 p.1 p.2 nx) (l883, k887) = some r ∧ LayL cI64 HH l883 xs885) fu ⟨(List.replicate x3.length 0 : List Int), 0, v859, xs860, rfl, rfl, hd, hq861⟩ ?_
 intro m889 L893 H891 O894 hl892 hI888
 obtain ⟨l883, k887, v884, xs885, rfl, rfl, hd, hq886⟩ := hI888
 replace hd := loopK_some hd; obtain ⟨m890, rfl, hd⟩ := hd
 obtain ⟨nx882, hn895⟩ : ∃ f, f = loopK m890 (fun p nx => au_complete_b4 fu a0 x3 l558 l562 p.1 p.2 nx) := ⟨_, rfl⟩
 rw [← hn895] at hd
 replace hd : au_complete_b4 fu a0 x3 l558 l562 l883 k887 nx882 = some r := hd
 unfold au_complete_b4 at hd
 refine Wp.sr <| Seg.op (OpT.lss rfl rfl) rfl <| Seg.nilT <| Wp.seq ?_
 refine Wp.cond (b := decide ((k887:Int) < (((List.replicate x3.length 0 : List Int).length : Nat) : Int))) rfl (fun hb896 => ?_) (fun hb896 => ?_)
 ·
  replace hd := brT hb896 hd
  replace hb896 := of_decide_eq_true hb896
  refine Wp.skip <| At.then_n <| Wp.seq <| Wp.block <| Wp.sr <| Seg.op (OpT.move rfl) rfl <| Seg.op (OpT.assign rfl) rfl <| Seg.nilT ?_
  obtain ⟨x897, hx898, hd⟩ := bnd_some hd
  have hx898_ := idx_bd hx898
  refine Wp.region <| Seg.op (OpT.move rfl) rfl <| Seg.op (OpT.move rfl) rfl <| Seg.op (OpT.move rfl) rfl ?_
  obtain ⟨_, rfl, hc899, hc899_⟩ := LayL.get hq886 (idx_some hx898).2
  refine Seg.op (OpT.ixRow (j := 0) Tryd.underlying67 ti3 rfl rfl rfl (idx_bd hx898)) rfl ?_
  refine Seg.stD (q := 0) (off := 0) (vs := [(.int .i64 (a0.length:Int))]) (y := (a0.length:Int)) (cs := [(.int .i64 x897)]) hq886 hx898 hc899_ rfl rfl rfl ti3 rfl rfl (ones_cons rfl (ones_nil)) rfl (rfl) rfl (fun xs900 hq901 => ?_)
  refine Seg.nil <| At.blk_n <| At.then_n <| Wp.region <| Seg.op (OpT.add rfl rfl (fits64 (by omega))) rfl <| Seg.op (OpT.move rfl) rfl <| Seg.nil ?_
  refine At.nextE (L' := [(3, (ptr B13 0)), (4, (.int .i64 (a0.length:Int))), (12, v884), (101, (.int .i64 (((List.replicate x3.length 0 : List Int).length : Nat) : Int))), (102, (.int .i64 ((k887 + 1 : Nat) : Int)))]) m890 (Nat.lt_succ_self _) (Hp.le.refl _) (.cons rfl (.cons rfl (.cons rfl (.cons rfl (.cons (lk_int rfl (by omega)) (.nil)))))) ⟨(l883.set k887 (a0.length:Int)), (k887 + 1), v884, xs900, rfl, rfl, (by rw [← hn895]; exact hd), hq901⟩
 replace hd := brF hb896 hd
 replace hb896 := of_decide_eq_false hb896
 refine Wp.exit <| At.then_x <| At.then_x <| At.blk_hit <| At.then_n <| Wp.seq ?_
 replace hd := chk_some hd; obtain ⟨ha910, hd⟩ := hd
 refine Wp.region <| Seg.op (OpT.move rfl) rfl <| Seg.op (OpT.move rfl) rfl <| Seg.op (OpT.nilCheck rfl) rfl <| Seg.op (OpT.fld (o' := 1) fl71_1 rfl rfl) rfl <| Seg.op (OpT.ldBlk (i := 3) (v := v559) Tryd.underlying59 rfl rfl rfl rfl) rfl <| Seg.op (OpT.move rfl) rfl ?_
 refine Seg.rowLe (i := 0) rfl fun hb905 => ?_
 refine Seg.freeze (i := 0) rfl fun H906 hl907 hs908 => ?_
 have hv909 := SlD.of (c := cI64) hs908 rfl (hq886.mono hl907) hb905
 refine Seg.buildD1 (c := (cL cI64)) (y := l883) (cs := [v884]) Tryd.underlying59 ti67 rfl rfl rfl (cellsL hv909.one) (⟨_, rfl, hv909⟩) rfl fun v902 xs903 hq904 => Seg.appD (i := 2) (j := 0) (hq561.mono (hl892.trans hl907)) hq904 Tryd.underlying59 ti67 rfl (by decide) rfl rfl rfl rfl (by decide) ha910 rfl fun v911 xs912 hq913 => Seg.drop (i := 0) <| Seg.op (OpT.nilCheck rfl) rfl <| Seg.op (OpT.fld (o' := 1) fl71_1 rfl rfl) rfl <| Seg.rowOne (i := 1) rfl fun ho914 => Seg.stBlk1 (i := 2) rfl rfl ho914 ti59 rfl (Nat.le_of_ble_eq_true rfl) ?_
 refine Seg.own (O := .row v563 4 1 l562.length xs564 :: .row v911 67 1 (l558 ++ ([l883] : List (List Int))).length xs912 :: .blk B13 (.cells #[v7, v911, v563, (.slice none 0 0)] 71 (0, 0)) :: O) ?_ rfl
 refine Seg.nilT <| Wp.seq ?_
 replace hd := chk_some hd; obtain ⟨ha918, hd⟩ := hd
 refine Wp.region <| Seg.op (OpT.move rfl) rfl <| Seg.op (OpT.move rfl) rfl <| Seg.op (OpT.nilCheck rfl) rfl <| Seg.op (OpT.fld (o' := 2) fl71_2 rfl rfl) rfl <| Seg.op (OpT.ldBlk (i := 2) (v := v563) Tryd.underlying69 rfl rfl rfl rfl) rfl <| Seg.buildD1 (c := cB) (y := false) (cs := [(.bool false)]) Tryd.underlying69 ti4 rfl rfl rfl rfl (rfl) rfl fun v915 xs916 hq917 => Seg.appD (i := 1) (j := 0) (hq565.mono (hl892.trans hl907)) hq917 Tryd.underlying69 ti4 rfl (by decide) rfl rfl rfl rfl (by decide) ha918 rfl fun v919 xs920 hq921 => ?_
 refine Seg.drop (i := 0) <| Seg.op (OpT.nilCheck rfl) rfl <| Seg.op (OpT.fld (o' := 2) fl71_2 rfl rfl) rfl <| Seg.rowOne (i := 0) rfl fun ho922 => Seg.stBlk1 (i := 2) rfl rfl ho922 ti69 rfl (Nat.le_of_ble_eq_true rfl) ?_
 refine Seg.own (O := .row v919 4 1 (l562 ++ ([false] : List Bool)).length xs920 :: .row v911 67 1 (l558 ++ ([l883] : List (List Int))).length xs912 :: .blk B13 (.cells #[v7, v911, v919, (.slice none 0 0)] 71 (0, 0)) :: O) ?_ rfl
 refine Seg.nilT <| Wp.sr <| Seg.op (OpT.move rfl) rfl <| Seg.op (OpT.assign rfl) rfl <| Seg.nilT <| Wp.ret ?_
 refine At.rowLe (i := 1) rfl fun hb923 => ?_
 refine At.freeze (i := 1) rfl fun H926 hl927 hs924 => ?_
 have hv925 := SlD.of (c := (cL cI64)) hs924 rfl (hq913.mono hl927) hb923
 refine At.rowLe (i := 0) rfl fun hb928 => ?_
 refine At.freeze (i := 0) rfl fun H931 hl932 hs929 => ?_
 have hv930 := SlD.of (c := cB) hs929 rfl ((hq921.mono hl927).mono hl932) hb928
 obtain rfl := Option.some.inj hd
 exact At.res1 rfl (RV.tmp (v := (ptr B13 0)) rfl) (fun w hs => ⟨_, _, _, rfl, (((((hl6.trans hl571).trans hl892).trans hl907).trans hl927).trans hl932), (hs.permK [0] 1 rfl rfl rfl), ⟨B13, v7, v911, v919, (.slice none 0 0), rfl, (hv8.mono ((((hl571.trans hl892).trans hl907).trans hl927).trans hl932)), (hv925.mono hl932), hv930, SlD.nil, rfl⟩⟩)

set_option maxRecDepth 100000 in
set_option maxHeartbeats 4000000 in
theorem au_table_live_w {fu : Nat} {a0 : (List Int) × (List (List Int)) × (List Bool) × (List Int)} {v1 v3 v5 v7 : Value} {B0 : Nat} {r : List Bool} (hv2 : SlD cI64 H a0.1 v1) (hv4 : SlD (cL cI64) H a0.2.1 v3) (hv6 : SlD cB H a0.2.2.1 v5) (hv8 : SlD cI64 H a0.2.2.2 v7) (hd : au_table_live fu a0 = some r) :
    Tri Tryd.prog 35 [(ptr B0 0)] H (.blk B0 (.cells #[v1, v3, v5, v7] 71 (0, 0)) :: O) (fun v H' O' => (∃ v692 : Value, v692 = v ∧ SlD cB H' r v692) ∧ .blk B0 (.cells #[v1, v3, v5, v7] 71 (0, 0)) :: O = O') := by
 intro w hs
 refine wp_of Tryd.func35 rfl rfl rfl ?_ hs
 clear hs w
 unfold au_table_live at hd
 refine Wp.sr <| Seg.op (OpT.assign rfl) rfl <| Seg.nilT <| Wp.seq ?_
 replace hd := chk_some hd; obtain ⟨ha14, hd⟩ := hd
 refine Wp.region <| Seg.op (OpT.move rfl) rfl <| Seg.op (OpT.nilCheck rfl) rfl <| Seg.op (OpT.fld (o' := 1) fl71_1 rfl rfl) rfl <| Seg.op (OpT.ldBlk (i := 0) (v := v3) Tryd.underlying59 rfl rfl rfl rfl) rfl ?_
 have hb10 := hv4.le
 refine Seg.op (OpT.len Tryd.underlying59 rfl hv4.sl) rfl <| Seg.makeD (c := cB) (z := false) (m := a0.2.1.length) Tryd.underlying69 ti4 rfl rfl ha14 (rfl) rfl rfl rfl fun v11 xs12 hq13 => Seg.op (OpT.assign rfl) rfl <| Seg.nilT <| Wp.seq <| Wp.sr <| Seg.op (OpT.assign rfl) rfl <| Seg.nilT ?_
 refine Wp.block <| Wp.sub (L' := [(0, (ptr B0 0)), (3, v11), (4, (.bool true))]) (.cons rfl (.cons rfl (.cons rfl (.nil)))) <| Wp.loopE (fun m LL HH OO => ∃ (l444 : List Bool), ∃ (b448 : Bool), ∃ (v445 : Value), ∃ (xs446 : List Value), [(0, (ptr B0 0)), (3, v445), (4, (.bool b448))] = LL ∧ .row v445 4 1 l444.length xs446 :: .blk B0 (.cells #[v1, v3, v5, v7] 71 (0, 0)) :: O = OO ∧ loopK m (fun p nx => au_table_live_b1 fu a0 p.1 p.2 nx) (l444, b448) = some r ∧ LayL cB HH l444 xs446) fu ⟨(List.replicate a0.2.1.length false : List Bool), true, v11, xs12, rfl, rfl, hd, hq13⟩ ?_
 intro m450 L454 H452 O455 hl453 hI449
 obtain ⟨l444, b448, v445, xs446, rfl, rfl, hd, hq447⟩ := hI449
 replace hd := loopK_some hd; obtain ⟨m451, rfl, hd⟩ := hd
 obtain ⟨nx443, hn456⟩ : ∃ f, f = loopK m451 (fun p nx => au_table_live_b1 fu a0 p.1 p.2 nx) := ⟨_, rfl⟩
 rw [← hn456] at hd
 replace hd : au_table_live_b1 fu a0 l444 b448 nx443 = some r := hd
 unfold au_table_live_b1 at hd
 refine Wp.seq <| Wp.sr <| Seg.op (OpT.move rfl) rfl <| Seg.nilT ?_
 refine Wp.cond (b := b448) rfl (fun hb457 => ?_) (fun hb457 => ?_)
 ·
  replace hd := brT hb457 hd
  refine Wp.skip <| At.then_n <| Wp.block <| Wp.sr <| Seg.op (OpT.assign rfl) rfl <| Seg.nilT <| Wp.sr <| Seg.op (OpT.move rfl) rfl ?_
  refine Seg.op (OpT.nilCheck rfl) rfl <| Seg.op (OpT.fld (o' := 1) fl71_1 rfl rfl) rfl <| Seg.op (OpT.ldBlk (i := 1) (v := v3) Tryd.underlying59 rfl rfl rfl rfl) rfl ?_
  have hb458 := hv4.le
  refine Seg.op (OpT.len Tryd.underlying59 rfl (hv4.mono hl453).sl) rfl <| Seg.op (OpT.move rfl) rfl <| Seg.nilT <| Wp.block <| Wp.sub (L' := [(0, (ptr B0 0)), (3, v445), (4, (.bool false)), (20, (.int .i64 (a0.2.1.length:Int))), (21, (.int .i64 ((0 : Nat) : Int)))]) (.cons rfl (.cons rfl (.cons rfl (.cons rfl (.cons (lk_int rfl (by omega)) (.nil)))))) <| Wp.loopE (fun m LL HH OO => ∃ (l599 : List Bool), ∃ (b603 : Bool), ∃ (k604 : Nat), ∃ (v600 : Value), ∃ (xs601 : List Value), [(0, (ptr B0 0)), (3, v600), (4, (.bool b603)), (20, (.int .i64 (a0.2.1.length:Int))), (21, (.int .i64 (k604:Int)))] = LL ∧ .row v600 4 1 l599.length xs601 :: .blk B0 (.cells #[v1, v3, v5, v7] 71 (0, 0)) :: O = OO ∧ loopK m (fun p nx => au_table_live_b2 fu a0 nx443 p.1 p.2.1 p.2.2 nx) (l599, b603, k604) = some r ∧ LayL cB HH l599 xs601) fu ⟨l444, false, 0, v445, xs446, rfl, rfl, hd, hq447⟩ ?_
  intro m606 L610 H608 O611 hl609 hI605
  obtain ⟨l599, b603, k604, v600, xs601, rfl, rfl, hd, hq602⟩ := hI605
  replace hd := loopK_some hd; obtain ⟨m607, rfl, hd⟩ := hd
  obtain ⟨nx598, hn612⟩ : ∃ f, f = loopK m607 (fun p nx => au_table_live_b2 fu a0 nx443 p.1 p.2.1 p.2.2 nx) := ⟨_, rfl⟩
  rw [← hn612] at hd
  replace hd : au_table_live_b2 fu a0 nx443 l599 b603 k604 nx598 = some r := hd
  unfold au_table_live_b2 at hd
  refine Wp.sr <| Seg.op (OpT.lss rfl rfl) rfl <| Seg.nilT <| Wp.seq ?_
  refine Wp.cond (b := decide ((k604:Int) < (a0.2.1.length:Int))) rfl (fun hb613 => ?_) (fun hb613 => ?_)
  ·
   replace hd := brT hb613 hd
   replace hb613 := of_decide_eq_true hb613
   refine Wp.skip <| At.then_n <| Wp.seq <| Wp.block <| Wp.sr <| Seg.op (OpT.move rfl) rfl <| Seg.op (OpT.assign rfl) rfl <| Seg.nilT ?_
   refine Wp.seq ?_
   obtain ⟨x614, hx615, hd⟩ := bnd_some hd
   have hx615_ := idx_bd hx615
   refine Wp.region <| Seg.op (OpT.move rfl) rfl <| Seg.op (OpT.nilCheck rfl) rfl <| Seg.op (OpT.fld (o' := 2) fl71_2 rfl rfl) rfl <| Seg.op (OpT.ldBlk (i := 1) (v := v5) Tryd.underlying69 rfl rfl rfl rfl) rfl <| Seg.op (OpT.move rfl) rfl ?_
   obtain ⟨_, rfl, hc616⟩ := SlD.get (hv6.mono (hl453.trans hl609)) hx615
   refine Seg.op (OpT.ixSl Tryd.underlying69 ti4 rfl (hv6.mono (hl453.trans hl609)).sl rfl (idx_bd hx615)) rfl <| Seg.op (OpT.ldH Tryd.underlying4 rfl rfl (hc616 0 _ rfl)) rfl <| Seg.op (OpT.assign rfl) rfl <| Seg.nilT <| Wp.seq <| Wp.seq ?_
   obtain ⟨x617, hx618, hd⟩ := bnd_some hd
   have hx618_ := idx_bd hx618
   refine Wp.region <| Seg.op (OpT.move rfl) rfl <| Seg.op (OpT.nilCheck rfl) rfl <| Seg.op (OpT.fld (o' := 1) fl71_1 rfl rfl) rfl <| Seg.op (OpT.ldBlk (i := 1) (v := v3) Tryd.underlying59 rfl rfl rfl rfl) rfl <| Seg.op (OpT.move rfl) rfl ?_
   obtain ⟨_, ⟨v620, rfl, hv621⟩, hc619⟩ := SlD.get (hv4.mono (hl453.trans hl609)) hx618
   refine Seg.op (OpT.ixSl Tryd.underlying59 ti67 rfl (hv4.mono (hl453.trans hl609)).sl rfl (idx_bd hx618)) rfl <| Seg.op (OpT.ldH Tryd.underlying67 rfl rfl (hc619 0 _ rfl)) rfl ?_
   have hb622 := hv621.le
   refine Seg.op (OpT.len Tryd.underlying67 rfl hv621.sl) rfl <| Seg.op (OpT.move rfl) rfl <| Seg.nilT <| Wp.block <| Wp.sub (L' := [(0, (ptr B0 0)), (3, v600), (4, (.bool b603)), (5, (.int .i64 (k604:Int))), (6, (.bool x614)), (20, (.int .i64 (a0.2.1.length:Int))), (21, (.int .i64 (k604:Int))), (37, v620), (38, (.int .i64 (x617.length:Int))), (39, (.int .i64 ((0 : Nat) : Int)))]) (.cons rfl (.cons rfl (.cons rfl (.cons rfl (.cons rfl (.cons rfl (.cons rfl (.cons rfl (.cons rfl (.cons (lk_int rfl (by omega)) (.nil))))))))))) <| Wp.loopE (fun m LL HH OO => ∃ (b650 : Bool), ∃ (k651 : Nat), [(0, (ptr B0 0)), (3, v600), (4, (.bool b603)), (5, (.int .i64 (k604:Int))), (6, (.bool b650)), (20, (.int .i64 (a0.2.1.length:Int))), (21, (.int .i64 (k604:Int))), (37, v620), (38, (.int .i64 (x617.length:Int))), (39, (.int .i64 (k651:Int)))] = LL ∧ .row v600 4 1 l599.length xs601 :: .blk B0 (.cells #[v1, v3, v5, v7] 71 (0, 0)) :: O = OO ∧ loopK m (fun p nx => au_table_live_b3 fu a0 l599 b603 k604 nx598 x617 p.1 p.2 nx) (b650, k651) = some r) fu ⟨x614, 0, rfl, rfl, hd⟩ ?_
   intro m653 L657 H655 O658 hl656 hI652
   obtain ⟨b650, k651, rfl, rfl, hd⟩ := hI652
   replace hd := loopK_some hd; obtain ⟨m654, rfl, hd⟩ := hd
   obtain ⟨nx649, hn659⟩ : ∃ f, f = loopK m654 (fun p nx => au_table_live_b3 fu a0 l599 b603 k604 nx598 x617 p.1 p.2 nx) := ⟨_, rfl⟩
   rw [← hn659] at hd
   replace hd : au_table_live_b3 fu a0 l599 b603 k604 nx598 x617 b650 k651 nx649 = some r := hd
   unfold au_table_live_b3 at hd
   refine Wp.sr <| Seg.op (OpT.lss rfl rfl) rfl <| Seg.nilT <| Wp.seq ?_
   refine Wp.cond (b := decide ((k651:Int) < (x617.length:Int))) rfl (fun hb660 => ?_) (fun hb660 => ?_)
   ·
    replace hd := brT hb660 hd
    replace hb660 := of_decide_eq_true hb660
    refine Wp.skip <| At.then_n <| Wp.seq <| Wp.block <| Wp.seq ?_
    obtain ⟨x661, hx662, hd⟩ := bnd_some hd
    have hx662_ := idx_bd hx662
    refine Wp.region ?_
    obtain ⟨_, rfl, hc663⟩ := SlD.get (hv621.mono hl656) hx662
    refine Seg.op (OpT.ixSl Tryd.underlying67 ti3 rfl (hv621.mono hl656).sl rfl (idx_bd hx662)) rfl <| Seg.op (OpT.ldH Tryd.underlying3 rfl rfl (hc663 0 _ rfl)) rfl <| Seg.op (OpT.assign rfl) rfl <| Seg.nilT ?_
    rcases Bool.eq_false_or_eq_true (b650) with hg664 | hg664
    ·
     replace hd := brT hg664 hd
     refine Wp.region <| Seg.op (OpT.asB (b := b650) (c := true) (OpT.move rfl) hg664) rfl <| Seg.op (OpT.move rfl) rfl <| Seg.skipG rfl rfl rfl rfl <| Seg.skipG rfl rfl rfl rfl <| Seg.skipG rfl rfl rfl rfl <| Seg.skipG rfl rfl rfl rfl <| Seg.skipG rfl rfl rfl rfl ?_
     refine Seg.skipG rfl rfl rfl rfl <| Seg.skipG rfl rfl rfl rfl <| Seg.skipG rfl rfl rfl rfl <| Seg.skipG rfl rfl rfl rfl <| Seg.skipG rfl rfl rfl rfl <| Seg.op (OpT.pickT rfl rfl) rfl <| Seg.op (OpT.assign rfl) rfl <| Seg.nil ?_
     refine At.blk_n <| At.then_n <| Wp.region <| Seg.op (OpT.add rfl rfl (fits64 (by omega))) rfl <| Seg.op (OpT.move rfl) rfl <| Seg.nil ?_
     refine At.nextE (L' := [(0, (ptr B0 0)), (3, v600), (4, (.bool b603)), (5, (.int .i64 (k604:Int))), (6, (.bool true)), (20, (.int .i64 (a0.2.1.length:Int))), (21, (.int .i64 (k604:Int))), (37, v620), (38, (.int .i64 (x617.length:Int))), (39, (.int .i64 ((k651 + 1 : Nat) : Int)))]) m654 (Nat.lt_succ_self _) (Hp.le.refl _) (.cons rfl (.cons rfl (.cons rfl (.cons rfl (.cons rfl (.cons rfl (.cons rfl (.cons rfl (.cons rfl (.cons (lk_int rfl (by omega)) (.nil))))))))))) ⟨true, (k651 + 1), rfl, rfl, (by rw [← hn659]; exact hd)⟩
    replace hd := brF hg664 hd
    obtain ⟨x665, hx666, hd⟩ := bnd_some hd
    have hx666_ := idx_bd hx666
    obtain ⟨x668, hx669, hd⟩ := bnd_some hd
    have hx669_ := idx_bd hx669
    refine Wp.region <| Seg.op (OpT.asB (b := b650) (c := false) (OpT.move rfl) hg664) rfl <| Seg.op (OpT.move rfl) rfl <| Seg.opG rfl rfl (OpT.move rfl) rfl <| Seg.opG rfl rfl (OpT.move rfl) rfl <| Seg.opG rfl rfl (OpT.nilCheck rfl) rfl <| Seg.opG rfl rfl (OpT.fld (o' := 3) fl71_3 rfl rfl) rfl <| Seg.opG rfl rfl (OpT.ldBlk (i := 1) (v := v7) Tryd.underlying67 rfl rfl rfl rfl) rfl ?_
    refine Seg.opG rfl rfl (OpT.move rfl) rfl ?_
    obtain ⟨_, rfl, hc667⟩ := SlD.get (hv8.mono ((hl453.trans hl609).trans hl656)) hx666
    refine Seg.opG rfl rfl (OpT.ixSl Tryd.underlying67 ti3 rfl (hv8.mono ((hl453.trans hl609).trans hl656)).sl rfl (idx_bd hx666)) rfl <| Seg.opG rfl rfl (OpT.ldH Tryd.underlying3 rfl rfl (hc667 0 _ rfl)) rfl ?_
    obtain ⟨_, rfl, hc670, hc670_⟩ := LayL.get (hq602.mono hl656) (idx_some hx669).2
    refine Seg.opG rfl rfl (OpT.ixRow (j := 0) Tryd.underlying69 ti4 rfl rfl rfl (idx_bd hx669)) rfl <| Seg.opG rfl rfl (OpT.ldRow (i := 0) (k := x665.toNat * 1 + 0) Tryd.underlying4 rfl rfl rfl (hc670 0 _ rfl)) rfl <| Seg.op (OpT.pickF rfl rfl) rfl <| Seg.op (OpT.assign rfl) rfl <| Seg.nil <| At.blk_n <| At.then_n <| Wp.region ?_
    refine Seg.op (OpT.add rfl rfl (fits64 (by omega))) rfl <| Seg.op (OpT.move rfl) rfl <| Seg.nil ?_
    refine At.nextE (L' := [(0, (ptr B0 0)), (3, v600), (4, (.bool b603)), (5, (.int .i64 (k604:Int))), (6, (.bool x668)), (20, (.int .i64 (a0.2.1.length:Int))), (21, (.int .i64 (k604:Int))), (37, v620), (38, (.int .i64 (x617.length:Int))), (39, (.int .i64 ((k651 + 1 : Nat) : Int)))]) m654 (Nat.lt_succ_self _) (Hp.le.refl _) (.cons rfl (.cons rfl (.cons rfl (.cons rfl (.cons rfl (.cons rfl (.cons rfl (.cons rfl (.cons rfl (.cons (lk_int rfl (by omega)) (.nil))))))))))) ⟨x668, (k651 + 1), rfl, rfl, (by rw [← hn659]; exact hd)⟩
   replace hd := brF hb660 hd
   replace hb660 := of_decide_eq_false hb660
   refine Wp.exit <| At.then_x <| At.then_x <| At.blk_hit <| At.then_n <| Wp.seq ?_
   rcases Bool.eq_false_or_eq_true (b650) with hg671 | hg671
   ·
    replace hd := brT hg671 hd
    obtain ⟨x672, hx673, hd⟩ := bnd_some hd
    have hx673_ := idx_bd hx673
    obtain ⟨x675, hx676, hd⟩ := bnd_some hd
    have hx676_ := idx_bd hx676
    refine Wp.region <| Seg.op (OpT.asB (b := b650) (c := true) (OpT.move rfl) hg671) rfl <| Seg.op (OpT.move rfl) rfl <| Seg.opG rfl rfl (OpT.move rfl) rfl <| Seg.opG rfl rfl (OpT.move rfl) rfl <| Seg.opG rfl rfl (OpT.nilCheck rfl) rfl <| Seg.opG rfl rfl (OpT.fld (o' := 3) fl71_3 rfl rfl) rfl <| Seg.opG rfl rfl (OpT.ldBlk (i := 1) (v := v7) Tryd.underlying67 rfl rfl rfl rfl) rfl ?_
    refine Seg.opG rfl rfl (OpT.move rfl) rfl ?_
    obtain ⟨_, rfl, hc674⟩ := SlD.get (hv8.mono ((hl453.trans hl609).trans hl656)) hx673
    refine Seg.opG rfl rfl (OpT.ixSl Tryd.underlying67 ti3 rfl (hv8.mono ((hl453.trans hl609).trans hl656)).sl rfl (idx_bd hx673)) rfl <| Seg.opG rfl rfl (OpT.ldH Tryd.underlying3 rfl rfl (hc674 0 _ rfl)) rfl ?_
    obtain ⟨_, rfl, hc677, hc677_⟩ := LayL.get (hq602.mono hl656) (idx_some hx676).2
    refine Seg.opG rfl rfl (OpT.ixRow (j := 0) Tryd.underlying69 ti4 rfl rfl rfl (idx_bd hx676)) rfl <| Seg.opG rfl rfl (OpT.ldRow (i := 0) (k := x672.toNat * 1 + 0) Tryd.underlying4 rfl rfl rfl (hc677 0 _ rfl)) rfl <| Seg.opG rfl rfl (OpT.not rfl) rfl <| Seg.op (OpT.pickT rfl rfl) rfl <| Seg.nilT ?_
    refine Wp.cond (b := !x675) rfl (fun hb678 => ?_) (fun hb678 => ?_)
    ·
     replace hd := brT hb678 hd
     refine Wp.seq ?_
     obtain ⟨x679, hx680, hd⟩ := bnd_some hd
     have hx680_ := idx_bd hx680
     obtain ⟨x682, hx683, hd⟩ := bnd_some hd
     have hx683_ := idx_bd hx683
     refine Wp.region <| Seg.op (OpT.move rfl) rfl <| Seg.op (OpT.move rfl) rfl <| Seg.op (OpT.nilCheck rfl) rfl <| Seg.op (OpT.fld (o' := 3) fl71_3 rfl rfl) rfl <| Seg.op (OpT.ldBlk (i := 1) (v := v7) Tryd.underlying67 rfl rfl rfl rfl) rfl <| Seg.op (OpT.move rfl) rfl ?_
     obtain ⟨_, rfl, hc681⟩ := SlD.get (hv8.mono ((hl453.trans hl609).trans hl656)) hx680
     refine Seg.op (OpT.ixSl Tryd.underlying67 ti3 rfl (hv8.mono ((hl453.trans hl609).trans hl656)).sl rfl (idx_bd hx680)) rfl <| Seg.op (OpT.ldH Tryd.underlying3 rfl rfl (hc681 0 _ rfl)) rfl ?_
     obtain ⟨_, rfl, hc684, hc684_⟩ := LayL.get (hq602.mono hl656) (idx_some hx683).2
     refine Seg.op (OpT.ixRow (j := 0) Tryd.underlying69 ti4 rfl rfl rfl (idx_bd hx683)) rfl ?_
     refine Seg.stD (q := 0) (off := 0) (vs := [(.bool true)]) (y := true) (cs := [(.bool x682)]) (hq602.mono hl656) hx683 hc684_ rfl rfl rfl ti4 rfl rfl (ones_cons rfl (ones_nil)) rfl (rfl) rfl (fun xs685 hq686 => ?_)
     refine Seg.nilT <| Wp.region <| Seg.op (OpT.assign rfl) rfl <| Seg.nil <| At.blk_n <| At.then_n <| Wp.region <| Seg.op (OpT.add rfl rfl (fits64 (by omega))) rfl ?_
     refine Seg.op (OpT.move rfl) rfl <| Seg.nil ?_
     refine At.nextE (L' := [(0, (ptr B0 0)), (3, v600), (4, (.bool true)), (20, (.int .i64 (a0.2.1.length:Int))), (21, (.int .i64 ((k604 + 1 : Nat) : Int)))]) m607 (Nat.lt_succ_self _) hl656 (.cons rfl (.cons rfl (.cons rfl (.cons rfl (.cons (lk_int rfl (by omega)) (.nil)))))) ⟨(l599.set x679.toNat true), true, (k604 + 1), v600, xs685, rfl, rfl, (by rw [← hn612]; exact hd), hq686⟩
    replace hd := brF hb678 hd
    refine Wp.skip <| At.blk_n <| At.then_n <| Wp.region <| Seg.op (OpT.add rfl rfl (fits64 (by omega))) rfl <| Seg.op (OpT.move rfl) rfl <| Seg.nil ?_
    refine At.nextE (L' := [(0, (ptr B0 0)), (3, v600), (4, (.bool b603)), (20, (.int .i64 (a0.2.1.length:Int))), (21, (.int .i64 ((k604 + 1 : Nat) : Int)))]) m607 (Nat.lt_succ_self _) hl656 (.cons rfl (.cons rfl (.cons rfl (.cons rfl (.cons (lk_int rfl (by omega)) (.nil)))))) ⟨l599, b603, (k604 + 1), v600, xs601, rfl, rfl, (by rw [← hn612]; exact hd), (hq602.mono hl656)⟩
   replace hd := brF hg671 hd
   refine Wp.region <| Seg.op (OpT.asB (b := b650) (c := false) (OpT.move rfl) hg671) rfl <| Seg.op (OpT.move rfl) rfl <| Seg.skipG rfl rfl rfl rfl <| Seg.skipG rfl rfl rfl rfl <| Seg.skipG rfl rfl rfl rfl <| Seg.skipG rfl rfl rfl rfl <| Seg.skipG rfl rfl rfl rfl ?_
   refine Seg.skipG rfl rfl rfl rfl <| Seg.skipG rfl rfl rfl rfl <| Seg.skipG rfl rfl rfl rfl <| Seg.skipG rfl rfl rfl rfl <| Seg.skipG rfl rfl rfl rfl <| Seg.skipG rfl rfl rfl rfl <| Seg.op (OpT.pickF rfl rfl) rfl <| Seg.nilT ?_
   refine Wp.condF rfl <| Wp.skip <| At.blk_n <| At.then_n <| Wp.region <| Seg.op (OpT.add rfl rfl (fits64 (by omega))) rfl <| Seg.op (OpT.move rfl) rfl <| Seg.nil ?_
   refine At.nextE (L' := [(0, (ptr B0 0)), (3, v600), (4, (.bool b603)), (20, (.int .i64 (a0.2.1.length:Int))), (21, (.int .i64 ((k604 + 1 : Nat) : Int)))]) m607 (Nat.lt_succ_self _) hl656 (.cons rfl (.cons rfl (.cons rfl (.cons rfl (.cons (lk_int rfl (by omega)) (.nil)))))) ⟨l599, b603, (k604 + 1), v600, xs601, rfl, rfl, (by rw [← hn612]; exact hd), (hq602.mono hl656)⟩
  replace hd := brF hb613 hd
  replace hb613 := of_decide_eq_false hb613
  refine Wp.exit <| At.then_x <| At.then_x <| At.blk_hit <| At.blk_n ?_
  refine At.nextE (L' := [(0, (ptr B0 0)), (3, v600), (4, (.bool b603))]) m451 (Nat.lt_succ_self _) hl609 (.cons rfl (.cons rfl (.cons rfl (.nil)))) ⟨l599, b603, v600, xs601, rfl, rfl, (by rw [← hn456]; exact hd), hq602⟩
 replace hd := brF hb457 hd
 refine Wp.exit <| At.then_x <| At.then_x <| At.blk_hit <| At.then_n <| Wp.sr <| Seg.op (OpT.move rfl) rfl <| Seg.op (OpT.assign rfl) rfl ?_
 refine Seg.nilT <| Wp.ret ?_
 refine At.rowLe (i := 0) rfl fun hb687 => ?_
 refine At.freeze (i := 0) rfl fun H690 hl691 hs688 => ?_
 have hv689 := SlD.of (c := cB) hs688 rfl (hq447.mono hl691) hb687
 obtain rfl := Option.some.inj hd
 exact At.res1 rfl (RV.tmp (v := v445) rfl) (fun w hs => ⟨_, _, _, rfl, (hl453.trans hl691), (hs.permK [0] 1 rfl rfl rfl), ⟨⟨v445, rfl, hv689⟩, rfl⟩⟩)

set_option maxRecDepth 100000 in
set_option maxHeartbeats 4000000 in
theorem au_table_end_w {fu : Nat} {a0 : (List Int) × (List (List Int)) × (List Bool) × (List Int)} {a1 : Int} {v1 v3 v5 v7 : Value} {B0 : Nat} {r : Int} (hv2 : SlD cI64 H a0.1 v1) (hv4 : SlD (cL cI64) H a0.2.1 v3) (hv6 : SlD cB H a0.2.2.1 v5) (hv8 : SlD cI64 H a0.2.2.2 v7) (hd : au_table_end fu a0 a1 = some r) :
    TriV Tryd.prog 36 [(ptr B0 0), (.int .i64 a1)] H (.blk B0 (.cells #[v1, v3, v5, v7] 71 (0, 0)) :: O) (.int .u8 r) := by
 intro w hs
 refine wp_of Tryd.func36 rfl rfl rfl ?_ hs
 clear hs w
 unfold au_table_end at hd
 refine Wp.sr <| Seg.op (OpT.assign rfl) rfl <| Seg.nilT <| Wp.seq <| Wp.seq ?_
 replace hd := chk_some hd; obtain ⟨ha9, hd⟩ := hd
 refine Wp.region <| Seg.op (OpT.move rfl) rfl <| Seg.op (OpT.add rfl rfl (fits64 ha9)) rfl <| Seg.op (OpT.move rfl) rfl <| Seg.op (OpT.nilCheck rfl) rfl <| Seg.op (OpT.fld (o' := 0) fl71_0 rfl rfl) rfl <| Seg.op (OpT.ldBlk (i := 0) (v := v1) Tryd.underlying67 rfl rfl rfl rfl) rfl ?_
 have hb10 := hv2.le
 refine Seg.op (OpT.len Tryd.underlying67 rfl hv2.sl) rfl <| Seg.op (OpT.lss rfl rfl) rfl <| Seg.nilT ?_
 refine Wp.cond (b := decide ((a1 + 1) < (a0.1.length:Int))) rfl (fun hb11 => ?_) (fun hb11 => ?_)
 ·
  replace hd := brT hb11 hd
  replace hb11 := of_decide_eq_true hb11
  refine Wp.seq ?_
  replace hd := chk_some hd; obtain ⟨ha12, hd⟩ := hd
  obtain ⟨x13, hx14, hd⟩ := bnd_some hd
  have hx14_ := idx_bd hx14
  replace hd := chk_some hd; obtain ⟨ha16, hd⟩ := hd
  replace hd := chk_some hd; obtain ⟨ha17, hd⟩ := hd
  have := ha17
  refine Wp.region <| Seg.op (OpT.move rfl) rfl <| Seg.op (OpT.nilCheck rfl) rfl <| Seg.op (OpT.fld (o' := 0) fl71_0 rfl rfl) rfl <| Seg.op (OpT.ldBlk (i := 0) (v := v1) Tryd.underlying67 rfl rfl rfl rfl) rfl <| Seg.op (OpT.move rfl) rfl <| Seg.op (OpT.add rfl rfl (fits64 ha12)) rfl ?_
  obtain ⟨_, rfl, hc15⟩ := SlD.get hv2 hx14
  refine Seg.op (OpT.ixSl Tryd.underlying67 ti3 rfl hv2.sl rfl (idx_bd hx14)) rfl <| Seg.op (OpT.ldH Tryd.underlying3 rfl rfl (hc15 0 _ rfl)) rfl <| Seg.op (OpT.sub rfl rfl (fits64 ha16)) rfl <| Seg.op (OpT.conv Tryd.underlying3 Tryd.underlying5 rfl (fitsU8 ha17)) rfl <| Seg.op (OpT.assign rfl) rfl <| Seg.nilT <| Wp.ret <| At.then_r ?_
  obtain rfl := Option.some.inj hd
  exact At.res1 rfl (RV.tmp (v := (.int .u8 (x13 - 1))) rfl) (fun w hs => ⟨rfl, (hs.permK [0] 1 rfl rfl rfl).weaken (Hp.le.refl _)⟩)
 replace hd := brF hb11 hd
 replace hb11 := of_decide_eq_false hb11
 refine Wp.skip <| At.then_n <| Wp.sr <| Seg.op (OpT.assign rfl) rfl <| Seg.nilT <| Wp.ret ?_
 obtain rfl := Option.some.inj hd
 exact At.res1 rfl (RV.tmp (v := (.int .u8 255)) rfl) (fun w hs => ⟨rfl, (hs.permK [0] 1 rfl rfl rfl).weaken (Hp.le.refl _)⟩)

set_option maxRecDepth 100000 in
set_option maxHeartbeats 4000000 in
theorem au_table_canonical_w {fu : Nat} {a0 : (List Int) × (List (List Int)) × (List Bool) × (List Int)} {v1 v3 v5 v7 : Value} {B0 : Nat} {r : List (Bool × (List (Int × Int × Int)))} (hv2 : SlD cI64 H a0.1 v1) (hv4 : SlD (cL cI64) H a0.2.1 v3) (hv6 : SlD cB H a0.2.2.1 v5) (hv8 : SlD cI64 H a0.2.2.2 v7) (hd : au_table_canonical fu a0 = some r) :
    Tri Tryd.prog 27 [(ptr B0 0)] H (.blk B0 (.cells #[v1, v3, v5, v7] 71 (0, 0)) :: O) (fun v H' O' => (∃ v1920 : Value, (.agg #[v1920]) = v ∧ SlD (cP cB (cL (cP cU8 (cP cU8 cI64)))) H' r v1920) ∧ .blk B0 (.cells #[v1, v3, v5, v7] 71 (0, 0)) :: O = O') := by
 intro w hs
 refine wp_of Tryd.func27 rfl rfl rfl ?_ hs
 clear hs w
 unfold au_table_canonical at hd
 refine Wp.sr <| Seg.alloc (cs := #[(.slice none 0 0)]) ti26 rfl rfl fun B9 => Seg.nilT <| Wp.seq ?_
 obtain ⟨x11, hx12, hd⟩ := bnd_some hd
 refine Wp.region <| Seg.op (OpT.move rfl) rfl <| Seg.opS (OpS.call ent35 rfl (Tri.atR 1 rfl (au_table_live_w hv2 hv4 hv6 hv8 hx12))) rfl ?_
 rintro _ H13 _ hl14 ⟨⟨v15, rfl, hv16⟩, rfl⟩
 refine Seg.op (OpT.assign rfl) rfl <| Seg.nilT <| Wp.seq <| Wp.seq ?_
 obtain ⟨x17, hx18, hd⟩ := bnd_some hd
 have hx18_ := idx_bd hx18
 obtain ⟨x20, hx21, hd⟩ := bnd_some hd
 have hx21_ := idx_bd hx21
 refine Wp.region <| Seg.op (OpT.move rfl) rfl <| Seg.op (OpT.move rfl) rfl <| Seg.op (OpT.nilCheck rfl) rfl <| Seg.op (OpT.fld (o' := 3) fl71_3 rfl rfl) rfl <| Seg.op (OpT.ldBlk (i := 1) (v := v7) Tryd.underlying67 rfl rfl rfl rfl) rfl ?_
 obtain ⟨_, rfl, hc19⟩ := SlD.get (hv8.mono hl14) hx18
 refine Seg.op (OpT.ixSl Tryd.underlying67 ti3 rfl (hv8.mono hl14).sl rfl (idx_bd hx18)) rfl <| Seg.op (OpT.ldH Tryd.underlying3 rfl rfl (hc19 0 _ rfl)) rfl ?_
 obtain ⟨_, rfl, hc22⟩ := SlD.get hv16 hx21
 refine Seg.op (OpT.ixSl Tryd.underlying69 ti4 rfl hv16.sl rfl (idx_bd hx21)) rfl <| Seg.op (OpT.ldH Tryd.underlying4 rfl rfl (hc22 0 _ rfl)) rfl <| Seg.op (OpT.not rfl) rfl <| Seg.nilT ?_
 refine Wp.cond (b := !x20) rfl (fun hb23 => ?_) (fun hb23 => ?_)
 ·
  replace hd := brT hb23 hd
  refine Wp.sr <| Seg.op (OpT.buildS (vs := []) (cs := #[(.slice none 0 0)]) plf26 ti26 rfl rfl (vc_nil) rfl) rfl <| Seg.stBlkW (i := 0) (cs' := #[(.slice none 0 0)]) rfl rfl ti26 rfl rfl (onesA (ones_cons rfl (ones_nil))) rfl ?_
  refine Seg.own (O := .blk B9 (.cells #[(.slice none 0 0)] 26 (0, 0)) :: .blk B0 (.cells #[v1, v3, v5, v7] 71 (0, 0)) :: O) ?_ rfl
  refine Seg.nilT <| Wp.ret <| At.then_r ?_
  obtain rfl := Option.some.inj hd
  exact At.res1 rfl (RV.cellA (i := 0) rfl Tryd.underlying26 rfl ti26 rfl rfl) (fun w hs => ⟨_, _, _, rfl, hl14, (hs.permK [1] 2 rfl rfl rfl), ⟨⟨(.slice none 0 0), rfl, SlD.nil⟩, rfl⟩⟩)
 replace hd := brF hb23 hd
 refine Wp.skip <| At.then_n <| Wp.sr <| Seg.buildD1 (c := cI64) (y := 0) (cs := [(.int .i64 0)]) Tryd.underlying67 ti3 rfl rfl rfl rfl (rfl) rfl fun v25 xs26 hq27 => Seg.op (OpT.assign rfl) rfl <| Seg.nilT <| Wp.seq ?_
 obtain ⟨x29, hx30, hd⟩ := bnd_some hd
 have hx30_ := idx_bd hx30
 replace hd := chk_some hd; obtain ⟨ha32, hd⟩ := hd
 replace hd := chk_some hd; obtain ⟨ha33, hd⟩ := hd
 refine Wp.region <| Seg.makeMap (mkI Tryd.underlying3) (meI Tryd.underlying3) rfl fun B28 => Seg.op (OpT.move rfl) rfl <| Seg.op (OpT.nilCheck rfl) rfl <| Seg.op (OpT.fld (o' := 3) fl71_3 rfl rfl) rfl <| Seg.op (OpT.ldBlk (i := 3) (v := v7) Tryd.underlying67 rfl rfl rfl rfl) rfl ?_
 obtain ⟨_, rfl, hc31⟩ := SlD.get (hv8.mono hl14) hx30
 refine Seg.op (OpT.ixSl Tryd.underlying67 ti3 rfl (hv8.mono hl14).sl rfl (idx_bd hx30)) rfl <| Seg.op (OpT.ldH Tryd.underlying3 rfl rfl (hc31 0 _ rfl)) rfl <| Seg.insert (K := (mkI Tryd.underlying3)) (M := (meI Tryd.underlying3)) (k := x29) (v := 0) 0 Tryd.underlying76 rfl rfl rfl ha32 (show F64 0 by decide) ha33 rfl <| Seg.op (OpT.move rfl) rfl <| Seg.op (OpT.assign rfl) rfl <| Seg.nilT <| Wp.sr <| Seg.alloc (cs := #[(.slice none 0 0)]) ti26 rfl rfl fun B34 => ?_
 refine Seg.nilT <| Wp.seq <| Wp.sr <| Seg.op (OpT.assign rfl) rfl <| Seg.nilT <| Wp.block <| Wp.nilRow 40 2 <| Wp.sub (L' := [(0, (ptr B0 0)), (2, (ptr B9 0)), (3, v15), (4, v25), (5, (.map (some B28))), (6, (ptr B34 0)), (7, (.int .i64 ((0 : Nat) : Int)))]) (.cons rfl (.cons rfl (.cons rfl (.cons rfl (.cons rfl (.cons rfl (.cons (lk_int rfl (by omega)) (.nil)))))))) ?_
 refine Wp.loopE (fun m LL HH OO => ∃ (l1266 : List Int), ∃ (l1270 : List (Bool × (List (Int × Int × Int)))), ∃ (m1274 : List (Int × Int)), ∃ (k1275 : Nat), ∃ (v1267 : Value), ∃ (xs1268 : List Value), ∃ (v1271 : Value), ∃ (xs1272 : List Value), [(0, (ptr B0 0)), (2, (ptr B9 0)), (3, v15), (4, v1267), (5, (.map (some B28))), (6, (ptr B34 0)), (7, (.int .i64 (k1275:Int)))] = LL ∧ .row v1271 40 2 l1270.length xs1272 :: .blk B34 (.cells #[v1271] 26 (0, 0)) :: mapR (mkI Tryd.underlying3) (meI Tryd.underlying3) B28 m1274 :: .row v1267 3 1 l1266.length xs1268 :: .blk B9 (.cells #[(.slice none 0 0)] 26 (0, 0)) :: .blk B0 (.cells #[v1, v3, v5, v7] 71 (0, 0)) :: O = OO ∧ loopK m (fun p nx => au_table_canonical_b7 fu a0 x11 p.1 p.2.1 p.2.2.1 p.2.2.2 nx) (l1266, l1270, m1274, k1275) = some r ∧ LayL cI64 HH l1266 xs1268 ∧ LayL (cP cB (cL (cP cU8 (cP cU8 cI64)))) HH l1270 xs1272) fu ⟨([0] : List Int), ([] : List (Bool × (List (Int × Int × Int)))), (fmPut ([] : List (Int × Int)) x29 0), 0, v25, xs26, (.slice none 0 0), [], rfl, rfl, hd, hq27, (LayL.nil (c := (cP cB (cL (cP cU8 (cP cU8 cI64))))) (H := H13))⟩ ?_
 intro m1277 L1281 H1279 O1282 hl1280 hI1276
 obtain ⟨l1266, l1270, m1274, k1275, v1267, xs1268, v1271, xs1272, rfl, rfl, hd, hq1269, hq1273⟩ := hI1276
 replace hd := loopK_some hd; obtain ⟨m1278, rfl, hd⟩ := hd
 obtain ⟨nx1265, hn1283⟩ : ∃ f, f = loopK m1278 (fun p nx => au_table_canonical_b7 fu a0 x11 p.1 p.2.1 p.2.2.1 p.2.2.2 nx) := ⟨_, rfl⟩
 rw [← hn1283] at hd
 replace hd : au_table_canonical_b7 fu a0 x11 l1266 l1270 m1274 k1275 nx1265 = some r := hd
 unfold au_table_canonical_b7 at hd
 refine Wp.seq <| Wp.sr <| Seg.op (OpT.move rfl) rfl <| Seg.op (OpT.move rfl) rfl ?_
 refine Seg.rowLe (i := 3) rfl fun hb1284 => ?_
 refine Seg.op (OpT.lenRow (i := 3) Tryd.underlying67 rfl rfl) rfl <| Seg.op (OpT.lss rfl rfl) rfl <| Seg.nilT ?_
 refine Wp.cond (b := decide ((k1275:Int) < (l1266.length:Int))) rfl (fun hb1285 => ?_) (fun hb1285 => ?_)
 ·
  replace hd := brT hb1285 hd
  replace hb1285 := of_decide_eq_true hb1285
  refine Wp.skip <| At.then_n <| Wp.seq <| Wp.block <| Wp.seq ?_
  obtain ⟨x1300, hx1301, hd⟩ := bnd_some hd
  have hx1301_ := idx_bd hx1301
  obtain ⟨x1303, hx1304, hd⟩ := bnd_some hd
  have hx1304_ := idx_bd hx1304
  obtain ⟨_, rfl, hc1302, hc1302_⟩ := LayL.get hq1269 (idx_some hx1301).2
  obtain ⟨_, rfl, hc1305⟩ := SlD.get (hv6.mono (hl14.trans hl1280)) hx1304
  refine Wp.emp <| SegO.runK 7 [an0, an0, an0, ⟨[6], [], []⟩, an0, an0, ⟨[4], [], []⟩, ⟨[4], [], []⟩, an0, an0, an0, ⟨[0], [0], [11]⟩, ⟨[0], [0], [11]⟩] follows rfl (by kernel_rfl) <| SegO.op (val := fun p1299 => (ptr B0 0)) rfl rfl (fun _ => rfl) (fun _ p1299 _ hx hf hy => OpT.move rfl) rfl <| SegO.op (val := fun p1299 => (ptr B0 0)) rfl rfl (fun _ => rfl) (fun _ p1299 _ hx hf hy => OpT.nilCheck rfl) rfl <| SegO.op (val := fun p1299 => (ptr B0 2)) rfl rfl (fun _ => rfl) (fun _ p1299 _ hx hf hy => OpT.fld (o' := 2) fl71_2 rfl rfl) rfl <| SegO.op (val := fun p1299 => v5) rfl rfl (fun _ => rfl) (fun _ p1299 _ hx hf hy => OpT.ldBlk (i := 6) (v := v5) Tryd.underlying69 rfl rfl (hy 6 _ rfl rfl) rfl) rfl <| SegO.op (val := fun p1299 => v1267) rfl rfl (fun _ => rfl) (fun _ p1299 _ hx hf hy => OpT.move rfl) rfl <| SegO.op (val := fun p1299 => (.int .i64 (k1275:Int))) rfl rfl (fun _ => rfl) (fun _ p1299 _ hx hf hy => OpT.move rfl) rfl ?_
  refine SegO.op (val := fun p1299 => (elemPtr v1267 (k1275 * 1))) rfl rfl (fun _ => rfl) (fun _ p1299 _ hx hf hy => OpT.ixRow (j := 4) Tryd.underlying67 ti3 rfl (hy 4 _ rfl rfl) rfl (idx_bd hx1301)) rfl <| SegO.op (val := fun p1299 => (.int .i64 x1300)) rfl rfl (fun _ => rfl) (fun _ p1299 _ hx hf hy => OpT.ldRow (i := 4) (k := k1275 * 1 + 0) Tryd.underlying3 rfl rfl (hy 4 _ rfl rfl) (hc1302 0 _ rfl)) rfl <| SegO.op (val := fun p1299 => (elemPtr v5 (x1300.toNat * 1))) rfl rfl (fun _ => rfl) (fun _ p1299 _ hx hf hy => OpT.ixSl Tryd.underlying69 ti4 rfl (hv6.mono ((hl14.trans hl1280).trans hx)).sl rfl (idx_bd hx1304)) rfl <| SegO.op (val := fun p1299 => (.bool x1303)) rfl rfl (fun _ => rfl) (fun _ p1299 _ hx hf hy => OpT.ldH Tryd.underlying4 rfl rfl ((hc1305 0 _ rfl).mono hx)) rfl <| SegO.op (val := fun p1299 => (.agg #[(.bool x1303), (.slice none 0 0)])) rfl rfl (fun _ => rfl) (fun _ p1299 _ hx hf hy => OpT.buildS (vs := [(0, (.bool x1303))]) (cs := #[(.bool x1303), (.slice none 0 0)]) plf40 ti40 rfl rfl (vc_cons rfl (vc_nil)) rfl) rfl <| SegO.op1 (val := fun p1299 => ptr (blkOf (p1299 11)) 0) (res := fun p1299 => .blk (blkOf (p1299 11)) (.cells #[(.bool false), (.slice none 0 0)] 40 (0, 0))) 0 rfl rfl (fun _ => rfl) (fun _ => rfl) (fun _ p1299 _ hx hf hy => OpS.allocR 0 ti40 rfl (hy 0 _ rfl rfl)) rfl <| SegO.op1n (res := fun p1299 => .blk (blkOf (p1299 11)) (.cells #[(.bool x1303), (.slice none 0 0)] 40 (0, 0))) 0 rfl rfl rfl (fun _ => rfl) (fun _ p1299 _ hx hf hy => OpS.stR (vs := [(.bool x1303), (.slice none 0 0)]) rfl rfl rfl ti40 rfl (ones_cons rfl (ones_cons rfl (ones_nil))) (hy 0 _ rfl rfl) rfl rfl) <| SegO.done fun H1308 p1299 hl1309 hF1310 => ?_
  refine At.sub (L' := [(0, (ptr B0 0)), (2, (ptr B9 0)), (3, v15), (4, v1267), (5, (.map (some B28))), (6, (ptr B34 0)), (7, (.int .i64 (k1275:Int))), (8, (ptr (blkOf (p1299 11)) 0))]) (.cons rfl (.cons rfl (.cons rfl (.cons rfl (.cons rfl (.cons rfl (.cons rfl (.cons rfl (.nil))))))))) ?_
  refine At.own (O := .blk (blkOf (p1299 11)) (.cells #[(.bool x1303), (.slice none 0 0)] 40 (0, 0)) :: .row v1271 40 2 l1270.length xs1272 :: .blk B34 (.cells #[v1271] 26 (0, 0)) :: mapR (mkI Tryd.underlying3) (meI Tryd.underlying3) B28 m1274 :: .row v1267 3 1 l1266.length xs1268 :: .blk B9 (.cells #[(.slice none 0 0)] 26 (0, 0)) :: .blk B0 (.cells #[v1, v3, v5, v7] 71 (0, 0)) :: O) ?_ (by first | rfl | (simp only [List.length_append, List.length_set]; rfl) | simp)
  refine At.then_n <| Wp.seq <| Wp.seq ?_
  obtain ⟨x1321, hx1322, hd⟩ := bnd_some hd
  have hx1322_ := idx_bd hx1322
  obtain ⟨x1324, hx1325, hd⟩ := bnd_some hd
  have hx1325_ := idx_bd hx1325
  obtain ⟨_, rfl, hc1323, hc1323_⟩ := LayL.get (hq1269.mono hl1309) (idx_some hx1322).2
  obtain ⟨_, ⟨v1327, rfl, hv1328⟩, hc1326⟩ := SlD.get (hv4.mono ((hl14.trans hl1280).trans hl1309)) hx1325
  have hb1329 := hv1328.le
  refine Wp.drawE 12 follows rfl (by kernel_rfl) <| SegL.opE (OpT.move rfl) rfl <| SegL.opE (OpT.nilCheck rfl) rfl <| SegL.opE (OpT.fld (o' := 1) fl71_1 rfl rfl) rfl <| SegL.opE (OpT.ldBlk (i := 6) (v := v3) Tryd.underlying59 rfl rfl rfl rfl) rfl <| SegL.opE (OpT.move rfl) rfl <| SegL.opE (OpT.move rfl) rfl <| SegL.opE (OpT.ixRow (j := 4) Tryd.underlying67 ti3 rfl rfl rfl (idx_bd hx1322)) rfl ?_
  refine SegL.opE (OpT.ldRow (i := 4) (k := k1275 * 1 + 0) Tryd.underlying3 rfl rfl rfl (hc1323 0 _ rfl)) rfl <| SegL.opE (OpT.ixSl Tryd.underlying59 ti67 rfl (hv4.mono ((hl14.trans hl1280).trans hl1309)).sl rfl (idx_bd hx1325)) rfl <| SegL.opE (OpT.ldH Tryd.underlying67 rfl rfl (hc1326 0 _ rfl)) rfl <| SegL.opE (OpT.len Tryd.underlying67 rfl hv1328.sl) rfl <| SegL.opE (OpT.move rfl) rfl <| SegL.doneE <| EndL.is (t := 0) rfl <| EndL.is (t := 2) rfl ?_
  refine EndL.is (t := 3) rfl <| EndL.is (t := 4) rfl <| EndL.is (t := 5) rfl <| EndL.is (t := 6) rfl <| EndL.is (t := 7) rfl <| EndL.is (t := 8) rfl <| EndL.is (t := 63) rfl <| EndL.is (t := 64) rfl ?_
  refine EndL.is (t := 65) rfl <| EndL.seg <| Seg.nilT <| Wp.block <| Wp.nilRow 50 3 <| Wp.sub (L' := [(0, (ptr B0 0)), (2, (ptr B9 0)), (3, v15), (4, v1267), (5, (.map (some B28))), (6, (ptr B34 0)), (7, (.int .i64 (k1275:Int))), (8, (ptr (blkOf (p1299 11)) 0)), (63, v1327), (64, (.int .i64 (x1324.length:Int))), (65, (.int .i64 ((0 : Nat) : Int)))]) (.cons rfl (.cons rfl (.cons rfl (.cons rfl (.cons rfl (.cons rfl (.cons rfl (.cons rfl (.cons rfl (.cons rfl (.cons (lk_int rfl (by omega)) (.nil)))))))))))) <| Wp.loopE (fun m LL HH OO => ∃ (l1649 : List Int), ∃ (l1653 : List (Int × Int × Int)), ∃ (m1657 : List (Int × Int)), ∃ (k1658 : Nat), ∃ (v1650 : Value), ∃ (xs1651 : List Value), ∃ (v1654 : Value), ∃ (xs1655 : List Value), [(0, (ptr B0 0)), (2, (ptr B9 0)), (3, v15), (4, v1650), (5, (.map (some B28))), (6, (ptr B34 0)), (7, (.int .i64 (k1275:Int))), (8, (ptr (blkOf (p1299 11)) 0)), (63, v1327), (64, (.int .i64 (x1324.length:Int))), (65, (.int .i64 (k1658:Int)))] = LL ∧ .row v1654 50 3 l1653.length xs1655 :: .blk (blkOf (p1299 11)) (.cells #[(.bool x1303), v1654] 40 (0, 0)) :: .row v1271 40 2 l1270.length xs1272 :: .blk B34 (.cells #[v1271] 26 (0, 0)) :: mapR (mkI Tryd.underlying3) (meI Tryd.underlying3) B28 m1657 :: .row v1650 3 1 l1649.length xs1651 :: .blk B9 (.cells #[(.slice none 0 0)] 26 (0, 0)) :: .blk B0 (.cells #[v1, v3, v5, v7] 71 (0, 0)) :: O = OO ∧ loopK m (fun p nx => au_table_canonical_b10 fu a0 x11 l1270 k1275 nx1265 x1303 x1324 p.1 p.2.1 p.2.2.1 p.2.2.2 nx) (l1649, l1653, m1657, k1658) = some r ∧ LayL cI64 HH l1649 xs1651 ∧ LayL (cP cU8 (cP cU8 cI64)) HH l1653 xs1655) fu ⟨l1266, ([] : List (Int × Int × Int)), m1274, 0, v1267, xs1268, (.slice none 0 0), [], rfl, rfl, hd, (hq1269.mono hl1309), (LayL.nil (c := (cP cU8 (cP cU8 cI64))) (H := H1308))⟩ ?_
  intro m1660 L1664 H1662 O1665 hl1663 hI1659
  obtain ⟨l1649, l1653, m1657, k1658, v1650, xs1651, v1654, xs1655, rfl, rfl, hd, hq1652, hq1656⟩ := hI1659
  replace hd := loopK_some hd; obtain ⟨m1661, rfl, hd⟩ := hd
  obtain ⟨nx1648, hn1666⟩ : ∃ f, f = loopK m1661 (fun p nx => au_table_canonical_b10 fu a0 x11 l1270 k1275 nx1265 x1303 x1324 p.1 p.2.1 p.2.2.1 p.2.2.2 nx) := ⟨_, rfl⟩
  rw [← hn1666] at hd
  replace hd : au_table_canonical_b10 fu a0 x11 l1270 k1275 nx1265 x1303 x1324 l1649 l1653 m1657 k1658 nx1648 = some r := hd
  unfold au_table_canonical_b10 at hd
  refine Wp.sr <| Seg.op (OpT.lss rfl rfl) rfl <| Seg.nilT <| Wp.seq ?_
  refine Wp.cond (b := decide ((k1658:Int) < (x1324.length:Int))) rfl (fun hb1667 => ?_) (fun hb1667 => ?_)
  ·
   replace hd := brT hb1667 hd
   replace hb1667 := of_decide_eq_true hb1667
   refine Wp.skip <| At.then_n <| Wp.seq <| Wp.block <| Wp.seq ?_
   obtain ⟨x1668, hx1669, hd⟩ := bnd_some hd
   have hx1669_ := idx_bd hx1669
   refine Wp.region <| Seg.op (OpT.move rfl) rfl ?_
   obtain ⟨_, rfl, hc1670⟩ := SlD.get (hv1328.mono hl1663) hx1669
   refine Seg.op (OpT.ixSl Tryd.underlying67 ti3 rfl (hv1328.mono hl1663).sl rfl (idx_bd hx1669)) rfl <| Seg.op (OpT.ldH Tryd.underlying3 rfl rfl (hc1670 0 _ rfl)) rfl <| Seg.op (OpT.assign rfl) rfl <| Seg.op (OpT.assign rfl) rfl <| Seg.nilT <| Wp.seq ?_
   obtain ⟨x1671, hx1672, hd⟩ := bnd_some hd
   have hx1672_ := idx_bd hx1672
   refine Wp.region <| Seg.op (OpT.move rfl) rfl <| Seg.op (OpT.nilCheck rfl) rfl <| Seg.op (OpT.fld (o' := 3) fl71_3 rfl rfl) rfl <| Seg.op (OpT.ldBlk (i := 7) (v := v7) Tryd.underlying67 rfl rfl rfl rfl) rfl <| Seg.op (OpT.move rfl) rfl ?_
   obtain ⟨_, rfl, hc1673⟩ := SlD.get (hv8.mono (((hl14.trans hl1280).trans hl1309).trans hl1663)) hx1672
   refine Seg.op (OpT.ixSl Tryd.underlying67 ti3 rfl (hv8.mono (((hl14.trans hl1280).trans hl1309).trans hl1663)).sl rfl (idx_bd hx1672)) rfl <| Seg.op (OpT.ldH Tryd.underlying3 rfl rfl (hc1673 0 _ rfl)) rfl <| Seg.op (OpT.assign rfl) rfl <| Seg.nilT <| Wp.seq <| Wp.seq ?_
   obtain ⟨x1674, hx1675, hd⟩ := bnd_some hd
   have hx1675_ := idx_bd hx1675
   refine Wp.region <| Seg.op (OpT.move rfl) rfl <| Seg.op (OpT.move rfl) rfl ?_
   obtain ⟨_, rfl, hc1676⟩ := SlD.get (hv16.mono ((hl1280.trans hl1309).trans hl1663)) hx1675
   refine Seg.op (OpT.ixSl Tryd.underlying69 ti4 rfl (hv16.mono ((hl1280.trans hl1309).trans hl1663)).sl rfl (idx_bd hx1675)) rfl <| Seg.op (OpT.ldH Tryd.underlying4 rfl rfl (hc1676 0 _ rfl)) rfl <| Seg.op (OpT.not rfl) rfl <| Seg.nilT ?_
   refine Wp.cond (b := !x1674) rfl (fun hb1677 => ?_) (fun hb1677 => ?_)
   ·
    replace hd := brT hb1677 hd
    refine Wp.exit <| At.then_x <| At.blk_hit <| At.then_n <| Wp.region <| Seg.op (OpT.add rfl rfl (fits64 (by omega))) rfl <| Seg.op (OpT.move rfl) rfl <| Seg.nil ?_
    refine At.nextE (L' := [(0, (ptr B0 0)), (2, (ptr B9 0)), (3, v15), (4, v1650), (5, (.map (some B28))), (6, (ptr B34 0)), (7, (.int .i64 (k1275:Int))), (8, (ptr (blkOf (p1299 11)) 0)), (63, v1327), (64, (.int .i64 (x1324.length:Int))), (65, (.int .i64 ((k1658 + 1 : Nat) : Int)))]) m1661 (Nat.lt_succ_self _) (Hp.le.refl _) (.cons rfl (.cons rfl (.cons rfl (.cons rfl (.cons rfl (.cons rfl (.cons rfl (.cons rfl (.cons rfl (.cons rfl (.cons (lk_int rfl (by omega)) (.nil)))))))))))) ⟨l1649, l1653, m1657, (k1658 + 1), v1650, xs1651, v1654, xs1655, rfl, rfl, (by rw [← hn1666]; exact hd), hq1652, hq1656⟩
   replace hd := brF hb1677 hd
   refine Wp.skip <| At.then_n <| Wp.seq <| Wp.seq ?_
   replace hd := chk_some hd; obtain ⟨ha1678, hd⟩ := hd
   refine Wp.region <| Seg.op (OpT.move rfl) rfl <| Seg.op (OpT.move rfl) rfl <| Seg.op (OpT.lookupOk (K := (mkI Tryd.underlying3)) (M := (meI Tryd.underlying3)) (i := 4) (k := x1671) (z := 0) Tryd.underlying76 ti3 (show F64 0 by decide) rfl rfl ha1678 rfl) rfl <| Seg.op (OpT.move rfl) rfl <| Seg.op (OpT.extract rfl rfl) rfl <| Seg.op (OpT.extract rfl rfl) rfl <| Seg.op (OpT.assign rfl) rfl ?_
   refine Seg.op (OpT.assign rfl) rfl <| Seg.nilT <| Wp.sr <| Seg.op (OpT.move rfl) rfl <| Seg.op (OpT.not rfl) rfl <| Seg.nilT ?_
   refine Wp.joinT (fun LL HH OO => ∃ (l1691 : List Int), ∃ (m1695 : List (Int × Int)), ∃ (v1692 : Value), ∃ (xs1693 : List Value), [(0, (ptr B0 0)), (2, (ptr B9 0)), (3, v15), (4, v1692), (5, (.map (some B28))), (6, (ptr B34 0)), (7, (.int .i64 (k1275:Int))), (8, (ptr (blkOf (p1299 11)) 0)), (9, (.int .i64 (k1658:Int))), (11, (.int .i64 x1671)), (63, v1327), (64, (.int .i64 (x1324.length:Int))), (65, (.int .i64 (k1658:Int)))] = LL ∧ .row v1654 50 3 l1653.length xs1655 :: .blk (blkOf (p1299 11)) (.cells #[(.bool x1303), v1654] 40 (0, 0)) :: .row v1271 40 2 l1270.length xs1272 :: .blk B34 (.cells #[v1271] 26 (0, 0)) :: mapR (mkI Tryd.underlying3) (meI Tryd.underlying3) B28 m1695 :: .row v1692 3 1 l1691.length xs1693 :: .blk B9 (.cells #[(.slice none 0 0)] 26 (0, 0)) :: .blk B0 (.cells #[v1, v3, v5, v7] 71 (0, 0)) :: O = OO ∧ au_table_canonical_j11 fu a0 l1653 k1658 nx1648 x1671 l1691 m1695 = some r ∧ LayL cI64 HH l1691 xs1693) ?_ ?_
   ·
    refine Wp.cond (b := !((fmGet m1657 x1671).isSome)) rfl (fun hb1889 => ?_) (fun hb1889 => ?_)
    ·
     replace hd := brT hb1889 hd
     refine Wp.seq ?_
     replace hd := chk_some hd; obtain ⟨ha1891, hd⟩ := hd
     replace hd := chk_some hd; obtain ⟨ha1892, hd⟩ := hd
     replace hd := chk_some hd; obtain ⟨ha1893, hd⟩ := hd
     refine Wp.region <| Seg.op (OpT.move rfl) rfl <| Seg.op (OpT.move rfl) rfl <| Seg.op (OpT.move rfl) rfl ?_
     refine Seg.rowLe (i := 5) rfl fun hb1890 => ?_
     refine Seg.op (OpT.lenRow (i := 5) Tryd.underlying67 rfl rfl) rfl <| Seg.mapUpdate (K := (mkI Tryd.underlying3)) (M := (meI Tryd.underlying3)) (k := x1671) (v := (l1649.length:Int)) 4 Tryd.underlying76 rfl rfl rfl ha1891 ha1892 ha1893 rfl <| Seg.nilT ?_
     replace hd := chk_some hd; obtain ⟨ha1897, hd⟩ := hd
     refine Wp.region <| Seg.op (OpT.move rfl) rfl <| Seg.op (OpT.move rfl) rfl <| Seg.buildD1 (c := cI64) (y := x1668) (cs := [(.int .i64 x1668)]) Tryd.underlying67 ti3 rfl rfl rfl rfl (rfl) rfl fun v1894 xs1895 hq1896 => Seg.appD (i := 6) (j := 0) hq1652 hq1896 Tryd.underlying67 ti3 rfl (by decide) rfl rfl rfl rfl (by decide) ha1897 rfl fun v1898 xs1899 hq1900 => Seg.drop (i := 0) <| Seg.op (OpT.assign rfl) rfl <| Seg.nil ?_
     refine At.joinE (L' := [(0, (ptr B0 0)), (2, (ptr B9 0)), (3, v15), (4, v1898), (5, (.map (some B28))), (6, (ptr B34 0)), (7, (.int .i64 (k1275:Int))), (8, (ptr (blkOf (p1299 11)) 0)), (9, (.int .i64 (k1658:Int))), (11, (.int .i64 x1671)), (63, v1327), (64, (.int .i64 (x1324.length:Int))), (65, (.int .i64 (k1658:Int)))]) (Hp.le.refl _) (.cons rfl (.cons rfl (.cons rfl (.cons rfl (.cons rfl (.cons rfl (.cons rfl (.cons rfl (.cons rfl (.cons rfl (.cons rfl (.cons rfl (.cons rfl (.nil)))))))))))))) ⟨(l1649 ++ ([x1668] : List Int)), (fmPut m1657 x1671 (l1649.length:Int)), v1898, xs1899, rfl, rfl, hd, hq1900⟩
    replace hd := brF hb1889 hd
    refine Wp.skip ?_
    refine At.joinE (L' := [(0, (ptr B0 0)), (2, (ptr B9 0)), (3, v15), (4, v1650), (5, (.map (some B28))), (6, (ptr B34 0)), (7, (.int .i64 (k1275:Int))), (8, (ptr (blkOf (p1299 11)) 0)), (9, (.int .i64 (k1658:Int))), (11, (.int .i64 x1671)), (63, v1327), (64, (.int .i64 (x1324.length:Int))), (65, (.int .i64 (k1658:Int)))]) (Hp.le.refl _) (.cons rfl (.cons rfl (.cons rfl (.cons rfl (.cons rfl (.cons rfl (.cons rfl (.cons rfl (.cons rfl (.cons rfl (.cons rfl (.cons rfl (.cons rfl (.nil)))))))))))))) ⟨l1649, m1657, v1650, xs1651, rfl, rfl, hd, hq1652⟩
   intro L1699 H1697 O1700 hl1698 hI1696
   obtain ⟨l1691, m1695, v1692, xs1693, rfl, rfl, hd, hq1694⟩ := hI1696
   unfold au_table_canonical_j11 at hd
   refine Wp.sr <| Seg.op (OpT.fld (o' := 1) fl40_1 rfl rfl) rfl <| Seg.op (OpT.ldBlk (i := 1) (v := v1654) Tryd.underlying38 rfl rfl rfl rfl) rfl ?_
   refine Seg.rowLe (i := 0) rfl fun hb1701 => ?_
   refine Seg.op (OpT.lenRow (i := 0) Tryd.underlying38 rfl rfl) rfl <| Seg.op (OpT.assign rfl) rfl <| Seg.nilT <| Wp.seq ?_
   rcases Bool.eq_false_or_eq_true (decide (0 < (l1653.length:Int))) with hg1725 | hg1725
   ·
    replace hd := brT hg1725 hd
    have hg1725_ := of_decide_eq_true hg1725
    replace hd := chk_some hd; obtain ⟨ha1726, hd⟩ := hd
    obtain ⟨x1727, hx1728, hd⟩ := bnd_some hd
    have hx1728_ := idx_bd hx1728
    replace hd := chk_some hd; obtain ⟨ha1734, hd⟩ := hd
    rcases Bool.eq_false_or_eq_true (decide (x1727.2.2 = ((fmGet m1695 x1671).getD 0))) with hg1735 | hg1735
    ·
     replace hd := brT hg1735 hd
     have hg1735_ := of_decide_eq_true hg1735
     replace hd := chk_some hd; obtain ⟨ha1736, hd⟩ := hd
     obtain ⟨x1737, hx1738, hd⟩ := bnd_some hd
     have hx1738_ := idx_bd hx1738
     replace hd := chk_some hd; obtain ⟨ha1744, hd⟩ := hd
     obtain ⟨x1745, hx1746, hd⟩ := bnd_some hd
     have hx1746_ := idx_bd hx1746
     obtain ⟨_, ⟨_, _, rfl, ⟨rfl, hr1730, hr1731⟩, ⟨_, _, rfl, ⟨rfl, hr1732, hr1733⟩, rfl⟩⟩, hc1729, hc1729_⟩ := LayL.get (hq1656.mono hl1698) (idx_some hx1728).2
     obtain ⟨_, ⟨_, _, rfl, ⟨rfl, hr1740, hr1741⟩, ⟨_, _, rfl, ⟨rfl, hr1742, hr1743⟩, rfl⟩⟩, hc1739, hc1739_⟩ := LayL.get (hq1656.mono hl1698) (idx_some hx1738).2
     obtain ⟨_, rfl, hc1747⟩ := SlD.get (hv2.mono ((((hl14.trans hl1280).trans hl1309).trans hl1663).trans hl1698)) hx1746
     refine Wp.drawE 34 follows rfl (by kernel_rfl) <| SegL.opE (OpT.move rfl) rfl <| SegL.opE (OpT.asB (b := decide (0 < (l1653.length:Int))) (c := true) (OpT.gtr rfl rfl) hg1725) rfl <| SegL.opE (OpT.move rfl) rfl <| SegL.opGE rfl rfl (OpT.fld (o' := 1) fl40_1 rfl rfl) rfl <| SegL.opGE rfl rfl (OpT.ldBlk (i := 1) (v := v1654) Tryd.underlying38 rfl rfl rfl rfl) rfl <| SegL.opGE rfl rfl (OpT.move rfl) rfl <| SegL.opGE rfl rfl (OpT.sub rfl rfl (fits64 ha1726)) rfl ?_
     refine SegL.opGE rfl rfl (OpT.ixRow (j := 0) Tryd.underlying38 ti50 rfl rfl rfl (idx_bd hx1728)) rfl <| SegL.opGE rfl rfl (OpT.fldRow (q := 0) fl50_2 rfl rfl (by omega)) rfl <| SegL.opGE rfl rfl (OpT.ldRow (i := 0) (k := (((l1653.length:Int) - 1).toNat) * 3 + 2) Tryd.underlying3 rfl rfl rfl (hc1729 2 _ rfl)) rfl <| SegL.opGE rfl rfl (OpT.move rfl) rfl <| SegL.opGE rfl rfl (OpT.move rfl) rfl <| SegL.opGE rfl rfl (OpT.lookup (K := (mkI Tryd.underlying3)) (M := (meI Tryd.underlying3)) (i := 4) (k := x1671) (z := 0) Tryd.underlying76 ti3 (show F64 0 by decide) rfl rfl ha1734 rfl) rfl <| SegL.opGE rfl rfl (OpT.asB (b := decide (x1727.2.2 = ((fmGet m1695 x1671).getD 0))) (c := true) (OpT.eql rfl rfl) hg1735) rfl <| SegL.opE (OpT.pickT rfl rfl) rfl ?_
     refine SegL.opE (OpT.move rfl) rfl <| SegL.opGE rfl rfl (OpT.fld (o' := 1) fl40_1 rfl rfl) rfl <| SegL.opGE rfl rfl (OpT.ldBlk (i := 1) (v := v1654) Tryd.underlying38 rfl rfl rfl rfl) rfl <| SegL.opGE rfl rfl (OpT.move rfl) rfl <| SegL.opGE rfl rfl (OpT.sub rfl rfl (fits64 ha1736)) rfl <| SegL.opGE rfl rfl (OpT.ixRow (j := 0) Tryd.underlying38 ti50 rfl rfl rfl (idx_bd hx1738)) rfl <| SegL.opGE rfl rfl (OpT.fldRow (q := 0) fl50_1 rfl rfl (by omega)) rfl <| SegL.opGE rfl rfl (OpT.ldRow (i := 0) (k := (((l1653.length:Int) - 1).toNat) * 3 + 1) Tryd.underlying5 rfl rfl rfl (hc1739 1 _ rfl)) rfl ?_
     refine SegL.opGE rfl rfl (OpT.conv Tryd.underlying5 Tryd.underlying3 rfl (fits64 (by omega))) rfl <| SegL.opGE rfl rfl (OpT.add rfl rfl (fits64 ha1744)) rfl <| SegL.opGE rfl rfl (OpT.move rfl) rfl <| SegL.opGE rfl rfl (OpT.nilCheck rfl) rfl <| SegL.opGE rfl rfl (OpT.fld (o' := 0) fl71_0 rfl rfl) rfl <| SegL.opGE rfl rfl (OpT.ldBlk (i := 7) (v := v1) Tryd.underlying67 rfl rfl rfl rfl) rfl <| SegL.opGE rfl rfl (OpT.move rfl) rfl <| SegL.opGE rfl rfl (OpT.ixSl Tryd.underlying67 ti3 rfl (hv2.mono ((((hl14.trans hl1280).trans hl1309).trans hl1663).trans hl1698)).sl rfl (idx_bd hx1746)) rfl ?_
     refine SegL.opGE rfl rfl (OpT.ldH Tryd.underlying3 rfl rfl (hc1747 0 _ rfl)) rfl <| SegL.opGE rfl rfl (OpT.eql rfl rfl) rfl <| SegL.opE (OpT.pickT rfl rfl) rfl <| SegL.doneE <| EndL.is (t := 0) rfl <| EndL.is (t := 2) rfl <| EndL.is (t := 3) rfl <| EndL.is (t := 4) rfl ?_
     refine EndL.is (t := 5) rfl <| EndL.is (t := 6) rfl <| EndL.is (t := 7) rfl <| EndL.is (t := 8) rfl <| EndL.is (t := 9) rfl <| EndL.is (t := 11) rfl <| EndL.is (t := 14) rfl <| EndL.is (t := 63) rfl ?_
     refine EndL.is (t := 64) rfl <| EndL.is (t := 65) rfl <| EndL.is (t := 134) rfl <| EndL.seg <| Seg.nilT ?_
     refine Wp.cond (b := decide ((x1737.2.1 + 1) = x1745)) rfl (fun hb1748 => ?_) (fun hb1748 => ?_)
     ·
      replace hd := brT hb1748 hd
      replace hb1748 := of_decide_eq_true hb1748
      replace hd := chk_some hd; obtain ⟨ha1769, hd⟩ := hd
      obtain ⟨x1770, hx1771, hd⟩ := bnd_some hd
      replace hd := chk_some hd; obtain ⟨ha1774, hd⟩ := hd
      have hr1772 := ha1774.1; have hr1773 := ha1774.2
      obtain ⟨x1775, hx1776, hd⟩ := bnd_some hd
      have hx1776_ := idx_bd hx1776
      obtain ⟨_, ⟨_, _, rfl, ⟨rfl, hr1778, hr1779⟩, ⟨_, _, rfl, ⟨rfl, hr1780, hr1781⟩, rfl⟩⟩, hc1777, hc1777_⟩ := LayL.get (hq1656.mono hl1698) (idx_some hx1776).2
      refine SegO.runK 8 [an0, ⟨[1], [], []⟩, an0, an0, an0, an0, ⟨[7], [], []⟩, ⟨[0], [], []⟩, ⟨[0], [], []⟩, ⟨[0], [0], []⟩] follows rfl (by kernel_rfl) <| SegO.op (val := fun p1768 => (ptr (blkOf (p1299 11)) 1)) rfl rfl (fun _ => rfl) (fun _ p1768 _ hx hf hy => OpT.fld (o' := 1) fl40_1 rfl rfl) rfl <| SegO.op (val := fun p1768 => v1654) rfl rfl (fun _ => rfl) (fun _ p1768 _ hx hf hy => OpT.ldBlk (i := 1) (v := v1654) Tryd.underlying38 rfl rfl (hy 1 _ rfl rfl) rfl) rfl <| SegO.op (val := fun p1768 => (.int .i64 (l1653.length:Int))) rfl rfl (fun _ => rfl) (fun _ p1768 _ hx hf hy => OpT.move rfl) rfl <| SegO.op (val := fun p1768 => (.int .i64 ((l1653.length:Int) - 1))) rfl rfl (fun _ => rfl) (fun _ p1768 _ hx hf hy => OpT.sub rfl rfl (fits64 ha1769)) rfl <| SegO.op (val := fun p1768 => (ptr B0 0)) rfl rfl (fun _ => rfl) (fun _ p1768 _ hx hf hy => OpT.move rfl) rfl <| SegO.op (val := fun p1768 => (.int .i64 (k1658:Int))) rfl rfl (fun _ => rfl) (fun _ p1768 _ hx hf hy => OpT.move rfl) rfl <| SegO.op (val := fun p1768 => (.int .u8 x1770)) rfl rfl (fun _ => rfl) (fun _ p1768 _ hx hf hy => OpT.call ent36 rfl (TriV.at 7 (hy 7 _ rfl rfl) (au_table_end_w (hv2.mono (((((hl14.trans hl1280).trans hl1309).trans hl1663).trans hl1698).trans hx)) (hv4.mono (((((hl14.trans hl1280).trans hl1309).trans hl1663).trans hl1698).trans hx)) (hv6.mono (((((hl14.trans hl1280).trans hl1309).trans hl1663).trans hl1698).trans hx)) (hv8.mono (((((hl14.trans hl1280).trans hl1309).trans hl1663).trans hl1698).trans hx)) hx1771))) rfl ?_
      refine SegO.op (val := fun p1768 => (elemPtr v1654 ((((l1653.length:Int) - 1).toNat) * 3))) rfl rfl (fun _ => rfl) (fun _ p1768 _ hx hf hy => OpT.ixRow (j := 0) Tryd.underlying38 ti50 rfl (hy 0 _ rfl rfl) rfl (idx_bd hx1776)) rfl <| SegO.op (val := fun p1768 => (elemPtr v1654 ((((l1653.length:Int) - 1).toNat) * 3 + 1))) rfl rfl (fun _ => rfl) (fun _ p1768 _ hx hf hy => OpT.fldRow (q := 0) fl50_1 rfl (hy 0 _ rfl rfl) (by omega)) rfl <| SegO.op1n (res := fun p1768 => .row v1654 50 3 l1653.length (spl xs1655 ((((l1653.length:Int) - 1).toNat) * 3 + 1) [(.int .u8 x1770)])) 0 rfl rfl rfl (fun _ => rfl) (fun _ p1768 _ hx hf hy => OpS.stRowR (k := (((l1653.length:Int) - 1).toNat) * 3 + 1) (vs := [(.int .u8 x1770)]) rfl rfl rfl ti5 rfl rfl (ones_cons rfl (ones_nil)) (hy 0 _ rfl rfl) (by have h1 : _ = _ * 3 := (hq1656.mono hl1698).len; have h2 := idx_bd hx1776; simp only [List.length_cons, List.length_nil]; omega)) <| SegO.done fun H1782 p1768 hl1783 hF1784 => At.sub (L' := [(0, (ptr B0 0)), (2, (ptr B9 0)), (3, v15), (4, v1692), (5, (.map (some B28))), (6, (ptr B34 0)), (7, (.int .i64 (k1275:Int))), (8, (ptr (blkOf (p1299 11)) 0)), (63, v1327), (64, (.int .i64 (x1324.length:Int))), (65, (.int .i64 (k1658:Int)))]) (.cons rfl (.cons rfl (.cons rfl (.cons rfl (.cons rfl (.cons rfl (.cons rfl (.cons rfl (.cons rfl (.cons rfl (.cons rfl (.nil)))))))))))) ?_
      refine At.own (O := .row v1654 50 3 (l1653.set (((l1653.length:Int) - 1).toNat) (x1775.1, x1770, x1775.2.2)).length (spl xs1655 ((((l1653.length:Int) - 1).toNat) * 3 + 1) [(.int .u8 x1770)]) :: .blk (blkOf (p1299 11)) (.cells #[(.bool x1303), v1654] 40 (0, 0)) :: .row v1271 40 2 l1270.length xs1272 :: .blk B34 (.cells #[v1271] 26 (0, 0)) :: mapR (mkI Tryd.underlying3) (meI Tryd.underlying3) B28 m1695 :: .row v1692 3 1 l1691.length xs1693 :: .blk B9 (.cells #[(.slice none 0 0)] 26 (0, 0)) :: .blk B0 (.cells #[v1, v3, v5, v7] 71 (0, 0)) :: O) ?_ (by first | rfl | (simp only [List.length_append, List.length_set]; rfl) | simp)
      have hq1786 : LayL (cP cU8 (cP cU8 cI64)) H1782 (l1653.set (((l1653.length:Int) - 1).toNat) (x1775.1, x1770, x1775.2.2)) (spl xs1655 ((((l1653.length:Int) - 1).toNat) * 3 + 1) [(.int .u8 x1770)]) := (LayL.part (off := 1) (y := (x1775.1, x1770, x1775.2.2)) (cs := [(.int .u8 x1775.1), (.int .u8 x1775.2.1), (.int .i64 x1775.2.2)]) (hq1656.mono (hl1698.trans hl1783)) (idx_some hx1776).2 hc1777_ rfl (Nat.le_of_ble_eq_true rfl) (⟨[(.int .u8 x1775.1)], [(.int .u8 x1770), (.int .i64 x1775.2.2)], rfl, ⟨rfl, (show (0 : Int) ≤ x1775.1 by omega), (show x1775.1 ≤ (255 : Int) by omega)⟩, ⟨[(.int .u8 x1770)], [(.int .i64 x1775.2.2)], rfl, ⟨rfl, (show (0 : Int) ≤ x1770 by omega), (show x1770 ≤ (255 : Int) by omega)⟩, rfl⟩⟩))
      refine At.blk_n <| At.then_n <| Wp.region <| Seg.op (OpT.add rfl rfl (fits64 (by omega))) rfl <| Seg.op (OpT.move rfl) rfl <| Seg.nil ?_
      refine At.nextE (L' := [(0, (ptr B0 0)), (2, (ptr B9 0)), (3, v15), (4, v1692), (5, (.map (some B28))), (6, (ptr B34 0)), (7, (.int .i64 (k1275:Int))), (8, (ptr (blkOf (p1299 11)) 0)), (63, v1327), (64, (.int .i64 (x1324.length:Int))), (65, (.int .i64 ((k1658 + 1 : Nat) : Int)))]) m1661 (Nat.lt_succ_self _) (hl1698.trans hl1783) (.cons rfl (.cons rfl (.cons rfl (.cons rfl (.cons rfl (.cons rfl (.cons rfl (.cons rfl (.cons rfl (.cons rfl (.cons (lk_int rfl (by omega)) (.nil)))))))))))) ⟨l1691, (l1653.set (((l1653.length:Int) - 1).toNat) (x1775.1, x1770, x1775.2.2)), m1695, (k1658 + 1), v1692, xs1693, v1654, spl xs1655 ((((l1653.length:Int) - 1).toNat) * 3 + 1) [(.int .u8 x1770)], rfl, rfl, (by rw [← hn1666]; exact hd), (hq1694.mono hl1783), hq1786⟩
     replace hd := brF hb1748 hd
     replace hb1748 := of_decide_eq_false hb1748
     obtain ⟨x1805, hx1806, hd⟩ := bnd_some hd
     have hx1806_ := idx_bd hx1806
     replace hd := chk_some hd; obtain ⟨ha1808, hd⟩ := hd
     have := ha1808
     obtain ⟨x1809, hx1810, hd⟩ := bnd_some hd
     replace hd := chk_some hd; obtain ⟨ha1813, hd⟩ := hd
     have hr1811 := ha1813.1; have hr1812 := ha1813.2
     replace hd := chk_some hd; obtain ⟨ha1814, hd⟩ := hd
     replace hd := chk_some hd; obtain ⟨ha1815, hd⟩ := hd
     obtain ⟨_, rfl, hc1807⟩ := SlD.get (hv2.mono ((((hl14.trans hl1280).trans hl1309).trans hl1663).trans hl1698)) hx1806
     refine Wp.emp <| SegO.runK 9 [an0, ⟨[2], [], []⟩, an0, an0, an0, ⟨[8], [], []⟩, an0, an0, an0, an0, an0, an0, ⟨[8], [], []⟩, an0, an0, ⟨[5], [], []⟩, an0, ⟨[0], [0], [17]⟩, ⟨[0, 1], [1], [18]⟩, an0, ⟨[2], [2], [18]⟩] follows rfl (by kernel_rfl) <| SegO.op (val := fun p1804 => (ptr (blkOf (p1299 11)) 1)) rfl rfl (fun _ => rfl) (fun _ p1804 _ hx hf hy => OpT.fld (o' := 1) fl40_1 rfl rfl) rfl <| SegO.op (val := fun p1804 => v1654) rfl rfl (fun _ => rfl) (fun _ p1804 _ hx hf hy => OpT.ldBlk (i := 2) (v := v1654) Tryd.underlying38 rfl rfl (hy 2 _ rfl rfl) rfl) rfl <| SegO.op (val := fun p1804 => (ptr B0 0)) rfl rfl (fun _ => rfl) (fun _ p1804 _ hx hf hy => OpT.move rfl) rfl <| SegO.op (val := fun p1804 => (ptr B0 0)) rfl rfl (fun _ => rfl) (fun _ p1804 _ hx hf hy => OpT.nilCheck rfl) rfl <| SegO.op (val := fun p1804 => (ptr B0 0)) rfl rfl (fun _ => rfl) (fun _ p1804 _ hx hf hy => OpT.fld (o' := 0) fl71_0 rfl rfl) rfl <| SegO.op (val := fun p1804 => v1) rfl rfl (fun _ => rfl) (fun _ p1804 _ hx hf hy => OpT.ldBlk (i := 8) (v := v1) Tryd.underlying67 rfl rfl (hy 8 _ rfl rfl) rfl) rfl ?_
     refine SegO.op (val := fun p1804 => (.int .i64 (k1658:Int))) rfl rfl (fun _ => rfl) (fun _ p1804 _ hx hf hy => OpT.move rfl) rfl <| SegO.op (val := fun p1804 => (elemPtr v1 (k1658 * 1))) rfl rfl (fun _ => rfl) (fun _ p1804 _ hx hf hy => OpT.ixSl Tryd.underlying67 ti3 rfl (hv2.mono (((((hl14.trans hl1280).trans hl1309).trans hl1663).trans hl1698).trans hx)).sl rfl (idx_bd hx1806)) rfl <| SegO.op (val := fun p1804 => (.int .i64 x1805)) rfl rfl (fun _ => rfl) (fun _ p1804 _ hx hf hy => OpT.ldH Tryd.underlying3 rfl rfl ((hc1807 0 _ rfl).mono hx)) rfl <| SegO.op (val := fun p1804 => (.int .u8 x1805)) rfl rfl (fun _ => rfl) (fun _ p1804 _ hx hf hy => OpT.conv Tryd.underlying3 Tryd.underlying5 rfl (fitsU8 ha1808)) rfl <| SegO.op (val := fun p1804 => (ptr B0 0)) rfl rfl (fun _ => rfl) (fun _ p1804 _ hx hf hy => OpT.move rfl) rfl <| SegO.op (val := fun p1804 => (.int .i64 (k1658:Int))) rfl rfl (fun _ => rfl) (fun _ p1804 _ hx hf hy => OpT.move rfl) rfl <| SegO.op (val := fun p1804 => (.int .u8 x1809)) rfl rfl (fun _ => rfl) (fun _ p1804 _ hx hf hy => OpT.call ent36 rfl (TriV.at 8 (hy 8 _ rfl rfl) (au_table_end_w (hv2.mono (((((hl14.trans hl1280).trans hl1309).trans hl1663).trans hl1698).trans hx)) (hv4.mono (((((hl14.trans hl1280).trans hl1309).trans hl1663).trans hl1698).trans hx)) (hv6.mono (((((hl14.trans hl1280).trans hl1309).trans hl1663).trans hl1698).trans hx)) (hv8.mono (((((hl14.trans hl1280).trans hl1309).trans hl1663).trans hl1698).trans hx)) hx1810))) rfl <| SegO.op (val := fun p1804 => (.map (some B28))) rfl rfl (fun _ => rfl) (fun _ p1804 _ hx hf hy => OpT.move rfl) rfl ?_
     refine SegO.op (val := fun p1804 => (.int .i64 x1671)) rfl rfl (fun _ => rfl) (fun _ p1804 _ hx hf hy => OpT.move rfl) rfl <| SegO.op (val := fun p1804 => (.int .i64 ((fmGet m1695 x1671).getD 0))) rfl rfl (fun _ => rfl) (fun _ p1804 _ hx hf hy => OpT.lookup (K := (mkI Tryd.underlying3)) (M := (meI Tryd.underlying3)) (i := 5) (k := x1671) (z := 0) Tryd.underlying76 ti3 (show F64 0 by decide) rfl rfl ha1814 (hy 5 _ rfl rfl)) rfl <| SegO.op (val := fun p1804 => (.agg #[(.int .u8 x1805), (.int .u8 x1809), (.int .i64 ((fmGet m1695 x1671).getD 0))])) rfl rfl (fun _ => rfl) (fun _ p1804 _ hx hf hy => OpT.buildS (vs := [(0, (.int .u8 x1805)), (1, (.int .u8 x1809)), (2, (.int .i64 ((fmGet m1695 x1671).getD 0)))]) (cs := #[(.int .u8 x1805), (.int .u8 x1809), (.int .i64 ((fmGet m1695 x1671).getD 0))]) plf50 ti50 rfl rfl (vc_cons rfl (vc_cons rfl (vc_cons rfl (vc_nil)))) rfl) rfl <| SegO.op1s (res := fun p1804 => .row (p1804 17) 50 3 1 [(.int .u8 x1805), (.int .u8 x1809), (.int .i64 ((fmGet m1695 x1671).getD 0))]) 0 rfl rfl rfl (fun _ => rfl) (fun _ p1804 _ hx hf hy => OpS.buildR1 (v := (.agg #[(.int .u8 x1805), (.int .u8 x1809), (.int .i64 ((fmGet m1695 x1671).getD 0))])) (cs := [(.int .u8 x1805), (.int .u8 x1809), (.int .i64 ((fmGet m1695 x1671).getD 0))]) 0 Tryd.underlying38 ti50 rfl rfl rfl rfl rfl (hy 0 _ rfl rfl)) rfl (fun _ => ⟨_, _, _, _, rfl⟩) <| SegO.op1s (res := fun p1804 => .row (p1804 18) 50 3 (l1653.length + 1) (xs1655 ++ [(.int .u8 x1805), (.int .u8 x1809), (.int .i64 ((fmGet m1695 x1671).getD 0))])) 1 rfl rfl rfl (fun _ => rfl) (fun _ p1804 _ hx hf hy => OpS.appR 1 0 Tryd.underlying38 ti50 rfl rfl rfl rfl (hy 1 _ rfl rfl) (hy 0 _ rfl rfl) (ones_cons rfl (ones_cons rfl (ones_cons rfl (ones_nil)))) rfl ha1815) rfl (fun _ => ⟨_, _, _, _, rfl⟩) <| SegO.op (val := fun p1804 => (ptr (blkOf (p1299 11)) 1)) rfl rfl (fun _ => rfl) (fun _ p1804 _ hx hf hy => OpT.fld (o' := 1) fl40_1 rfl rfl) rfl <| SegO.op1n (res := fun p1804 => .blk (blkOf (p1299 11)) (.cells #[(.bool x1303), (p1804 18)] 40 (0, 0))) 2 rfl rfl rfl (fun _ => rfl) (fun _ p1804 _ hx hf hy => OpS.stR (vs := [(p1804 18)]) rfl rfl (cellsL (hf 18 rfl rfl)) ti38 rfl (ones_cons (hf 18 rfl rfl) (ones_nil)) (hy 2 _ rfl rfl) rfl rfl) <| SegO.done fun H1816 p1804 hl1817 hF1818 => ?_
     refine At.sub (L' := [(0, (ptr B0 0)), (2, (ptr B9 0)), (3, v15), (4, v1692), (5, (.map (some B28))), (6, (ptr B34 0)), (7, (.int .i64 (k1275:Int))), (8, (ptr (blkOf (p1299 11)) 0)), (63, v1327), (64, (.int .i64 (x1324.length:Int))), (65, (.int .i64 (k1658:Int)))]) (.cons rfl (.cons rfl (.cons rfl (.cons rfl (.cons rfl (.cons rfl (.cons rfl (.cons rfl (.cons rfl (.cons rfl (.cons rfl (.nil)))))))))))) ?_
     refine At.own (O := .row (p1804 17) 50 3 ([(x1805, x1809, (fmGet m1695 x1671).getD 0)] : List (Int × Int × Int)).length [(.int .u8 x1805), (.int .u8 x1809), (.int .i64 ((fmGet m1695 x1671).getD 0))] :: .row (p1804 18) 50 3 (l1653 ++ ([(x1805, x1809, (fmGet m1695 x1671).getD 0)] : List (Int × Int × Int))).length (xs1655 ++ [(.int .u8 x1805), (.int .u8 x1809), (.int .i64 ((fmGet m1695 x1671).getD 0))]) :: .blk (blkOf (p1299 11)) (.cells #[(.bool x1303), (p1804 18)] 40 (0, 0)) :: .row v1271 40 2 l1270.length xs1272 :: .blk B34 (.cells #[v1271] 26 (0, 0)) :: mapR (mkI Tryd.underlying3) (meI Tryd.underlying3) B28 m1695 :: .row v1692 3 1 l1691.length xs1693 :: .blk B9 (.cells #[(.slice none 0 0)] 26 (0, 0)) :: .blk B0 (.cells #[v1, v3, v5, v7] 71 (0, 0)) :: O) ?_ (by first | rfl | (simp only [List.length_append, List.length_set]; rfl) | simp)
     have hq1820 : LayL (cP cU8 (cP cU8 cI64)) H1816 (l1653 ++ ([(x1805, x1809, (fmGet m1695 x1671).getD 0)] : List (Int × Int × Int))) (xs1655 ++ [(.int .u8 x1805), (.int .u8 x1809), (.int .i64 ((fmGet m1695 x1671).getD 0))]) := (LayL.app (hq1656.mono (hl1698.trans hl1817)) (LayL.sing (c := (cP cU8 (cP cU8 cI64))) (a := (x1805, x1809, (fmGet m1695 x1671).getD 0)) (cs := [(.int .u8 x1805), (.int .u8 x1809), (.int .i64 ((fmGet m1695 x1671).getD 0))]) (⟨[(.int .u8 x1805)], [(.int .u8 x1809), (.int .i64 ((fmGet m1695 x1671).getD 0))], rfl, ⟨rfl, (show (0 : Int) ≤ x1805 by omega), (show x1805 ≤ (255 : Int) by omega)⟩, ⟨[(.int .u8 x1809)], [(.int .i64 ((fmGet m1695 x1671).getD 0))], rfl, ⟨rfl, (show (0 : Int) ≤ x1809 by omega), (show x1809 ≤ (255 : Int) by omega)⟩, rfl⟩⟩)))
     refine At.permK [1, 2, 3, 4, 5, 6, 7, 8] 9 rfl rfl rfl <| At.blk_n <| At.then_n <| Wp.region <| Seg.op (OpT.add rfl rfl (fits64 (by omega))) rfl <| Seg.op (OpT.move rfl) rfl <| Seg.nil ?_
     refine At.nextE (L' := [(0, (ptr B0 0)), (2, (ptr B9 0)), (3, v15), (4, v1692), (5, (.map (some B28))), (6, (ptr B34 0)), (7, (.int .i64 (k1275:Int))), (8, (ptr (blkOf (p1299 11)) 0)), (63, v1327), (64, (.int .i64 (x1324.length:Int))), (65, (.int .i64 ((k1658 + 1 : Nat) : Int)))]) m1661 (Nat.lt_succ_self _) (hl1698.trans hl1817) (.cons rfl (.cons rfl (.cons rfl (.cons rfl (.cons rfl (.cons rfl (.cons rfl (.cons rfl (.cons rfl (.cons rfl (.cons (lk_int rfl (by omega)) (.nil)))))))))))) ⟨l1691, (l1653 ++ ([(x1805, x1809, (fmGet m1695 x1671).getD 0)] : List (Int × Int × Int))), m1695, (k1658 + 1), v1692, xs1693, (p1804 18), xs1655 ++ [(.int .u8 x1805), (.int .u8 x1809), (.int .i64 ((fmGet m1695 x1671).getD 0))], rfl, rfl, (by rw [← hn1666]; exact hd), (hq1694.mono hl1817), hq1820⟩
    replace hd := brF hg1735 hd
    have hg1735_ := of_decide_eq_false hg1735
    obtain ⟨_, ⟨_, _, rfl, ⟨rfl, hr1730, hr1731⟩, ⟨_, _, rfl, ⟨rfl, hr1732, hr1733⟩, rfl⟩⟩, hc1729, hc1729_⟩ := LayL.get (hq1656.mono hl1698) (idx_some hx1728).2
    refine Wp.drawE 34 follows rfl (by kernel_rfl) <| SegL.opE (OpT.move rfl) rfl <| SegL.opE (OpT.asB (b := decide (0 < (l1653.length:Int))) (c := true) (OpT.gtr rfl rfl) hg1725) rfl <| SegL.opE (OpT.move rfl) rfl <| SegL.opGE rfl rfl (OpT.fld (o' := 1) fl40_1 rfl rfl) rfl <| SegL.opGE rfl rfl (OpT.ldBlk (i := 1) (v := v1654) Tryd.underlying38 rfl rfl rfl rfl) rfl <| SegL.opGE rfl rfl (OpT.move rfl) rfl <| SegL.opGE rfl rfl (OpT.sub rfl rfl (fits64 ha1726)) rfl ?_
    refine SegL.opGE rfl rfl (OpT.ixRow (j := 0) Tryd.underlying38 ti50 rfl rfl rfl (idx_bd hx1728)) rfl <| SegL.opGE rfl rfl (OpT.fldRow (q := 0) fl50_2 rfl rfl (by omega)) rfl <| SegL.opGE rfl rfl (OpT.ldRow (i := 0) (k := (((l1653.length:Int) - 1).toNat) * 3 + 2) Tryd.underlying3 rfl rfl rfl (hc1729 2 _ rfl)) rfl <| SegL.opGE rfl rfl (OpT.move rfl) rfl <| SegL.opGE rfl rfl (OpT.move rfl) rfl <| SegL.opGE rfl rfl (OpT.lookup (K := (mkI Tryd.underlying3)) (M := (meI Tryd.underlying3)) (i := 4) (k := x1671) (z := 0) Tryd.underlying76 ti3 (show F64 0 by decide) rfl rfl ha1734 rfl) rfl <| SegL.opGE rfl rfl (OpT.asB (b := decide (x1727.2.2 = ((fmGet m1695 x1671).getD 0))) (c := false) (OpT.eql rfl rfl) hg1735) rfl <| SegL.opE (OpT.pickT rfl rfl) rfl ?_
    refine SegL.opE (OpT.move rfl) rfl <| SegL.skipGE rfl rfl rfl rfl <| SegL.skipGE rfl rfl rfl rfl <| SegL.skipGE rfl rfl rfl rfl <| SegL.skipGE rfl rfl rfl rfl <| SegL.skipGE rfl rfl rfl rfl <| SegL.skipGE rfl rfl rfl rfl <| SegL.skipGE rfl rfl rfl rfl ?_
    refine SegL.skipGE rfl rfl rfl rfl <| SegL.skipGE rfl rfl rfl rfl <| SegL.skipGE rfl rfl rfl rfl <| SegL.skipGE rfl rfl rfl rfl <| SegL.skipGE rfl rfl rfl rfl <| SegL.skipGE rfl rfl rfl rfl <| SegL.skipGE rfl rfl rfl rfl <| SegL.skipGE rfl rfl rfl rfl ?_
    refine SegL.skipGE rfl rfl rfl rfl <| SegL.skipGE rfl rfl rfl rfl <| SegL.opE (OpT.pickF rfl rfl) rfl <| SegL.doneE <| EndL.is (t := 0) rfl <| EndL.is (t := 2) rfl <| EndL.is (t := 3) rfl <| EndL.is (t := 4) rfl ?_
    refine EndL.is (t := 5) rfl <| EndL.is (t := 6) rfl <| EndL.is (t := 7) rfl <| EndL.is (t := 8) rfl <| EndL.is (t := 9) rfl <| EndL.is (t := 11) rfl <| EndL.is (t := 14) rfl <| EndL.is (t := 63) rfl ?_
    refine EndL.is (t := 64) rfl <| EndL.is (t := 65) rfl <| EndL.is (t := 134) rfl <| EndL.seg <| Seg.nilT <| Wp.condF rfl ?_
    obtain ⟨x1839, hx1840, hd⟩ := bnd_some hd
    have hx1840_ := idx_bd hx1840
    replace hd := chk_some hd; obtain ⟨ha1842, hd⟩ := hd
    have := ha1842
    obtain ⟨x1843, hx1844, hd⟩ := bnd_some hd
    replace hd := chk_some hd; obtain ⟨ha1847, hd⟩ := hd
    have hr1845 := ha1847.1; have hr1846 := ha1847.2
    replace hd := chk_some hd; obtain ⟨ha1848, hd⟩ := hd
    replace hd := chk_some hd; obtain ⟨ha1849, hd⟩ := hd
    obtain ⟨_, rfl, hc1841⟩ := SlD.get (hv2.mono ((((hl14.trans hl1280).trans hl1309).trans hl1663).trans hl1698)) hx1840
    refine Wp.emp <| SegO.runK 9 [an0, ⟨[2], [], []⟩, an0, an0, an0, ⟨[8], [], []⟩, an0, an0, an0, an0, an0, an0, ⟨[8], [], []⟩, an0, an0, ⟨[5], [], []⟩, an0, ⟨[0], [0], [17]⟩, ⟨[0, 1], [1], [18]⟩, an0, ⟨[2], [2], [18]⟩] follows rfl (by kernel_rfl) <| SegO.op (val := fun p1838 => (ptr (blkOf (p1299 11)) 1)) rfl rfl (fun _ => rfl) (fun _ p1838 _ hx hf hy => OpT.fld (o' := 1) fl40_1 rfl rfl) rfl <| SegO.op (val := fun p1838 => v1654) rfl rfl (fun _ => rfl) (fun _ p1838 _ hx hf hy => OpT.ldBlk (i := 2) (v := v1654) Tryd.underlying38 rfl rfl (hy 2 _ rfl rfl) rfl) rfl <| SegO.op (val := fun p1838 => (ptr B0 0)) rfl rfl (fun _ => rfl) (fun _ p1838 _ hx hf hy => OpT.move rfl) rfl <| SegO.op (val := fun p1838 => (ptr B0 0)) rfl rfl (fun _ => rfl) (fun _ p1838 _ hx hf hy => OpT.nilCheck rfl) rfl <| SegO.op (val := fun p1838 => (ptr B0 0)) rfl rfl (fun _ => rfl) (fun _ p1838 _ hx hf hy => OpT.fld (o' := 0) fl71_0 rfl rfl) rfl <| SegO.op (val := fun p1838 => v1) rfl rfl (fun _ => rfl) (fun _ p1838 _ hx hf hy => OpT.ldBlk (i := 8) (v := v1) Tryd.underlying67 rfl rfl (hy 8 _ rfl rfl) rfl) rfl ?_
    refine SegO.op (val := fun p1838 => (.int .i64 (k1658:Int))) rfl rfl (fun _ => rfl) (fun _ p1838 _ hx hf hy => OpT.move rfl) rfl <| SegO.op (val := fun p1838 => (elemPtr v1 (k1658 * 1))) rfl rfl (fun _ => rfl) (fun _ p1838 _ hx hf hy => OpT.ixSl Tryd.underlying67 ti3 rfl (hv2.mono (((((hl14.trans hl1280).trans hl1309).trans hl1663).trans hl1698).trans hx)).sl rfl (idx_bd hx1840)) rfl <| SegO.op (val := fun p1838 => (.int .i64 x1839)) rfl rfl (fun _ => rfl) (fun _ p1838 _ hx hf hy => OpT.ldH Tryd.underlying3 rfl rfl ((hc1841 0 _ rfl).mono hx)) rfl <| SegO.op (val := fun p1838 => (.int .u8 x1839)) rfl rfl (fun _ => rfl) (fun _ p1838 _ hx hf hy => OpT.conv Tryd.underlying3 Tryd.underlying5 rfl (fitsU8 ha1842)) rfl <| SegO.op (val := fun p1838 => (ptr B0 0)) rfl rfl (fun _ => rfl) (fun _ p1838 _ hx hf hy => OpT.move rfl) rfl <| SegO.op (val := fun p1838 => (.int .i64 (k1658:Int))) rfl rfl (fun _ => rfl) (fun _ p1838 _ hx hf hy => OpT.move rfl) rfl <| SegO.op (val := fun p1838 => (.int .u8 x1843)) rfl rfl (fun _ => rfl) (fun _ p1838 _ hx hf hy => OpT.call ent36 rfl (TriV.at 8 (hy 8 _ rfl rfl) (au_table_end_w (hv2.mono (((((hl14.trans hl1280).trans hl1309).trans hl1663).trans hl1698).trans hx)) (hv4.mono (((((hl14.trans hl1280).trans hl1309).trans hl1663).trans hl1698).trans hx)) (hv6.mono (((((hl14.trans hl1280).trans hl1309).trans hl1663).trans hl1698).trans hx)) (hv8.mono (((((hl14.trans hl1280).trans hl1309).trans hl1663).trans hl1698).trans hx)) hx1844))) rfl <| SegO.op (val := fun p1838 => (.map (some B28))) rfl rfl (fun _ => rfl) (fun _ p1838 _ hx hf hy => OpT.move rfl) rfl ?_
    refine SegO.op (val := fun p1838 => (.int .i64 x1671)) rfl rfl (fun _ => rfl) (fun _ p1838 _ hx hf hy => OpT.move rfl) rfl <| SegO.op (val := fun p1838 => (.int .i64 ((fmGet m1695 x1671).getD 0))) rfl rfl (fun _ => rfl) (fun _ p1838 _ hx hf hy => OpT.lookup (K := (mkI Tryd.underlying3)) (M := (meI Tryd.underlying3)) (i := 5) (k := x1671) (z := 0) Tryd.underlying76 ti3 (show F64 0 by decide) rfl rfl ha1848 (hy 5 _ rfl rfl)) rfl <| SegO.op (val := fun p1838 => (.agg #[(.int .u8 x1839), (.int .u8 x1843), (.int .i64 ((fmGet m1695 x1671).getD 0))])) rfl rfl (fun _ => rfl) (fun _ p1838 _ hx hf hy => OpT.buildS (vs := [(0, (.int .u8 x1839)), (1, (.int .u8 x1843)), (2, (.int .i64 ((fmGet m1695 x1671).getD 0)))]) (cs := #[(.int .u8 x1839), (.int .u8 x1843), (.int .i64 ((fmGet m1695 x1671).getD 0))]) plf50 ti50 rfl rfl (vc_cons rfl (vc_cons rfl (vc_cons rfl (vc_nil)))) rfl) rfl <| SegO.op1s (res := fun p1838 => .row (p1838 17) 50 3 1 [(.int .u8 x1839), (.int .u8 x1843), (.int .i64 ((fmGet m1695 x1671).getD 0))]) 0 rfl rfl rfl (fun _ => rfl) (fun _ p1838 _ hx hf hy => OpS.buildR1 (v := (.agg #[(.int .u8 x1839), (.int .u8 x1843), (.int .i64 ((fmGet m1695 x1671).getD 0))])) (cs := [(.int .u8 x1839), (.int .u8 x1843), (.int .i64 ((fmGet m1695 x1671).getD 0))]) 0 Tryd.underlying38 ti50 rfl rfl rfl rfl rfl (hy 0 _ rfl rfl)) rfl (fun _ => ⟨_, _, _, _, rfl⟩) <| SegO.op1s (res := fun p1838 => .row (p1838 18) 50 3 (l1653.length + 1) (xs1655 ++ [(.int .u8 x1839), (.int .u8 x1843), (.int .i64 ((fmGet m1695 x1671).getD 0))])) 1 rfl rfl rfl (fun _ => rfl) (fun _ p1838 _ hx hf hy => OpS.appR 1 0 Tryd.underlying38 ti50 rfl rfl rfl rfl (hy 1 _ rfl rfl) (hy 0 _ rfl rfl) (ones_cons rfl (ones_cons rfl (ones_cons rfl (ones_nil)))) rfl ha1849) rfl (fun _ => ⟨_, _, _, _, rfl⟩) <| SegO.op (val := fun p1838 => (ptr (blkOf (p1299 11)) 1)) rfl rfl (fun _ => rfl) (fun _ p1838 _ hx hf hy => OpT.fld (o' := 1) fl40_1 rfl rfl) rfl <| SegO.op1n (res := fun p1838 => .blk (blkOf (p1299 11)) (.cells #[(.bool x1303), (p1838 18)] 40 (0, 0))) 2 rfl rfl rfl (fun _ => rfl) (fun _ p1838 _ hx hf hy => OpS.stR (vs := [(p1838 18)]) rfl rfl (cellsL (hf 18 rfl rfl)) ti38 rfl (ones_cons (hf 18 rfl rfl) (ones_nil)) (hy 2 _ rfl rfl) rfl rfl) <| SegO.done fun H1850 p1838 hl1851 hF1852 => ?_
    refine At.sub (L' := [(0, (ptr B0 0)), (2, (ptr B9 0)), (3, v15), (4, v1692), (5, (.map (some B28))), (6, (ptr B34 0)), (7, (.int .i64 (k1275:Int))), (8, (ptr (blkOf (p1299 11)) 0)), (63, v1327), (64, (.int .i64 (x1324.length:Int))), (65, (.int .i64 (k1658:Int)))]) (.cons rfl (.cons rfl (.cons rfl (.cons rfl (.cons rfl (.cons rfl (.cons rfl (.cons rfl (.cons rfl (.cons rfl (.cons rfl (.nil)))))))))))) ?_
    refine At.own (O := .row (p1838 17) 50 3 ([(x1839, x1843, (fmGet m1695 x1671).getD 0)] : List (Int × Int × Int)).length [(.int .u8 x1839), (.int .u8 x1843), (.int .i64 ((fmGet m1695 x1671).getD 0))] :: .row (p1838 18) 50 3 (l1653 ++ ([(x1839, x1843, (fmGet m1695 x1671).getD 0)] : List (Int × Int × Int))).length (xs1655 ++ [(.int .u8 x1839), (.int .u8 x1843), (.int .i64 ((fmGet m1695 x1671).getD 0))]) :: .blk (blkOf (p1299 11)) (.cells #[(.bool x1303), (p1838 18)] 40 (0, 0)) :: .row v1271 40 2 l1270.length xs1272 :: .blk B34 (.cells #[v1271] 26 (0, 0)) :: mapR (mkI Tryd.underlying3) (meI Tryd.underlying3) B28 m1695 :: .row v1692 3 1 l1691.length xs1693 :: .blk B9 (.cells #[(.slice none 0 0)] 26 (0, 0)) :: .blk B0 (.cells #[v1, v3, v5, v7] 71 (0, 0)) :: O) ?_ (by first | rfl | (simp only [List.length_append, List.length_set]; rfl) | simp)
    have hq1854 : LayL (cP cU8 (cP cU8 cI64)) H1850 (l1653 ++ ([(x1839, x1843, (fmGet m1695 x1671).getD 0)] : List (Int × Int × Int))) (xs1655 ++ [(.int .u8 x1839), (.int .u8 x1843), (.int .i64 ((fmGet m1695 x1671).getD 0))]) := (LayL.app (hq1656.mono (hl1698.trans hl1851)) (LayL.sing (c := (cP cU8 (cP cU8 cI64))) (a := (x1839, x1843, (fmGet m1695 x1671).getD 0)) (cs := [(.int .u8 x1839), (.int .u8 x1843), (.int .i64 ((fmGet m1695 x1671).getD 0))]) (⟨[(.int .u8 x1839)], [(.int .u8 x1843), (.int .i64 ((fmGet m1695 x1671).getD 0))], rfl, ⟨rfl, (show (0 : Int) ≤ x1839 by omega), (show x1839 ≤ (255 : Int) by omega)⟩, ⟨[(.int .u8 x1843)], [(.int .i64 ((fmGet m1695 x1671).getD 0))], rfl, ⟨rfl, (show (0 : Int) ≤ x1843 by omega), (show x1843 ≤ (255 : Int) by omega)⟩, rfl⟩⟩)))
    refine At.permK [1, 2, 3, 4, 5, 6, 7, 8] 9 rfl rfl rfl <| At.blk_n <| At.then_n <| Wp.region <| Seg.op (OpT.add rfl rfl (fits64 (by omega))) rfl <| Seg.op (OpT.move rfl) rfl <| Seg.nil ?_
    refine At.nextE (L' := [(0, (ptr B0 0)), (2, (ptr B9 0)), (3, v15), (4, v1692), (5, (.map (some B28))), (6, (ptr B34 0)), (7, (.int .i64 (k1275:Int))), (8, (ptr (blkOf (p1299 11)) 0)), (63, v1327), (64, (.int .i64 (x1324.length:Int))), (65, (.int .i64 ((k1658 + 1 : Nat) : Int)))]) m1661 (Nat.lt_succ_self _) (hl1698.trans hl1851) (.cons rfl (.cons rfl (.cons rfl (.cons rfl (.cons rfl (.cons rfl (.cons rfl (.cons rfl (.cons rfl (.cons rfl (.cons (lk_int rfl (by omega)) (.nil)))))))))))) ⟨l1691, (l1653 ++ ([(x1839, x1843, (fmGet m1695 x1671).getD 0)] : List (Int × Int × Int))), m1695, (k1658 + 1), v1692, xs1693, (p1838 18), xs1655 ++ [(.int .u8 x1839), (.int .u8 x1843), (.int .i64 ((fmGet m1695 x1671).getD 0))], rfl, rfl, (by rw [← hn1666]; exact hd), (hq1694.mono hl1851), hq1854⟩
   replace hd := brF hg1725 hd
   have hg1725_ := of_decide_eq_false hg1725
   refine Wp.drawE 34 follows rfl (by kernel_rfl) <| SegL.opE (OpT.move rfl) rfl <| SegL.opE (OpT.asB (b := decide (0 < (l1653.length:Int))) (c := false) (OpT.gtr rfl rfl) hg1725) rfl <| SegL.opE (OpT.move rfl) rfl <| SegL.skipGE rfl rfl rfl rfl <| SegL.skipGE rfl rfl rfl rfl <| SegL.skipGE rfl rfl rfl rfl <| SegL.skipGE rfl rfl rfl rfl ?_
   refine SegL.skipGE rfl rfl rfl rfl <| SegL.skipGE rfl rfl rfl rfl <| SegL.skipGE rfl rfl rfl rfl <| SegL.skipGE rfl rfl rfl rfl <| SegL.skipGE rfl rfl rfl rfl <| SegL.skipGE rfl rfl rfl rfl <| SegL.skipGE rfl rfl rfl rfl <| SegL.opE (OpT.pickF rfl rfl) rfl ?_
   refine SegL.opE (OpT.move rfl) rfl <| SegL.skipGE rfl rfl rfl rfl <| SegL.skipGE rfl rfl rfl rfl <| SegL.skipGE rfl rfl rfl rfl <| SegL.skipGE rfl rfl rfl rfl <| SegL.skipGE rfl rfl rfl rfl <| SegL.skipGE rfl rfl rfl rfl <| SegL.skipGE rfl rfl rfl rfl ?_
   refine SegL.skipGE rfl rfl rfl rfl <| SegL.skipGE rfl rfl rfl rfl <| SegL.skipGE rfl rfl rfl rfl <| SegL.skipGE rfl rfl rfl rfl <| SegL.skipGE rfl rfl rfl rfl <| SegL.skipGE rfl rfl rfl rfl <| SegL.skipGE rfl rfl rfl rfl <| SegL.skipGE rfl rfl rfl rfl ?_
   refine SegL.skipGE rfl rfl rfl rfl <| SegL.skipGE rfl rfl rfl rfl <| SegL.opE (OpT.pickF rfl rfl) rfl <| SegL.doneE <| EndL.is (t := 0) rfl <| EndL.is (t := 2) rfl <| EndL.is (t := 3) rfl <| EndL.is (t := 4) rfl ?_
   refine EndL.is (t := 5) rfl <| EndL.is (t := 6) rfl <| EndL.is (t := 7) rfl <| EndL.is (t := 8) rfl <| EndL.is (t := 9) rfl <| EndL.is (t := 11) rfl <| EndL.is (t := 14) rfl <| EndL.is (t := 63) rfl ?_
   refine EndL.is (t := 64) rfl <| EndL.is (t := 65) rfl <| EndL.is (t := 134) rfl <| EndL.seg <| Seg.nilT <| Wp.condF rfl ?_
   obtain ⟨x1873, hx1874, hd⟩ := bnd_some hd
   have hx1874_ := idx_bd hx1874
   replace hd := chk_some hd; obtain ⟨ha1876, hd⟩ := hd
   have := ha1876
   obtain ⟨x1877, hx1878, hd⟩ := bnd_some hd
   replace hd := chk_some hd; obtain ⟨ha1881, hd⟩ := hd
   have hr1879 := ha1881.1; have hr1880 := ha1881.2
   replace hd := chk_some hd; obtain ⟨ha1882, hd⟩ := hd
   replace hd := chk_some hd; obtain ⟨ha1883, hd⟩ := hd
   obtain ⟨_, rfl, hc1875⟩ := SlD.get (hv2.mono ((((hl14.trans hl1280).trans hl1309).trans hl1663).trans hl1698)) hx1874
   refine Wp.emp <| SegO.runK 9 [an0, ⟨[2], [], []⟩, an0, an0, an0, ⟨[8], [], []⟩, an0, an0, an0, an0, an0, an0, ⟨[8], [], []⟩, an0, an0, ⟨[5], [], []⟩, an0, ⟨[0], [0], [17]⟩, ⟨[0, 1], [1], [18]⟩, an0, ⟨[2], [2], [18]⟩] follows rfl (by kernel_rfl) <| SegO.op (val := fun p1872 => (ptr (blkOf (p1299 11)) 1)) rfl rfl (fun _ => rfl) (fun _ p1872 _ hx hf hy => OpT.fld (o' := 1) fl40_1 rfl rfl) rfl <| SegO.op (val := fun p1872 => v1654) rfl rfl (fun _ => rfl) (fun _ p1872 _ hx hf hy => OpT.ldBlk (i := 2) (v := v1654) Tryd.underlying38 rfl rfl (hy 2 _ rfl rfl) rfl) rfl <| SegO.op (val := fun p1872 => (ptr B0 0)) rfl rfl (fun _ => rfl) (fun _ p1872 _ hx hf hy => OpT.move rfl) rfl <| SegO.op (val := fun p1872 => (ptr B0 0)) rfl rfl (fun _ => rfl) (fun _ p1872 _ hx hf hy => OpT.nilCheck rfl) rfl <| SegO.op (val := fun p1872 => (ptr B0 0)) rfl rfl (fun _ => rfl) (fun _ p1872 _ hx hf hy => OpT.fld (o' := 0) fl71_0 rfl rfl) rfl <| SegO.op (val := fun p1872 => v1) rfl rfl (fun _ => rfl) (fun _ p1872 _ hx hf hy => OpT.ldBlk (i := 8) (v := v1) Tryd.underlying67 rfl rfl (hy 8 _ rfl rfl) rfl) rfl ?_
   refine SegO.op (val := fun p1872 => (.int .i64 (k1658:Int))) rfl rfl (fun _ => rfl) (fun _ p1872 _ hx hf hy => OpT.move rfl) rfl <| SegO.op (val := fun p1872 => (elemPtr v1 (k1658 * 1))) rfl rfl (fun _ => rfl) (fun _ p1872 _ hx hf hy => OpT.ixSl Tryd.underlying67 ti3 rfl (hv2.mono (((((hl14.trans hl1280).trans hl1309).trans hl1663).trans hl1698).trans hx)).sl rfl (idx_bd hx1874)) rfl <| SegO.op (val := fun p1872 => (.int .i64 x1873)) rfl rfl (fun _ => rfl) (fun _ p1872 _ hx hf hy => OpT.ldH Tryd.underlying3 rfl rfl ((hc1875 0 _ rfl).mono hx)) rfl <| SegO.op (val := fun p1872 => (.int .u8 x1873)) rfl rfl (fun _ => rfl) (fun _ p1872 _ hx hf hy => OpT.conv Tryd.underlying3 Tryd.underlying5 rfl (fitsU8 ha1876)) rfl <| SegO.op (val := fun p1872 => (ptr B0 0)) rfl rfl (fun _ => rfl) (fun _ p1872 _ hx hf hy => OpT.move rfl) rfl <| SegO.op (val := fun p1872 => (.int .i64 (k1658:Int))) rfl rfl (fun _ => rfl) (fun _ p1872 _ hx hf hy => OpT.move rfl) rfl <| SegO.op (val := fun p1872 => (.int .u8 x1877)) rfl rfl (fun _ => rfl) (fun _ p1872 _ hx hf hy => OpT.call ent36 rfl (TriV.at 8 (hy 8 _ rfl rfl) (au_table_end_w (hv2.mono (((((hl14.trans hl1280).trans hl1309).trans hl1663).trans hl1698).trans hx)) (hv4.mono (((((hl14.trans hl1280).trans hl1309).trans hl1663).trans hl1698).trans hx)) (hv6.mono (((((hl14.trans hl1280).trans hl1309).trans hl1663).trans hl1698).trans hx)) (hv8.mono (((((hl14.trans hl1280).trans hl1309).trans hl1663).trans hl1698).trans hx)) hx1878))) rfl <| SegO.op (val := fun p1872 => (.map (some B28))) rfl rfl (fun _ => rfl) (fun _ p1872 _ hx hf hy => OpT.move rfl) rfl ?_
   refine SegO.op (val := fun p1872 => (.int .i64 x1671)) rfl rfl (fun _ => rfl) (fun _ p1872 _ hx hf hy => OpT.move rfl) rfl <| SegO.op (val := fun p1872 => (.int .i64 ((fmGet m1695 x1671).getD 0))) rfl rfl (fun _ => rfl) (fun _ p1872 _ hx hf hy => OpT.lookup (K := (mkI Tryd.underlying3)) (M := (meI Tryd.underlying3)) (i := 5) (k := x1671) (z := 0) Tryd.underlying76 ti3 (show F64 0 by decide) rfl rfl ha1882 (hy 5 _ rfl rfl)) rfl <| SegO.op (val := fun p1872 => (.agg #[(.int .u8 x1873), (.int .u8 x1877), (.int .i64 ((fmGet m1695 x1671).getD 0))])) rfl rfl (fun _ => rfl) (fun _ p1872 _ hx hf hy => OpT.buildS (vs := [(0, (.int .u8 x1873)), (1, (.int .u8 x1877)), (2, (.int .i64 ((fmGet m1695 x1671).getD 0)))]) (cs := #[(.int .u8 x1873), (.int .u8 x1877), (.int .i64 ((fmGet m1695 x1671).getD 0))]) plf50 ti50 rfl rfl (vc_cons rfl (vc_cons rfl (vc_cons rfl (vc_nil)))) rfl) rfl <| SegO.op1s (res := fun p1872 => .row (p1872 17) 50 3 1 [(.int .u8 x1873), (.int .u8 x1877), (.int .i64 ((fmGet m1695 x1671).getD 0))]) 0 rfl rfl rfl (fun _ => rfl) (fun _ p1872 _ hx hf hy => OpS.buildR1 (v := (.agg #[(.int .u8 x1873), (.int .u8 x1877), (.int .i64 ((fmGet m1695 x1671).getD 0))])) (cs := [(.int .u8 x1873), (.int .u8 x1877), (.int .i64 ((fmGet m1695 x1671).getD 0))]) 0 Tryd.underlying38 ti50 rfl rfl rfl rfl rfl (hy 0 _ rfl rfl)) rfl (fun _ => ⟨_, _, _, _, rfl⟩) <| SegO.op1s (res := fun p1872 => .row (p1872 18) 50 3 (l1653.length + 1) (xs1655 ++ [(.int .u8 x1873), (.int .u8 x1877), (.int .i64 ((fmGet m1695 x1671).getD 0))])) 1 rfl rfl rfl (fun _ => rfl) (fun _ p1872 _ hx hf hy => OpS.appR 1 0 Tryd.underlying38 ti50 rfl rfl rfl rfl (hy 1 _ rfl rfl) (hy 0 _ rfl rfl) (ones_cons rfl (ones_cons rfl (ones_cons rfl (ones_nil)))) rfl ha1883) rfl (fun _ => ⟨_, _, _, _, rfl⟩) <| SegO.op (val := fun p1872 => (ptr (blkOf (p1299 11)) 1)) rfl rfl (fun _ => rfl) (fun _ p1872 _ hx hf hy => OpT.fld (o' := 1) fl40_1 rfl rfl) rfl <| SegO.op1n (res := fun p1872 => .blk (blkOf (p1299 11)) (.cells #[(.bool x1303), (p1872 18)] 40 (0, 0))) 2 rfl rfl rfl (fun _ => rfl) (fun _ p1872 _ hx hf hy => OpS.stR (vs := [(p1872 18)]) rfl rfl (cellsL (hf 18 rfl rfl)) ti38 rfl (ones_cons (hf 18 rfl rfl) (ones_nil)) (hy 2 _ rfl rfl) rfl rfl) <| SegO.done fun H1884 p1872 hl1885 hF1886 => ?_
   refine At.sub (L' := [(0, (ptr B0 0)), (2, (ptr B9 0)), (3, v15), (4, v1692), (5, (.map (some B28))), (6, (ptr B34 0)), (7, (.int .i64 (k1275:Int))), (8, (ptr (blkOf (p1299 11)) 0)), (63, v1327), (64, (.int .i64 (x1324.length:Int))), (65, (.int .i64 (k1658:Int)))]) (.cons rfl (.cons rfl (.cons rfl (.cons rfl (.cons rfl (.cons rfl (.cons rfl (.cons rfl (.cons rfl (.cons rfl (.cons rfl (.nil)))))))))))) ?_
   refine At.own (O := .row (p1872 17) 50 3 ([(x1873, x1877, (fmGet m1695 x1671).getD 0)] : List (Int × Int × Int)).length [(.int .u8 x1873), (.int .u8 x1877), (.int .i64 ((fmGet m1695 x1671).getD 0))] :: .row (p1872 18) 50 3 (l1653 ++ ([(x1873, x1877, (fmGet m1695 x1671).getD 0)] : List (Int × Int × Int))).length (xs1655 ++ [(.int .u8 x1873), (.int .u8 x1877), (.int .i64 ((fmGet m1695 x1671).getD 0))]) :: .blk (blkOf (p1299 11)) (.cells #[(.bool x1303), (p1872 18)] 40 (0, 0)) :: .row v1271 40 2 l1270.length xs1272 :: .blk B34 (.cells #[v1271] 26 (0, 0)) :: mapR (mkI Tryd.underlying3) (meI Tryd.underlying3) B28 m1695 :: .row v1692 3 1 l1691.length xs1693 :: .blk B9 (.cells #[(.slice none 0 0)] 26 (0, 0)) :: .blk B0 (.cells #[v1, v3, v5, v7] 71 (0, 0)) :: O) ?_ (by first | rfl | (simp only [List.length_append, List.length_set]; rfl) | simp)
   have hq1888 : LayL (cP cU8 (cP cU8 cI64)) H1884 (l1653 ++ ([(x1873, x1877, (fmGet m1695 x1671).getD 0)] : List (Int × Int × Int))) (xs1655 ++ [(.int .u8 x1873), (.int .u8 x1877), (.int .i64 ((fmGet m1695 x1671).getD 0))]) := (LayL.app (hq1656.mono (hl1698.trans hl1885)) (LayL.sing (c := (cP cU8 (cP cU8 cI64))) (a := (x1873, x1877, (fmGet m1695 x1671).getD 0)) (cs := [(.int .u8 x1873), (.int .u8 x1877), (.int .i64 ((fmGet m1695 x1671).getD 0))]) (⟨[(.int .u8 x1873)], [(.int .u8 x1877), (.int .i64 ((fmGet m1695 x1671).getD 0))], rfl, ⟨rfl, (show (0 : Int) ≤ x1873 by omega), (show x1873 ≤ (255 : Int) by omega)⟩, ⟨[(.int .u8 x1877)], [(.int .i64 ((fmGet m1695 x1671).getD 0))], rfl, ⟨rfl, (show (0 : Int) ≤ x1877 by omega), (show x1877 ≤ (255 : Int) by omega)⟩, rfl⟩⟩)))
   refine At.permK [1, 2, 3, 4, 5, 6, 7, 8] 9 rfl rfl rfl <| At.blk_n <| At.then_n <| Wp.region <| Seg.op (OpT.add rfl rfl (fits64 (by omega))) rfl <| Seg.op (OpT.move rfl) rfl <| Seg.nil ?_
   refine At.nextE (L' := [(0, (ptr B0 0)), (2, (ptr B9 0)), (3, v15), (4, v1692), (5, (.map (some B28))), (6, (ptr B34 0)), (7, (.int .i64 (k1275:Int))), (8, (ptr (blkOf (p1299 11)) 0)), (63, v1327), (64, (.int .i64 (x1324.length:Int))), (65, (.int .i64 ((k1658 + 1 : Nat) : Int)))]) m1661 (Nat.lt_succ_self _) (hl1698.trans hl1885) (.cons rfl (.cons rfl (.cons rfl (.cons rfl (.cons rfl (.cons rfl (.cons rfl (.cons rfl (.cons rfl (.cons rfl (.cons (lk_int rfl (by omega)) (.nil)))))))))))) ⟨l1691, (l1653 ++ ([(x1873, x1877, (fmGet m1695 x1671).getD 0)] : List (Int × Int × Int))), m1695, (k1658 + 1), v1692, xs1693, (p1872 18), xs1655 ++ [(.int .u8 x1873), (.int .u8 x1877), (.int .i64 ((fmGet m1695 x1671).getD 0))], rfl, rfl, (by rw [← hn1666]; exact hd), (hq1694.mono hl1885), hq1888⟩
  replace hd := brF hb1667 hd
  replace hb1667 := of_decide_eq_false hb1667
  refine Wp.exit <| At.then_x <| At.then_x <| At.blk_hit <| At.then_n ?_
  replace hd := chk_some hd; obtain ⟨ha1909, hd⟩ := hd
  refine Wp.region <| Seg.op (OpT.fld (o' := 0) fl26_0 rfl rfl) rfl <| Seg.op (OpT.ldBlk (i := 3) (v := v1271) Tryd.underlying22 rfl rfl rfl rfl) rfl <| Seg.op (OpT.ldBlkW (i := 1) Tryd.underlying40 rfl ti40 rfl rfl rfl) rfl ?_
  refine Seg.rowLe (i := 0) rfl fun hb1904 => ?_
  refine Seg.freeze (i := 0) rfl fun H1905 hl1906 hs1907 => ?_
  have hv1908 := SlD.of (c := (cP cU8 (cP cU8 cI64))) hs1907 rfl (hq1656.mono hl1906) hb1904
  refine Seg.buildD1 (c := (cP cB (cL (cP cU8 (cP cU8 cI64))))) (y := (x1303, l1653)) (cs := [(.bool x1303), v1654]) Tryd.underlying22 ti40 rfl rfl rfl rfl (⟨[(.bool x1303)], [v1654], rfl, rfl, ⟨_, rfl, hv1908⟩⟩) rfl fun v1901 xs1902 hq1903 => Seg.appD (i := 2) (j := 0) (hq1273.mono ((hl1309.trans hl1663).trans hl1906)) hq1903 Tryd.underlying22 ti40 rfl (by decide) rfl rfl rfl rfl (by decide) ha1909 rfl fun v1910 xs1911 hq1912 => Seg.drop (i := 0) <| Seg.op (OpT.fld (o' := 0) fl26_0 rfl rfl) rfl <| Seg.rowOne (i := 1) rfl fun ho1913 => Seg.stBlk1 (i := 2) rfl rfl ho1913 ti22 rfl (Nat.le_of_ble_eq_true rfl) ?_
  refine Seg.own (O := .blk (blkOf (p1299 11)) (.cells #[(.bool x1303), v1654] 40 (0, 0)) :: .row v1910 40 2 (l1270 ++ ([(x1303, l1653)] : List (Bool × (List (Int × Int × Int))))).length xs1911 :: .blk B34 (.cells #[v1910] 26 (0, 0)) :: mapR (mkI Tryd.underlying3) (meI Tryd.underlying3) B28 m1657 :: .row v1650 3 1 l1649.length xs1651 :: .blk B9 (.cells #[(.slice none 0 0)] 26 (0, 0)) :: .blk B0 (.cells #[v1, v3, v5, v7] 71 (0, 0)) :: O) ?_ rfl
  refine Seg.nil <| At.blk_n <| At.then_n <| Wp.region <| Seg.op (OpT.move rfl) rfl <| Seg.op (OpT.add rfl rfl (fits64 (by omega))) rfl <| Seg.op (OpT.assign rfl) rfl <| Seg.nil ?_
  refine At.permK [1, 2, 3, 4, 5, 6] 7 rfl rfl rfl ?_
  refine At.nextE (L' := [(0, (ptr B0 0)), (2, (ptr B9 0)), (3, v15), (4, v1650), (5, (.map (some B28))), (6, (ptr B34 0)), (7, (.int .i64 ((k1275 + 1 : Nat) : Int)))]) m1278 (Nat.lt_succ_self _) ((hl1309.trans hl1663).trans hl1906) (.cons rfl (.cons rfl (.cons rfl (.cons rfl (.cons rfl (.cons rfl (.cons (lk_int rfl (by omega)) (.nil)))))))) ⟨l1649, (l1270 ++ ([(x1303, l1653)] : List (Bool × (List (Int × Int × Int))))), m1657, (k1275 + 1), v1650, xs1651, v1910, xs1911, rfl, rfl, (by rw [← hn1283]; exact hd), (hq1652.mono hl1906), hq1912⟩
 replace hd := brF hb1285 hd
 replace hb1285 := of_decide_eq_false hb1285
 refine Wp.exit <| At.then_x <| At.then_x <| At.blk_hit <| At.then_n <| Wp.sr <| Seg.op (OpT.ldBlkW (i := 1) Tryd.underlying26 rfl ti26 rfl rfl rfl) rfl <| Seg.rowOne (i := 0) rfl fun ho1914 => ?_
 refine Seg.stBlkW (i := 4) (cs' := #[v1271]) rfl rfl ti26 rfl rfl (onesA (ones_cons ho1914 (ones_nil))) rfl ?_
 refine Seg.own (O := .row v1271 40 2 l1270.length xs1272 :: .blk B34 (.cells #[v1271] 26 (0, 0)) :: mapR (mkI Tryd.underlying3) (meI Tryd.underlying3) B28 m1274 :: .row v1267 3 1 l1266.length xs1268 :: .blk B9 (.cells #[v1271] 26 (0, 0)) :: .blk B0 (.cells #[v1, v3, v5, v7] 71 (0, 0)) :: O) ?_ rfl
 refine Seg.nilT <| Wp.ret ?_
 refine At.rowLe (i := 0) rfl fun hb1915 => ?_
 refine At.freeze (i := 0) rfl fun H1918 hl1919 hs1916 => ?_
 have hv1917 := SlD.of (c := (cP cB (cL (cP cU8 (cP cU8 cI64))))) hs1916 rfl (hq1273.mono hl1919) hb1915
 obtain rfl := Option.some.inj hd
 exact At.res1 rfl (RV.cellA (i := 3) rfl Tryd.underlying26 rfl ti26 rfl rfl) (fun w hs => ⟨_, _, _, rfl, ((hl14.trans hl1280).trans hl1919), (hs.permK [4] 5 rfl rfl rfl), ⟨⟨v1271, rfl, hv1917⟩, rfl⟩⟩)

set_option maxRecDepth 100000 in
set_option maxHeartbeats 4000000 in
theorem au_table_signature_w {fu : Nat} {a0 : (List Int) × (List (List Int)) × (List Bool) × (List Int)} {a1 : Int} {v1 v3 v5 v7 : Value} {B0 : Nat} {r : Str} (hv2 : SlD cI64 H a0.1 v1) (hv4 : SlD (cL cI64) H a0.2.1 v3) (hv6 : SlD cB H a0.2.2.1 v5) (hv8 : SlD cI64 H a0.2.2.2 v7) (hG : LaidH Tryd.prog H) (hd : au_table_signature fu a0 a1 = some r) :
    TriV Tryd.prog 34 [(ptr B0 0), (.int .i64 a1)] H (.blk B0 (.cells #[v1, v3, v5, v7] 71 (0, 0)) :: O) (sv r) := by
 intro w hs
 refine wp_of Tryd.func34 rfl rfl rfl ?_ hs
 clear hs w
 unfold au_table_signature at hd
 refine Wp.sr <| Seg.op (OpT.assign rfl) rfl <| Seg.nilT <| Wp.sr <| Seg.alloc (cs := #[.pointer none, .slice none 0 0]) ti105 rfl rfl fun B9 => Seg.nilRow 5 1 ?_
 have hB10 : BldOk H B9 (.pointer none) (.slice none 0 0) [] [] := BldOk.new
 refine Seg.nilT <| Wp.seq ?_
 obtain ⟨x11, hx12, hd⟩ := bnd_some hd
 have hx12_ := idx_bd hx12
 replace hd := chk_some hd; obtain ⟨ha14, hd⟩ := hd
 replace hd := chk_some hd; obtain ⟨ha15, hd⟩ := hd
 refine Wp.region <| Seg.op (OpT.move rfl) rfl <| Seg.op (OpT.nilCheck rfl) rfl <| Seg.op (OpT.fld (o' := 3) fl71_3 rfl rfl) rfl <| Seg.op (OpT.ldBlk (i := 2) (v := v7) Tryd.underlying67 rfl rfl rfl rfl) rfl <| Seg.op (OpT.move rfl) rfl ?_
 obtain ⟨_, rfl, hc13⟩ := SlD.get hv8 hx12
 refine Seg.op (OpT.ixSl Tryd.underlying67 ti3 rfl hv8.sl rfl (idx_bd hx12)) rfl <| Seg.op (OpT.ldH Tryd.underlying3 rfl rfl (hc13 0 _ rfl)) rfl <| Seg.op (OpT.call ent50 rfl (itoaT hG ha14)) rfl <| Seg.permK [1, 0, 2] 3 rfl rfl rfl <| Seg.opS (OpS.call ent49 rfl (bldW2 hB10 ha15)) rfl ?_
 rintro _ H16 _ hl17 ⟨v18, xs19, rfl, hB20, rfl⟩
 refine Seg.nilT <| Wp.seq <| Wp.seq ?_
 obtain ⟨x21, hx22, hd⟩ := bnd_some hd
 have hx22_ := idx_bd hx22
 refine Wp.region <| Seg.op (OpT.move rfl) rfl <| Seg.op (OpT.nilCheck rfl) rfl <| Seg.op (OpT.fld (o' := 1) fl71_1 rfl rfl) rfl <| Seg.op (OpT.ldBlk (i := 2) (v := v3) Tryd.underlying59 rfl rfl rfl rfl) rfl <| Seg.op (OpT.move rfl) rfl ?_
 obtain ⟨_, ⟨v24, rfl, hv25⟩, hc23⟩ := SlD.get (hv4.mono hl17) hx22
 refine Seg.op (OpT.ixSl Tryd.underlying59 ti67 rfl (hv4.mono hl17).sl rfl (idx_bd hx22)) rfl <| Seg.op (OpT.ldH Tryd.underlying67 rfl rfl (hc23 0 _ rfl)) rfl ?_
 have hb26 := hv25.le
 refine Seg.op (OpT.len Tryd.underlying67 rfl hv25.sl) rfl <| Seg.op (OpT.move rfl) rfl <| Seg.nilT <| Wp.block <| Wp.sub (L' := [(0, (ptr B0 0)), (5, (ptr B9 0)), (23, v24), (24, (.int .i64 (x21.length:Int))), (25, (.int .i64 ((0 : Nat) : Int)))]) (.cons rfl (.cons rfl (.cons rfl (.cons rfl (.cons (lk_int rfl (by omega)) (.nil)))))) <| Wp.loopE (fun m LL HH OO => ∃ (l65 : Str), ∃ (k70 : Nat), ∃ (a66 : Value), ∃ (v67 : Value), ∃ (xs68 : List Value), [(0, (ptr B0 0)), (5, (ptr B9 0)), (23, v24), (24, (.int .i64 (x21.length:Int))), (25, (.int .i64 (k70:Int)))] = LL ∧ .blk B9 (.cells #[a66, v67] 105 (0, 0)) :: .row v67 5 1 l65.length xs68 :: .blk B0 (.cells #[v1, v3, v5, v7] 71 (0, 0)) :: O = OO ∧ loopK m (fun p nx => au_table_signature_b1 fu a0 x21 p.1 p.2 nx) (l65, k70) = some r ∧ BldOk HH B9 a66 v67 l65 xs68) fu ⟨(([] : Str) ++ (Lib.itoa x11)), 0, (ptr B9 0), v18, xs19, rfl, rfl, hd, hB20⟩ ?_
 intro m72 L76 H74 O77 hl75 hI71
 obtain ⟨l65, k70, a66, v67, xs68, rfl, rfl, hd, hB69⟩ := hI71
 replace hd := loopK_some hd; obtain ⟨m73, rfl, hd⟩ := hd
 obtain ⟨nx64, hn78⟩ : ∃ f, f = loopK m73 (fun p nx => au_table_signature_b1 fu a0 x21 p.1 p.2 nx) := ⟨_, rfl⟩
 rw [← hn78] at hd
 replace hd : au_table_signature_b1 fu a0 x21 l65 k70 nx64 = some r := hd
 unfold au_table_signature_b1 at hd
 refine Wp.sr <| Seg.op (OpT.lss rfl rfl) rfl <| Seg.nilT <| Wp.seq ?_
 refine Wp.cond (b := decide ((k70:Int) < (x21.length:Int))) rfl (fun hb79 => ?_) (fun hb79 => ?_)
 ·
  replace hd := brT hb79 hd
  replace hb79 := of_decide_eq_true hb79
  refine Wp.skip <| At.then_n <| Wp.seq <| Wp.block <| Wp.seq ?_
  obtain ⟨x80, hx81, hd⟩ := bnd_some hd
  have hx81_ := idx_bd hx81
  refine Wp.region ?_
  obtain ⟨_, rfl, hc82⟩ := SlD.get (hv25.mono hl75) hx81
  refine Seg.op (OpT.ixSl Tryd.underlying67 ti3 rfl (hv25.mono hl75).sl rfl (idx_bd hx81)) rfl <| Seg.op (OpT.ldH Tryd.underlying3 rfl rfl (hc82 0 _ rfl)) rfl <| Seg.op (OpT.assign rfl) rfl <| Seg.nilT ?_
  obtain ⟨x83, hx84, hd⟩ := bnd_some hd
  have hx84_ := idx_bd hx84
  replace hd := chk_some hd; obtain ⟨ha86, hd⟩ := hd
  replace hd := chk_some hd; obtain ⟨ha87, hd⟩ := hd
  replace hd := chk_some hd; obtain ⟨ha88, hd⟩ := hd
  refine Wp.region <| Seg.op (OpT.move rfl) rfl <| Seg.op (OpT.nilCheck rfl) rfl <| Seg.op (OpT.fld (o' := 3) fl71_3 rfl rfl) rfl <| Seg.op (OpT.ldBlk (i := 2) (v := v7) Tryd.underlying67 rfl rfl rfl rfl) rfl <| Seg.op (OpT.move rfl) rfl ?_
  obtain ⟨_, rfl, hc85⟩ := SlD.get (hv8.mono (hl17.trans hl75)) hx84
  refine Seg.op (OpT.ixSl Tryd.underlying67 ti3 rfl (hv8.mono (hl17.trans hl75)).sl rfl (idx_bd hx84)) rfl <| Seg.op (OpT.ldH Tryd.underlying3 rfl rfl (hc85 0 _ rfl)) rfl <| Seg.op (OpT.call ent50 rfl (itoaT (hG.mono (hl17.trans hl75)) ha86)) rfl <| Seg.op (OpT.catStr rfl rfl ha87) rfl <| Seg.opS (OpS.call ent49 rfl (bldW2 hB69 ha88)) rfl ?_
  rintro _ H89 _ hl90 ⟨v91, xs92, rfl, hB93, rfl⟩
  refine Seg.nil <| At.blk_n <| At.then_n <| Wp.region <| Seg.op (OpT.add rfl rfl (fits64 (by omega))) rfl <| Seg.op (OpT.move rfl) rfl <| Seg.nil ?_
  refine At.nextE (L' := [(0, (ptr B0 0)), (5, (ptr B9 0)), (23, v24), (24, (.int .i64 (x21.length:Int))), (25, (.int .i64 ((k70 + 1 : Nat) : Int)))]) m73 (Nat.lt_succ_self _) hl90 (.cons rfl (.cons rfl (.cons rfl (.cons rfl (.cons (lk_int rfl (by omega)) (.nil)))))) ⟨(l65 ++ (([44] : Str) ++ (Lib.itoa x83))), (k70 + 1), (ptr B9 0), v91, xs92, rfl, rfl, (by rw [← hn78]; exact hd), hB93⟩
 replace hd := brF hb79 hd
 replace hb79 := of_decide_eq_false hb79
 refine Wp.exit <| At.then_x <| At.then_x <| At.blk_hit <| At.then_n <| Wp.sr <| Seg.opS (OpS.call ent51 rfl (bldS2 hB69)) rfl ?_
 rintro _ H94 _ hl95 ⟨rfl, rfl⟩
 refine Seg.op (OpT.assign rfl) rfl <| Seg.nilT <| Wp.ret ?_
 obtain rfl := Option.some.inj hd
 exact At.res1 rfl (RV.tmp (v := (sv l65)) rfl) (fun w hs => ⟨rfl, (hs.permK [0] 1 rfl rfl rfl).weaken ((hl17.trans hl75).trans hl95)⟩)

set_option maxRecDepth 100000 in
set_option maxHeartbeats 4000000 in
theorem au_table_refine_w {fu : Nat} {a0 : (List Int) × (List (List Int)) × (List Bool) × (List Int)} {v1 v3 v5 v7 : Value} {B0 : Nat} {r : (List Int) × (List (List Int)) × (List Bool) × (List Int)} (hv2 : SlD cI64 H a0.1 v1) (hv4 : SlD (cL cI64) H a0.2.1 v3) (hv6 : SlD cB H a0.2.2.1 v5) (hv8 : SlD cI64 H a0.2.2.2 v7) (hG : LaidH Tryd.prog H) (hd : au_table_refine fu a0 = some r) :
    Tri Tryd.prog 26 [(ptr B0 0)] H (.blk B0 (.cells #[v1, v3, v5, v7] 71 (0, 0)) :: O) (fun v H' O' => ∃ r', (∃ v413 : Value, ∃ v415 : Value, ∃ v417 : Value, ∃ v419 : Value, (.tuple #[]) = v ∧ SlD cI64 H' r.1 v413 ∧ SlD (cL cI64) H' r.2.1 v415 ∧ SlD cB H' r.2.2.1 v417 ∧ SlD cI64 H' r.2.2.2 v419 ∧ .blk B0 (.cells #[v413, v415, v417, v419] 71 (0, 0)) = r') ∧ r' :: O = O') := by
 intro w hs
 refine wp_of Tryd.func26 rfl rfl rfl ?_ hs
 clear hs w
 unfold au_table_refine at hd
 refine Wp.scope <| Wp.seq ?_
 replace hd := chk_some hd; obtain ⟨ha13, hd⟩ := hd
 refine Wp.region <| Seg.op (OpT.move rfl) rfl <| Seg.op (OpT.move rfl) rfl <| Seg.op (OpT.nilCheck rfl) rfl <| Seg.op (OpT.fld (o' := 1) fl71_1 rfl rfl) rfl <| Seg.op (OpT.ldBlk (i := 0) (v := v3) Tryd.underlying59 rfl rfl rfl rfl) rfl ?_
 have hb9 := hv4.le
 refine Seg.op (OpT.len Tryd.underlying59 rfl hv4.sl) rfl <| Seg.makeD (c := cI64) (z := 0) (m := a0.2.1.length) Tryd.underlying67 ti3 rfl rfl ha13 (rfl) rfl rfl rfl fun v10 xs11 hq12 => Seg.op (OpT.nilCheck rfl) rfl <| Seg.op (OpT.fld (o' := 3) fl71_3 rfl rfl) rfl <| Seg.rowOne (i := 0) rfl fun ho14 => Seg.stBlk1 (i := 1) rfl rfl ho14 ti67 rfl (Nat.le_of_ble_eq_true rfl) ?_
 refine Seg.own (O := .row v10 3 1 (List.replicate a0.2.1.length 0 : List Int).length xs11 :: .blk B0 (.cells #[v1, v3, v5, v10] 71 (0, 0)) :: O) ?_ rfl
 refine Seg.nilT <| Wp.seq <| Wp.sr <| Seg.op (OpT.move rfl) rfl <| Seg.op (OpT.nilCheck rfl) rfl <| Seg.op (OpT.fld (o' := 2) fl71_2 rfl rfl) rfl <| Seg.op (OpT.ldBlk (i := 1) (v := v5) Tryd.underlying69 rfl rfl rfl rfl) rfl ?_
 have hb15 := hv6.le
 refine Seg.op (OpT.len Tryd.underlying69 rfl hv6.sl) rfl <| Seg.op (OpT.move rfl) rfl <| Seg.nilT <| Wp.block <| Wp.sub (L' := [(0, (ptr B0 0)), (24, v5), (25, (.int .i64 (a0.2.2.1.length:Int))), (26, (.int .i64 ((0 : Nat) : Int)))]) (.cons rfl (.cons rfl (.cons rfl (.cons (lk_int rfl (by omega)) (.nil))))) <| Wp.loopE (fun m LL HH OO => ∃ (l44 : List Int), ∃ (k48 : Nat), ∃ (v45 : Value), ∃ (xs46 : List Value), [(0, (ptr B0 0)), (24, v5), (25, (.int .i64 (a0.2.2.1.length:Int))), (26, (.int .i64 (k48:Int)))] = LL ∧ .row v45 3 1 l44.length xs46 :: .blk B0 (.cells #[v1, v3, v5, v45] 71 (0, 0)) :: O = OO ∧ loopK m (fun p nx => au_table_refine_b1 fu a0 p.1 p.2 nx) (l44, k48) = some r ∧ LayL cI64 HH l44 xs46) fu ⟨(List.replicate a0.2.1.length 0 : List Int), 0, v10, xs11, rfl, rfl, hd, hq12⟩ ?_
 intro m50 L54 H52 O55 hl53 hI49
 obtain ⟨l44, k48, v45, xs46, rfl, rfl, hd, hq47⟩ := hI49
 replace hd := loopK_some hd; obtain ⟨m51, rfl, hd⟩ := hd
 obtain ⟨nx43, hn56⟩ : ∃ f, f = loopK m51 (fun p nx => au_table_refine_b1 fu a0 p.1 p.2 nx) := ⟨_, rfl⟩
 rw [← hn56] at hd
 replace hd : au_table_refine_b1 fu a0 l44 k48 nx43 = some r := hd
 unfold au_table_refine_b1 at hd
 refine Wp.sr <| Seg.op (OpT.lss rfl rfl) rfl <| Seg.nilT <| Wp.seq ?_
 refine Wp.cond (b := decide ((k48:Int) < (a0.2.2.1.length:Int))) rfl (fun hb57 => ?_) (fun hb57 => ?_)
 ·
  replace hd := brT hb57 hd
  replace hb57 := of_decide_eq_true hb57
  refine Wp.skip <| At.then_n <| Wp.seq <| Wp.block <| Wp.seq ?_
  obtain ⟨x58, hx59, hd⟩ := bnd_some hd
  have hx59_ := idx_bd hx59
  refine Wp.region <| Seg.op (OpT.move rfl) rfl ?_
  obtain ⟨_, rfl, hc60⟩ := SlD.get (hv6.mono hl53) hx59
  refine Seg.op (OpT.ixSl Tryd.underlying69 ti4 rfl (hv6.mono hl53).sl rfl (idx_bd hx59)) rfl <| Seg.op (OpT.ldH Tryd.underlying4 rfl rfl (hc60 0 _ rfl)) rfl <| Seg.op (OpT.assign rfl) rfl <| Seg.op (OpT.assign rfl) rfl <| Seg.nilT <| Wp.sr <| Seg.op (OpT.move rfl) rfl <| Seg.nilT ?_
  refine Wp.cond (b := x58) rfl (fun hb61 => ?_) (fun hb61 => ?_)
  ·
   replace hd := brT hb61 hd
   obtain ⟨x62, hx63, hd⟩ := bnd_some hd
   have hx63_ := idx_bd hx63
   refine Wp.region <| Seg.op (OpT.move rfl) rfl <| Seg.op (OpT.nilCheck rfl) rfl <| Seg.op (OpT.fld (o' := 3) fl71_3 rfl rfl) rfl <| Seg.op (OpT.ldBlk (i := 1) (v := v45) Tryd.underlying67 rfl rfl rfl rfl) rfl <| Seg.op (OpT.move rfl) rfl ?_
   obtain ⟨_, rfl, hc64, hc64_⟩ := LayL.get hq47 (idx_some hx63).2
   refine Seg.op (OpT.ixRow (j := 0) Tryd.underlying67 ti3 rfl rfl rfl (idx_bd hx63)) rfl ?_
   refine Seg.stD (q := 0) (off := 0) (vs := [(.int .i64 1)]) (y := 1) (cs := [(.int .i64 x62)]) hq47 hx63 hc64_ rfl rfl rfl ti3 rfl rfl (ones_cons rfl (ones_nil)) rfl (rfl) rfl (fun xs65 hq66 => ?_)
   refine Seg.nil <| At.blk_n <| At.then_n <| Wp.region <| Seg.op (OpT.add rfl rfl (fits64 (by omega))) rfl <| Seg.op (OpT.move rfl) rfl <| Seg.nil ?_
   refine At.nextE (L' := [(0, (ptr B0 0)), (24, v5), (25, (.int .i64 (a0.2.2.1.length:Int))), (26, (.int .i64 ((k48 + 1 : Nat) : Int)))]) m51 (Nat.lt_succ_self _) (Hp.le.refl _) (.cons rfl (.cons rfl (.cons rfl (.cons (lk_int rfl (by omega)) (.nil))))) ⟨(l44.set k48 1), (k48 + 1), v45, xs65, rfl, rfl, (by rw [← hn56]; exact hd), hq66⟩
  replace hd := brF hb61 hd
  refine Wp.skip <| At.blk_n <| At.then_n <| Wp.region <| Seg.op (OpT.add rfl rfl (fits64 (by omega))) rfl <| Seg.op (OpT.move rfl) rfl <| Seg.nil ?_
  refine At.nextE (L' := [(0, (ptr B0 0)), (24, v5), (25, (.int .i64 (a0.2.2.1.length:Int))), (26, (.int .i64 ((k48 + 1 : Nat) : Int)))]) m51 (Nat.lt_succ_self _) (Hp.le.refl _) (.cons rfl (.cons rfl (.cons rfl (.cons (lk_int rfl (by omega)) (.nil))))) ⟨l44, (k48 + 1), v45, xs46, rfl, rfl, (by rw [← hn56]; exact hd), hq47⟩
 replace hd := brF hb57 hd
 replace hb57 := of_decide_eq_false hb57
 refine Wp.exit <| At.then_x <| At.then_x <| At.blk_hit <| At.then_n <| Wp.sr <| Seg.op (OpT.assign rfl) rfl <| Seg.nilT ?_
 refine Wp.sr <| Seg.op (OpT.move rfl) rfl <| Seg.op (OpT.makeFunc (vf := [(ptr B0 0)]) (vc := []) rfl rfl) rfl <| Seg.op (OpT.assign rfl) rfl <| Seg.nilT <| Wp.seq <| Wp.label <| At.then_n ?_
 refine Wp.block <| Wp.sub (L' := [(0, (ptr B0 0)), (4, (.int .i64 ((0 : Nat) : Int))), (5, (.func (.func 34) #[(ptr B0 0)] #[]))]) (.cons rfl (.cons (lk_int rfl (by omega)) (.cons rfl (.nil)))) <| Wp.loopE (fun m LL HH OO => ∃ (k279 : Nat), ∃ (l280 : List Int), ∃ (v281 : Value), ∃ (xs282 : List Value), [(0, (ptr B0 0)), (4, (.int .i64 (k279:Int))), (5, (.func (.func 34) #[(ptr B0 0)] #[]))] = LL ∧ .row v281 3 1 l280.length xs282 :: .blk B0 (.cells #[v1, v3, v5, v281] 71 (0, 0)) :: O = OO ∧ loopK m (fun p nx => au_table_refine_b8 fu a0 p.1 p.2 nx) (k279, l280) = some r ∧ LayL cI64 HH l280 xs282) fu ⟨0, l44, v45, xs46, rfl, rfl, hd, hq47⟩ ?_
 intro m285 L289 H287 O290 hl288 hI284
 obtain ⟨k279, l280, v281, xs282, rfl, rfl, hd, hq283⟩ := hI284
 replace hd := loopK_some hd; obtain ⟨m286, rfl, hd⟩ := hd
 obtain ⟨nx278, hn291⟩ : ∃ f, f = loopK m286 (fun p nx => au_table_refine_b8 fu a0 p.1 p.2 nx) := ⟨_, rfl⟩
 rw [← hn291] at hd
 replace hd : au_table_refine_b8 fu a0 k279 l280 nx278 = some r := hd
 unfold au_table_refine_b8 at hd
 refine Wp.block <| Wp.sr <| Seg.makeMap (mkS Tryd.underlying9) (meI Tryd.underlying3) rfl fun B292 => Seg.op (OpT.assign rfl) rfl <| Seg.nilT <| Wp.seq ?_
 replace hd := chk_some hd; obtain ⟨ha297, hd⟩ := hd
 refine Wp.region <| Seg.op (OpT.move rfl) rfl <| Seg.op (OpT.nilCheck rfl) rfl <| Seg.op (OpT.fld (o' := 1) fl71_1 rfl rfl) rfl <| Seg.op (OpT.ldBlk (i := 2) (v := v3) Tryd.underlying59 rfl rfl rfl rfl) rfl ?_
 have hb293 := hv4.le
 refine Seg.op (OpT.len Tryd.underlying59 rfl (hv4.mono (hl53.trans hl288)).sl) rfl <| Seg.makeD (c := cI64) (z := 0) (m := a0.2.1.length) Tryd.underlying67 ti3 rfl rfl ha297 (rfl) rfl rfl rfl fun v294 xs295 hq296 => Seg.op (OpT.assign rfl) rfl <| Seg.nilT <| Wp.seq <| Wp.sr <| Seg.op (OpT.move rfl) rfl <| Seg.op (OpT.nilCheck rfl) rfl ?_
 refine Seg.op (OpT.fld (o' := 1) fl71_1 rfl rfl) rfl <| Seg.op (OpT.ldBlk (i := 3) (v := v3) Tryd.underlying59 rfl rfl rfl rfl) rfl ?_
 have hb298 := hv4.le
 refine Seg.op (OpT.len Tryd.underlying59 rfl (hv4.mono (hl53.trans hl288)).sl) rfl <| Seg.op (OpT.move rfl) rfl <| Seg.nilT <| Wp.block ?_
 refine Wp.rowLe (i := 2) rfl fun hb359 => ?_
 refine Wp.freeze (i := 2) rfl fun H362 hl363 hs360 => ?_
 have hv361 := SlD.of (c := cI64) hs360 rfl (hq283.mono hl363) hb359
 refine Wp.sub (L' := [(0, (ptr B0 0)), (4, (.int .i64 (k279:Int))), (5, (.func (.func 34) #[(ptr B0 0)] #[])), (6, (.map (some B292))), (7, v294), (52, (.int .i64 (a0.2.1.length:Int))), (53, (.int .i64 ((0 : Nat) : Int)))]) (.cons rfl (.cons rfl (.cons rfl (.cons rfl (.cons rfl (.cons rfl (.cons (lk_int rfl (by omega)) (.nil)))))))) <| Wp.loopE (fun m LL HH OO => ∃ (l365 : List Int), ∃ (l368 : List Int), ∃ (m372 : List (Str × Int)), ∃ (k373 : Nat), ∃ (v366 : Value), ∃ (v369 : Value), ∃ (xs370 : List Value), [(0, (ptr B0 0)), (4, (.int .i64 (k279:Int))), (5, (.func (.func 34) #[(ptr B0 0)] #[])), (6, (.map (some B292))), (7, v369), (52, (.int .i64 (a0.2.1.length:Int))), (53, (.int .i64 (k373:Int)))] = LL ∧ .row v369 3 1 l368.length xs370 :: mapR (mkS Tryd.underlying9) (meI Tryd.underlying3) B292 m372 :: .blk B0 (.cells #[v1, v3, v5, v366] 71 (0, 0)) :: O = OO ∧ loopK m (fun p nx => au_table_refine_b11 fu a0 k279 nx278 p.1 p.2.1 p.2.2.1 p.2.2.2 nx) (l365, l368, m372, k373) = some r ∧ SlD cI64 HH l365 v366 ∧ LayL cI64 HH l368 xs370) fu ⟨l280, (List.replicate a0.2.1.length 0 : List Int), ([] : List (Str × Int)), 0, v281, v294, xs295, rfl, rfl, hd, hv361, (hq296.mono hl363)⟩ ?_
 intro m375 L379 H377 O380 hl378 hI374
 obtain ⟨l365, l368, m372, k373, v366, v369, xs370, rfl, rfl, hd, hv367, hq371⟩ := hI374
 replace hd := loopK_some hd; obtain ⟨m376, rfl, hd⟩ := hd
 obtain ⟨nx364, hn381⟩ : ∃ f, f = loopK m376 (fun p nx => au_table_refine_b11 fu a0 k279 nx278 p.1 p.2.1 p.2.2.1 p.2.2.2 nx) := ⟨_, rfl⟩
 rw [← hn381] at hd
 replace hd : au_table_refine_b11 fu a0 k279 nx278 l365 l368 m372 k373 nx364 = some r := hd
 unfold au_table_refine_b11 at hd
 refine Wp.sr <| Seg.op (OpT.lss rfl rfl) rfl <| Seg.nilT <| Wp.seq ?_
 refine Wp.cond (b := decide ((k373:Int) < (a0.2.1.length:Int))) rfl (fun hb382 => ?_) (fun hb382 => ?_)
 ·
  replace hd := brT hb382 hd
  replace hb382 := of_decide_eq_true hb382
  refine Wp.skip <| At.then_n <| Wp.seq <| Wp.block <| Wp.sr <| Seg.op (OpT.move rfl) rfl <| Seg.op (OpT.assign rfl) rfl <| Seg.nilT ?_
  refine Wp.seq ?_
  obtain ⟨x383, hx384, hd⟩ := bnd_some hd
  refine Wp.region <| Seg.op (OpT.move rfl) rfl <| Seg.op (OpT.move rfl) rfl <| Seg.op (OpT.callC (first := [(ptr B0 0)]) ent34 rfl rfl (TriV.at 2 rfl (au_table_signature_w (a0 := (a0.1, a0.2.1, a0.2.2.1, l365)) (hv2.mono (((hl53.trans hl288).trans hl363).trans hl378)) (hv4.mono (((hl53.trans hl288).trans hl363).trans hl378)) (hv6.mono (((hl53.trans hl288).trans hl363).trans hl378)) hv367 (hG.mono (((hl53.trans hl288).trans hl363).trans hl378)) hx384))) rfl <| Seg.op (OpT.assign rfl) rfl <| Seg.nilT <| Wp.seq ?_
  replace hd := chk_some hd; obtain ⟨ha385, hd⟩ := hd
  refine Wp.region <| Seg.op (OpT.move rfl) rfl <| Seg.op (OpT.move rfl) rfl <| Seg.op (OpT.lookupOk (K := (mkS Tryd.underlying9)) (M := (meI Tryd.underlying3)) (i := 1) (k := x383) (z := 0) Tryd.underlying73 ti3 (show F64 0 by decide) rfl rfl ha385 rfl) rfl <| Seg.op (OpT.move rfl) rfl <| Seg.op (OpT.extract rfl rfl) rfl <| Seg.op (OpT.extract rfl rfl) rfl <| Seg.op (OpT.assign rfl) rfl ?_
  refine Seg.op (OpT.assign rfl) rfl <| Seg.nilT <| Wp.seq <| Wp.sr <| Seg.op (OpT.move rfl) rfl <| Seg.op (OpT.not rfl) rfl <| Seg.nilT ?_
  refine Wp.joinT (fun LL HH OO => ∃ (m390 : List (Str × Int)), ∃ (i391 : Int), [(0, (ptr B0 0)), (4, (.int .i64 (k279:Int))), (5, (.func (.func 34) #[(ptr B0 0)] #[])), (6, (.map (some B292))), (7, v369), (8, (.int .i64 (k373:Int))), (10, (.int .i64 i391)), (52, (.int .i64 (a0.2.1.length:Int))), (53, (.int .i64 (k373:Int)))] = LL ∧ .row v369 3 1 l368.length xs370 :: mapR (mkS Tryd.underlying9) (meI Tryd.underlying3) B292 m390 :: .blk B0 (.cells #[v1, v3, v5, v366] 71 (0, 0)) :: O = OO ∧ au_table_refine_j12 fu l365 l368 k373 nx364 m390 i391 = some r) ?_ ?_
  ·
   refine Wp.cond (b := !((fmGet m372 x383).isSome)) rfl (fun hb402 => ?_) (fun hb402 => ?_)
   ·
    replace hd := brT hb402 hd
    refine Wp.sr <| Seg.op (OpT.move rfl) rfl <| Seg.op (OpT.lenMap (K := (mkS Tryd.underlying9)) (M := (meI Tryd.underlying3)) (i := 1) Tryd.underlying73 rfl rfl) rfl <| Seg.op (OpT.assign rfl) rfl <| Seg.nilT ?_
    replace hd := chk_some hd; obtain ⟨ha403, hd⟩ := hd
    replace hd := chk_some hd; obtain ⟨ha404, hd⟩ := hd
    replace hd := chk_some hd; obtain ⟨ha405, hd⟩ := hd
    refine Wp.region <| Seg.op (OpT.move rfl) rfl <| Seg.op (OpT.move rfl) rfl <| Seg.op (OpT.move rfl) rfl <| Seg.mapUpdate (K := (mkS Tryd.underlying9)) (M := (meI Tryd.underlying3)) (k := x383) (v := (m372.length:Int)) 1 Tryd.underlying73 rfl rfl rfl ha403 ha404 ha405 rfl <| Seg.nil ?_
    refine At.joinE (L' := [(0, (ptr B0 0)), (4, (.int .i64 (k279:Int))), (5, (.func (.func 34) #[(ptr B0 0)] #[])), (6, (.map (some B292))), (7, v369), (8, (.int .i64 (k373:Int))), (10, (.int .i64 (m372.length:Int))), (52, (.int .i64 (a0.2.1.length:Int))), (53, (.int .i64 (k373:Int)))]) (Hp.le.refl _) (.cons rfl (.cons rfl (.cons rfl (.cons rfl (.cons rfl (.cons rfl (.cons rfl (.cons rfl (.cons rfl (.nil)))))))))) ⟨(fmPut m372 x383 (m372.length:Int)), (m372.length:Int), rfl, rfl, hd⟩
   replace hd := brF hb402 hd
   refine Wp.skip ?_
   refine At.joinE (L' := [(0, (ptr B0 0)), (4, (.int .i64 (k279:Int))), (5, (.func (.func 34) #[(ptr B0 0)] #[])), (6, (.map (some B292))), (7, v369), (8, (.int .i64 (k373:Int))), (10, (.int .i64 ((fmGet m372 x383).getD 0))), (52, (.int .i64 (a0.2.1.length:Int))), (53, (.int .i64 (k373:Int)))]) (Hp.le.refl _) (.cons rfl (.cons rfl (.cons rfl (.cons rfl (.cons rfl (.cons rfl (.cons rfl (.cons rfl (.cons rfl (.nil)))))))))) ⟨m372, ((fmGet m372 x383).getD 0), rfl, rfl, hd⟩
  intro L395 H393 O396 hl394 hI392
  obtain ⟨m390, i391, rfl, rfl, hd⟩ := hI392
  unfold au_table_refine_j12 at hd
  obtain ⟨x397, hx398, hd⟩ := bnd_some hd
  have hx398_ := idx_bd hx398
  refine Wp.region <| Seg.op (OpT.move rfl) rfl <| Seg.op (OpT.move rfl) rfl <| Seg.op (OpT.move rfl) rfl ?_
  obtain ⟨_, rfl, hc399, hc399_⟩ := LayL.get (hq371.mono hl394) (idx_some hx398).2
  refine Seg.op (OpT.ixRow (j := 0) Tryd.underlying67 ti3 rfl rfl rfl (idx_bd hx398)) rfl ?_
  refine Seg.stD (q := 0) (off := 0) (vs := [(.int .i64 i391)]) (y := i391) (cs := [(.int .i64 x397)]) (hq371.mono hl394) hx398 hc399_ rfl rfl rfl ti3 rfl rfl (ones_cons rfl (ones_nil)) rfl (rfl) rfl (fun xs400 hq401 => ?_)
  refine Seg.nil <| At.blk_n <| At.then_n <| Wp.region <| Seg.op (OpT.add rfl rfl (fits64 (by omega))) rfl <| Seg.op (OpT.move rfl) rfl <| Seg.nil ?_
  refine At.nextE (L' := [(0, (ptr B0 0)), (4, (.int .i64 (k279:Int))), (5, (.func (.func 34) #[(ptr B0 0)] #[])), (6, (.map (some B292))), (7, v369), (52, (.int .i64 (a0.2.1.length:Int))), (53, (.int .i64 ((k373 + 1 : Nat) : Int)))]) m376 (Nat.lt_succ_self _) hl394 (.cons rfl (.cons rfl (.cons rfl (.cons rfl (.cons rfl (.cons rfl (.cons (lk_int rfl (by omega)) (.nil)))))))) ⟨l365, (l368.set k373 i391), m390, (k373 + 1), v366, v369, xs400, rfl, rfl, (by rw [← hn381]; exact hd), (hv367.mono hl394), hq401⟩
 replace hd := brF hb382 hd
 replace hb382 := of_decide_eq_false hb382
 refine Wp.exit <| At.then_x <| At.then_x <| At.blk_hit <| At.then_n <| Wp.sr <| Seg.op (OpT.move rfl) rfl <| Seg.op (OpT.move rfl) rfl ?_
 refine Seg.op (OpT.nilCheck rfl) rfl <| Seg.op (OpT.fld (o' := 3) fl71_3 rfl rfl) rfl <| Seg.rowOne (i := 0) rfl fun ho406 => Seg.stBlk1 (i := 2) rfl rfl ho406 ti67 rfl (Nat.le_of_ble_eq_true rfl) ?_
 refine Seg.own (O := .row v369 3 1 l368.length xs370 :: mapR (mkS Tryd.underlying9) (meI Tryd.underlying3) B292 m372 :: .blk B0 (.cells #[v1, v3, v5, v369] 71 (0, 0)) :: O) ?_ rfl
 refine Seg.nilT <| Wp.seq <| Wp.sr <| Seg.op (OpT.move rfl) rfl <| Seg.op (OpT.lenMap (K := (mkS Tryd.underlying9)) (M := (meI Tryd.underlying3)) (i := 1) Tryd.underlying73 rfl rfl) rfl <| Seg.op (OpT.move rfl) rfl <| Seg.op (OpT.eql rfl rfl) rfl <| Seg.nilT ?_
 refine Wp.cond (b := decide ((m372.length:Int) = (k279:Int))) rfl (fun hb407 => ?_) (fun hb407 => ?_)
 ·
  replace hd := brT hb407 hd
  replace hb407 := of_decide_eq_true hb407
  refine Wp.exit <| At.then_x <| At.blk_miss rfl <| At.then_x <| At.blk_hit <| At.ng_n ?_
  refine At.rowLe (i := 0) rfl fun hb408 => ?_
  refine At.freeze (i := 0) rfl fun H411 hl412 hs409 => ?_
  have hv410 := SlD.of (c := cI64) hs409 rfl (hq371.mono hl412) hb408
  obtain rfl := Option.some.inj hd
  exact At.res0n rfl  (fun w hs => ⟨_, _, _, rfl, ((((hl53.trans hl288).trans hl363).trans hl378).trans hl412), (hs.permK [1] 2 rfl rfl rfl), ⟨_, ⟨v1, v3, v5, v369, rfl, (hv2.mono ((((hl53.trans hl288).trans hl363).trans hl378).trans hl412)), (hv4.mono ((((hl53.trans hl288).trans hl363).trans hl378).trans hl412)), (hv6.mono ((((hl53.trans hl288).trans hl363).trans hl378).trans hl412)), hv410, rfl⟩, rfl⟩⟩)
 replace hd := brF hb407 hd
 replace hb407 := of_decide_eq_false hb407
 refine Wp.skip <| At.then_n <| Wp.region <| Seg.op (OpT.move rfl) rfl <| Seg.op (OpT.lenMap (K := (mkS Tryd.underlying9)) (M := (meI Tryd.underlying3)) (i := 1) Tryd.underlying73 rfl rfl) rfl <| Seg.op (OpT.assign rfl) rfl <| Seg.nil <| At.blk_n ?_
 refine At.permK [0, 2] 3 rfl rfl rfl ?_
 refine At.nextE (L' := [(0, (ptr B0 0)), (4, (.int .i64 (m372.length:Int))), (5, (.func (.func 34) #[(ptr B0 0)] #[]))]) m286 (Nat.lt_succ_self _) (hl363.trans hl378) (.cons rfl (.cons (lk_int rfl (by omega)) (.cons rfl (.nil)))) ⟨m372.length, l368, v369, xs370, rfl, rfl, (by rw [← hn291]; exact hd), hq371⟩

set_option maxRecDepth 100000 in
set_option maxHeartbeats 4000000 in
theorem au_Minimal_w {fu : Nat} {a0 : List (Bool × (List (Int × Int × Int)))} {v1 : Value} {r : (List (Bool × (List (Int × Int × Int)))) × Int} (hv2 : SlD (cP cB (cL (cP cU8 (cP cU8 cI64)))) H a0 v1) (hG : LaidH Tryd.prog H) (hd : au_Minimal fu a0 = some r) :
    Tri Tryd.prog 16 [v1] H O (fun v H' O' => (∃ v43 : Value, (.tuple #[(.agg #[v43]), (.int .i64 r.2)]) = v ∧ SlD (cP cB (cL (cP cU8 (cP cU8 cI64)))) H' r.1 v43) ∧ O = O') := by
 intro w hs
 refine wp_of Tryd.func16 rfl rfl rfl ?_ hs
 clear hs w
 unfold au_Minimal at hd
 refine Wp.sr <| Seg.alloc (cs := #[(.slice none 0 0)]) ti26 rfl rfl fun B3 => Seg.op (OpT.assign rfl) rfl <| Seg.nilT <| Wp.seq <| Wp.seq ?_
 obtain ⟨x5, hx6, hd⟩ := bnd_some hd
 refine Wp.region <| Seg.op (OpT.move rfl) rfl <| Seg.op (OpT.call ent19 rfl (au_wellFormed_w hv2 hx6)) rfl <| Seg.op (OpT.not rfl) rfl <| Seg.nilT ?_
 refine Wp.cond (b := !x5) rfl (fun hb7 => ?_) (fun hb7 => ?_)
 ·
  replace hd := brT hb7 hd
  refine Wp.sr <| Seg.op (OpT.buildS (vs := []) (cs := #[(.slice none 0 0)]) plf26 ti26 rfl rfl (vc_nil) rfl) rfl <| Seg.stBlkW (i := 0) (cs' := #[(.slice none 0 0)]) rfl rfl ti26 rfl rfl (onesA (ones_cons rfl (ones_nil))) rfl ?_
  refine Seg.own (O := .blk B3 (.cells #[(.slice none 0 0)] 26 (0, 0)) :: O) ?_ rfl
  refine Seg.op (OpT.assign rfl) rfl <| Seg.nilT <| Wp.ret <| At.then_r ?_
  obtain rfl := Option.some.inj hd
  exact At.res2 rfl (RV.cellA (i := 0) rfl Tryd.underlying26 rfl ti26 rfl rfl) (RV.tmp (v := (.int .i64 11)) rfl) (fun w hs => ⟨_, _, _, rfl, (Hp.le.refl _), (hs.dropN 1), ⟨⟨(.slice none 0 0), rfl, SlD.nil⟩, rfl⟩⟩)
 replace hd := brF hb7 hd
 refine Wp.skip <| At.then_n <| Wp.seq <| Wp.sr <| Seg.op (OpT.move rfl) rfl ?_
 have hb9 := hv2.le
 refine Seg.op (OpT.len Tryd.underlying22 rfl hv2.sl) rfl <| Seg.op (OpT.eql rfl rfl) rfl <| Seg.nilT ?_
 refine Wp.cond (b := decide ((a0.length:Int) = 0)) rfl (fun hb10 => ?_) (fun hb10 => ?_)
 ·
  replace hd := brT hb10 hd
  replace hb10 := of_decide_eq_true hb10
  refine Wp.sr <| Seg.op (OpT.buildS (vs := []) (cs := #[(.slice none 0 0)]) plf26 ti26 rfl rfl (vc_nil) rfl) rfl <| Seg.stBlkW (i := 0) (cs' := #[(.slice none 0 0)]) rfl rfl ti26 rfl rfl (onesA (ones_cons rfl (ones_nil))) rfl ?_
  refine Seg.own (O := .blk B3 (.cells #[(.slice none 0 0)] 26 (0, 0)) :: O) ?_ rfl
  refine Seg.op (OpT.assign rfl) rfl <| Seg.nilT <| Wp.ret <| At.then_r ?_
  obtain rfl := Option.some.inj hd
  exact At.res2 rfl (RV.cellA (i := 0) rfl Tryd.underlying26 rfl ti26 rfl rfl) (RV.tmp (v := (.int .i64 0)) rfl) (fun w hs => ⟨_, _, _, rfl, (Hp.le.refl _), (hs.dropN 1), ⟨⟨(.slice none 0 0), rfl, SlD.nil⟩, rfl⟩⟩)
 replace hd := brF hb10 hd
 replace hb10 := of_decide_eq_false hb10
 refine Wp.skip <| At.then_n <| Wp.seq ?_
 obtain ⟨x12, hx13, hd⟩ := bnd_some hd
 refine Wp.region <| Seg.op (OpT.move rfl) rfl <| Seg.opS (OpS.call ent25 rfl (au_complete_w hv2 hx13)) rfl ?_
 rintro _ H14 _ hl15 ⟨B16, v17, v19, v21, v23, rfl, hv18, hv20, hv22, hv24, rfl⟩
 refine Seg.op (OpT.assign rfl) rfl <| Seg.nilT <| Wp.seq ?_
 obtain ⟨x25, hx26, hd⟩ := bnd_some hd
 refine Wp.region <| Seg.op (OpT.move rfl) rfl <| Seg.opS (OpS.call ent26 rfl (Tri.at 0 rfl (au_table_refine_w hv18 hv20 hv22 hv24 (hG.mono hl15) hx26))) rfl ?_
 rintro _ H27 _ hl28 ⟨_, ⟨v29, v31, v33, v35, rfl, hv30, hv32, hv34, hv36, rfl⟩, rfl⟩
 refine Seg.nilT <| Wp.seq ?_
 obtain ⟨x37, hx38, hd⟩ := bnd_some hd
 refine Wp.region <| Seg.op (OpT.move rfl) rfl <| Seg.opS (OpS.call ent27 rfl (Tri.atR 0 rfl (au_table_canonical_w hv30 hv32 hv34 hv36 hx38))) rfl ?_
 rintro _ H39 _ hl40 ⟨⟨v41, rfl, hv42⟩, rfl⟩
 refine Seg.stBlkW (i := 1) (cs' := #[v41]) rfl rfl ti26 rfl rfl (onesA (ones_cons hv42.one (ones_nil))) rfl ?_
 refine Seg.own (O := .blk B16 (.cells #[v29, v31, v33, v35] 71 (0, 0)) :: .blk B3 (.cells #[v41] 26 (0, 0)) :: O) ?_ rfl
 refine Seg.op (OpT.assign rfl) rfl <| Seg.nilT <| Wp.ret ?_
 obtain rfl := Option.some.inj hd
 exact At.res2 rfl (RV.cellA (i := 1) rfl Tryd.underlying26 rfl ti26 rfl rfl) (RV.tmp (v := (.int .i64 0)) rfl) (fun w hs => ⟨_, _, _, rfl, ((hl15.trans hl28).trans hl40), (hs.dropN 2), ⟨⟨v41, rfl, hv42⟩, rfl⟩⟩)

set_option maxRecDepth 100000 in
set_option maxHeartbeats 4000000 in
theorem au_Valid_w {fu : Nat} {a0 : List (Bool × (List (Int × Int × Int)))} {v1 : Value} {r : Bool} (hv2 : SlD (cP cB (cL (cP cU8 (cP cU8 cI64)))) H a0 v1) (hG : LaidH Tryd.prog H) (hd : au_Valid fu a0 = some r) :
    TriV Tryd.prog 14 [(.agg #[v1])] H O (.bool r) := by
 intro w hs
 refine wp_of Tryd.func14 rfl rfl rfl ?_ hs
 clear hs w
 unfold au_Valid at hd
 refine Wp.sr <| Seg.box (cs := #[v1]) rfl rfl rfl fun B3 => Seg.op (OpT.assign rfl) rfl <| Seg.nilT <| Wp.seq ?_
 obtain ⟨x4, hx5, hd⟩ := bnd_some hd
 refine Wp.region <| Seg.op (OpT.fld (o' := 0) fl26_0 rfl rfl) rfl <| Seg.op (OpT.ldBlk (i := 0) (v := v1) Tryd.underlying22 rfl rfl rfl rfl) rfl <| Seg.opS (OpS.call ent16 rfl (au_Minimal_w hv2 hG hx5)) rfl ?_
 rintro _ H6 _ hl7 ⟨⟨v8, rfl, hv9⟩, rfl⟩
 refine Seg.op (OpT.move rfl) rfl <| Seg.op (OpT.extract rfl rfl) rfl <| Seg.op (OpT.extract rfl rfl) rfl <| Seg.alloc (cs := #[(.slice none 0 0)]) ti26 rfl rfl fun B10 => Seg.stBlkW (i := 0) (cs' := #[v8]) rfl rfl ti26 rfl rfl (onesA (ones_cons hv9.one (ones_nil))) rfl ?_
 refine Seg.own (O := .blk B10 (.cells #[v8] 26 (0, 0)) :: .blk B3 (.cells #[v1] 26 (0, 0)) :: O) ?_ rfl
 refine Seg.op (OpT.assign rfl) rfl <| Seg.nilT <| Wp.seq ?_
 rcases Bool.eq_false_or_eq_true (decide (x4.2 = 0)) with hg12 | hg12
 ·
  replace hd := brT hg12 hd
  have hg12_ := of_decide_eq_true hg12
  obtain ⟨x13, hx14, hd⟩ := bnd_some hd
  refine Wp.region <| Seg.op (OpT.move rfl) rfl <| Seg.op (OpT.asB (b := decide (x4.2 = 0)) (c := true) (OpT.eql rfl rfl) hg12) rfl <| Seg.op (OpT.move rfl) rfl <| Seg.opG rfl rfl (OpT.ldBlkW (i := 1) Tryd.underlying26 rfl ti26 rfl rfl rfl) rfl <| Seg.opG rfl rfl (OpT.ldBlkW (i := 0) Tryd.underlying26 rfl ti26 rfl rfl rfl) rfl <| Seg.opG rfl rfl (OpT.call ent10 rfl (au_Same_w (hv2.mono hl7) hv9 hx14)) rfl <| Seg.op (OpT.pickT rfl rfl) rfl ?_
  refine Seg.op (OpT.assign rfl) rfl <| Seg.nilT <| Wp.ret ?_
  obtain rfl := Option.some.inj hd
  exact At.res1 rfl (RV.tmp (v := (.bool x13)) rfl) (fun w hs => ⟨rfl, (hs.dropN 2).weaken hl7⟩)
 replace hd := brF hg12 hd
 have hg12_ := of_decide_eq_false hg12
 refine Wp.region <| Seg.op (OpT.move rfl) rfl <| Seg.op (OpT.asB (b := decide (x4.2 = 0)) (c := false) (OpT.eql rfl rfl) hg12) rfl <| Seg.op (OpT.move rfl) rfl <| Seg.skipG rfl rfl rfl rfl <| Seg.skipG rfl rfl rfl rfl <| Seg.skipG rfl rfl rfl rfl <| Seg.op (OpT.pickF rfl rfl) rfl ?_
 refine Seg.op (OpT.assign rfl) rfl <| Seg.nilT <| Wp.ret ?_
 obtain rfl := Option.some.inj hd
 exact At.res1 rfl (RV.tmp (v := (.bool false)) rfl) (fun w hs => ⟨rfl, (hs.dropN 2).weaken hl7⟩)

set_option maxRecDepth 100000 in
set_option maxHeartbeats 4000000 in
theorem au_net_sets_w {fu : Nat} {a0 : (List (List Int)) × (List (List (BSet × Int × Int))) × Int} {v1 v3 : Value} {B0 : Nat} {r : List BSet} (hv2 : SlD (cL cI64) H a0.1 v1) (hv4 : SlD (cL (cP cBs (cP cI64 cI64))) H a0.2.1 v3) (hd : au_net_sets fu a0 = some r) :
    Tri Tryd.prog 39 [(ptr B0 0)] H (.blk B0 (.cells #[v1, v3, (.int .i64 a0.2.2)] 62 (0, 0)) :: O) (fun v H' O' => (∃ v204 : Value, v204 = v ∧ SlD cBs H' r v204) ∧ .blk B0 (.cells #[v1, v3, (.int .i64 a0.2.2)] 62 (0, 0)) :: O = O') := by
 intro w hs
 refine wp_of Tryd.func39 rfl rfl rfl ?_ hs
 clear hs w
 unfold au_net_sets at hd
 refine Wp.sr <| Seg.op (OpT.assign rfl) rfl <| Seg.nilT <| Wp.sr <| Seg.op (OpT.assign rfl) rfl <| Seg.nilT <| Wp.seq <| Wp.sr ?_
 refine Seg.op (OpT.move rfl) rfl <| Seg.op (OpT.nilCheck rfl) rfl <| Seg.op (OpT.fld (o' := 1) fl62_1 rfl rfl) rfl <| Seg.op (OpT.ldBlk (i := 0) (v := v3) Tryd.underlying60 rfl rfl rfl rfl) rfl ?_
 have hb7 := hv4.le
 refine Seg.op (OpT.len Tryd.underlying60 rfl hv4.sl) rfl <| Seg.op (OpT.move rfl) rfl <| Seg.nilT <| Wp.block <| Wp.nilRow 43 4 <| Wp.sub (L' := [(3, (.slice none 0 0)), (11, v3), (12, (.int .i64 (a0.2.1.length:Int))), (13, (.int .i64 ((0 : Nat) : Int)))]) (.cons rfl (.cons rfl (.cons rfl (.cons (lk_int rfl (by omega)) (.nil))))) <| Wp.loopE (fun m LL HH OO => ∃ (l123 : List BSet), ∃ (k127 : Nat), ∃ (v124 : Value), ∃ (xs125 : List Value), [(3, v124), (11, v3), (12, (.int .i64 (a0.2.1.length:Int))), (13, (.int .i64 (k127:Int)))] = LL ∧ .row v124 43 4 l123.length xs125 :: .blk B0 (.cells #[v1, v3, (.int .i64 a0.2.2)] 62 (0, 0)) :: O = OO ∧ loopK m (fun p nx => au_net_sets_b1 fu a0 p.1 p.2 nx) (l123, k127) = some r ∧ LayL cBs HH l123 xs125) fu ⟨([] : List BSet), 0, (.slice none 0 0), [], rfl, rfl, hd, (LayL.nil (c := cBs) (H := H))⟩ ?_
 intro m129 L133 H131 O134 hl132 hI128
 obtain ⟨l123, k127, v124, xs125, rfl, rfl, hd, hq126⟩ := hI128
 replace hd := loopK_some hd; obtain ⟨m130, rfl, hd⟩ := hd
 obtain ⟨nx122, hn135⟩ : ∃ f, f = loopK m130 (fun p nx => au_net_sets_b1 fu a0 p.1 p.2 nx) := ⟨_, rfl⟩
 rw [← hn135] at hd
 replace hd : au_net_sets_b1 fu a0 l123 k127 nx122 = some r := hd
 unfold au_net_sets_b1 at hd
 refine Wp.sr <| Seg.op (OpT.lss rfl rfl) rfl <| Seg.nilT <| Wp.seq ?_
 refine Wp.cond (b := decide ((k127:Int) < (a0.2.1.length:Int))) rfl (fun hb136 => ?_) (fun hb136 => ?_)
 ·
  replace hd := brT hb136 hd
  replace hb136 := of_decide_eq_true hb136
  refine Wp.skip <| At.then_n <| Wp.seq <| Wp.block <| Wp.seq ?_
  obtain ⟨x137, hx138, hd⟩ := bnd_some hd
  have hx138_ := idx_bd hx138
  refine Wp.region ?_
  obtain ⟨_, ⟨v140, rfl, hv141⟩, hc139⟩ := SlD.get (hv4.mono hl132) hx138
  refine Seg.op (OpT.ixSl Tryd.underlying60 ti79 rfl (hv4.mono hl132).sl rfl (idx_bd hx138)) rfl <| Seg.op (OpT.ldH Tryd.underlying79 rfl rfl (hc139 0 _ rfl)) rfl <| Seg.op (OpT.assign rfl) rfl <| Seg.nilT <| Wp.sr <| Seg.op (OpT.move rfl) rfl ?_
  have hb142 := hv141.le
  refine Seg.op (OpT.len Tryd.underlying79 rfl hv141.sl) rfl <| Seg.op (OpT.move rfl) rfl <| Seg.nilT <| Wp.block <| Wp.sub (L' := [(3, v124), (11, v3), (12, (.int .i64 (a0.2.1.length:Int))), (13, (.int .i64 (k127:Int))), (17, v140), (18, (.int .i64 (x137.length:Int))), (19, (.int .i64 ((0 : Nat) : Int)))]) (.cons rfl (.cons rfl (.cons rfl (.cons rfl (.cons rfl (.cons rfl (.cons (lk_int rfl (by omega)) (.nil)))))))) <| Wp.loopE (fun m LL HH OO => ∃ (l174 : List BSet), ∃ (k178 : Nat), ∃ (v175 : Value), ∃ (xs176 : List Value), [(3, v175), (11, v3), (12, (.int .i64 (a0.2.1.length:Int))), (13, (.int .i64 (k127:Int))), (17, v140), (18, (.int .i64 (x137.length:Int))), (19, (.int .i64 (k178:Int)))] = LL ∧ .row v175 43 4 l174.length xs176 :: .blk B0 (.cells #[v1, v3, (.int .i64 a0.2.2)] 62 (0, 0)) :: O = OO ∧ loopK m (fun p nx => au_net_sets_b2 fu k127 nx122 x137 p.1 p.2 nx) (l174, k178) = some r ∧ LayL cBs HH l174 xs176) fu ⟨l123, 0, v124, xs125, rfl, rfl, hd, hq126⟩ ?_
  intro m180 L184 H182 O185 hl183 hI179
  obtain ⟨l174, k178, v175, xs176, rfl, rfl, hd, hq177⟩ := hI179
  replace hd := loopK_some hd; obtain ⟨m181, rfl, hd⟩ := hd
  obtain ⟨nx173, hn186⟩ : ∃ f, f = loopK m181 (fun p nx => au_net_sets_b2 fu k127 nx122 x137 p.1 p.2 nx) := ⟨_, rfl⟩
  rw [← hn186] at hd
  replace hd : au_net_sets_b2 fu k127 nx122 x137 l174 k178 nx173 = some r := hd
  unfold au_net_sets_b2 at hd
  refine Wp.sr <| Seg.op (OpT.lss rfl rfl) rfl <| Seg.nilT <| Wp.seq ?_
  refine Wp.cond (b := decide ((k178:Int) < (x137.length:Int))) rfl (fun hb187 => ?_) (fun hb187 => ?_)
  ·
   replace hd := brT hb187 hd
   replace hb187 := of_decide_eq_true hb187
   refine Wp.skip <| At.then_n <| Wp.seq <| Wp.block <| Wp.seq ?_
   obtain ⟨x188, hx189, hd⟩ := bnd_some hd
   have hx189_ := idx_bd hx189
   refine Wp.region ?_
   obtain ⟨_, ⟨_, _, rfl, rfl, ⟨_, _, rfl, rfl, rfl⟩⟩, hc190⟩ := SlD.get (hv141.mono hl183) hx189
   refine Seg.op (OpT.ixSl Tryd.underlying79 ti81 rfl (hv141.mono hl183).sl rfl (idx_bd hx189)) rfl <| Seg.op (OpT.ldHA (vs := [(w64 (word x188.1 0)), (w64 (word x188.1 1)), (w64 (word x188.1 2)), (w64 (word x188.1 3)), (.int .i64 x188.2.1), (.int .i64 x188.2.2)]) Tryd.underlying81 rfl ti81 rfl rfl (fun j u hj => (hc190 j u hj))) rfl <| Seg.alloc (cs := #[(w64 (word (fun _ => false) 0)), (w64 (word (fun _ => false) 1)), (w64 (word (fun _ => false) 2)), (w64 (word (fun _ => false) 3)), (.int .i64 0), (.int .i64 0)]) ti81 (by simp only [zw]; rfl) rfl fun B191 => Seg.stBlkW (i := 0) (cs' := #[(w64 (word x188.1 0)), (w64 (word x188.1 1)), (w64 (word x188.1 2)), (w64 (word x188.1 3)), (.int .i64 x188.2.1), (.int .i64 x188.2.2)]) rfl rfl ti81 rfl rfl (onesA (ones_cons rfl (ones_cons rfl (ones_cons rfl (ones_cons rfl (ones_cons rfl (ones_cons rfl (ones_nil)))))))) rfl ?_
   refine Seg.own (O := .blk B191 (.cells #[(w64 (word x188.1 0)), (w64 (word x188.1 1)), (w64 (word x188.1 2)), (w64 (word x188.1 3)), (.int .i64 x188.2.1), (.int .i64 x188.2.2)] 81 (0, 0)) :: .row v175 43 4 l174.length xs176 :: .blk B0 (.cells #[v1, v3, (.int .i64 a0.2.2)] 62 (0, 0)) :: O) ?_ rfl
   refine Seg.nilT ?_
   replace hd := chk_some hd; obtain ⟨ha195, hd⟩ := hd
   refine Wp.region <| Seg.op (OpT.move rfl) rfl <| Seg.op (OpT.fld (o' := 0) fl81_0 rfl rfl) rfl <| Seg.op (OpT.ldBlkX (i := 0) (vs := [(w64 (word x188.1 0)), (w64 (word x188.1 1)), (w64 (word x188.1 2)), (w64 (word x188.1 3))]) Tryd.underlying43 rfl ti43 rfl rfl rfl) rfl <| Seg.buildD1 (c := cBs) (y := x188.1) (cs := [(w64 (word x188.1 0)), (w64 (word x188.1 1)), (w64 (word x188.1 2)), (w64 (word x188.1 3))]) Tryd.underlying82 ti43 rfl rfl rfl rfl (rfl) rfl fun v192 xs193 hq194 => Seg.appD (i := 2) (j := 0) hq177 hq194 Tryd.underlying82 ti43 rfl (by decide) rfl rfl rfl rfl (by decide) ha195 rfl fun v196 xs197 hq198 => Seg.drop (i := 0) <| Seg.op (OpT.assign rfl) rfl ?_
   refine Seg.nil <| At.blk_n <| At.then_n <| Wp.region <| Seg.op (OpT.add rfl rfl (fits64 (by omega))) rfl <| Seg.op (OpT.move rfl) rfl <| Seg.nil <| At.permK [1, 2] 3 rfl rfl rfl ?_
   refine At.nextE (L' := [(3, v196), (11, v3), (12, (.int .i64 (a0.2.1.length:Int))), (13, (.int .i64 (k127:Int))), (17, v140), (18, (.int .i64 (x137.length:Int))), (19, (.int .i64 ((k178 + 1 : Nat) : Int)))]) m181 (Nat.lt_succ_self _) (Hp.le.refl _) (.cons rfl (.cons rfl (.cons rfl (.cons rfl (.cons rfl (.cons rfl (.cons (lk_int rfl (by omega)) (.nil)))))))) ⟨(l174 ++ ([x188.1] : List BSet)), (k178 + 1), v196, xs197, rfl, rfl, (by rw [← hn186]; exact hd), hq198⟩
  replace hd := brF hb187 hd
  replace hb187 := of_decide_eq_false hb187
  refine Wp.exit <| At.then_x <| At.then_x <| At.blk_hit <| At.blk_n <| At.then_n <| Wp.region <| Seg.op (OpT.add rfl rfl (fits64 (by omega))) rfl ?_
  refine Seg.op (OpT.move rfl) rfl <| Seg.nil ?_
  refine At.nextE (L' := [(3, v175), (11, v3), (12, (.int .i64 (a0.2.1.length:Int))), (13, (.int .i64 ((k127 + 1 : Nat) : Int)))]) m130 (Nat.lt_succ_self _) hl183 (.cons rfl (.cons rfl (.cons rfl (.cons (lk_int rfl (by omega)) (.nil))))) ⟨l174, (k127 + 1), v175, xs176, rfl, rfl, (by rw [← hn135]; exact hd), hq177⟩
 replace hd := brF hb136 hd
 replace hb136 := of_decide_eq_false hb136
 refine Wp.exit <| At.then_x <| At.then_x <| At.blk_hit <| At.then_n <| Wp.sr <| Seg.op (OpT.move rfl) rfl <| Seg.op (OpT.assign rfl) rfl ?_
 refine Seg.nilT <| Wp.ret ?_
 refine At.rowLe (i := 0) rfl fun hb199 => ?_
 refine At.freeze (i := 0) rfl fun H202 hl203 hs200 => ?_
 have hv201 := SlD.of (c := cBs) hs200 rfl (hq126.mono hl203) hb199
 obtain rfl := Option.some.inj hd
 exact At.res1 rfl (RV.tmp (v := v124) rfl) (fun w hs => ⟨_, _, _, rfl, (hl132.trans hl203), (hs.permK [0] 1 rfl rfl rfl), ⟨⟨v124, rfl, hv201⟩, rfl⟩⟩)

set_option maxRecDepth 100000 in
set_option maxHeartbeats 4000000 in
theorem au_net_closure_w {fu : Nat} {a0 : (List (List Int)) × (List (List (BSet × Int × Int))) × Int} {a1 : List Int} {v1 v3 v5 : Value} {xs6 : List Value} {B0 : Nat} {r : List Int} (hv2 : SlD (cL cI64) H a0.1 v1) (hv4 : SlD (cL (cP cBs (cP cI64 cI64))) H a0.2.1 v3) (hq7 : LayL cI64 H a1 xs6) (hd : au_net_closure fu a0 a1 = some r) :
    Tri Tryd.prog 40 [(ptr B0 0), v5] H (.blk B0 (.cells #[v1, v3, (.int .i64 a0.2.2)] 62 (0, 0)) :: .row v5 3 1 a1.length xs6 :: O) (fun v H' O' => (∃ v196 : Value, v196 = v ∧ SlD cI64 H' r v196) ∧ .blk B0 (.cells #[v1, v3, (.int .i64 a0.2.2)] 62 (0, 0)) :: O = O') := by
 intro w hs
 refine wp_of Tryd.func40 rfl rfl rfl ?_ hs
 clear hs w
 unfold au_net_closure at hd
 refine Wp.sr <| Seg.op (OpT.assign rfl) rfl <| Seg.nilT <| Wp.seq ?_
 replace hd := chk_some hd; obtain ⟨ha13, hd⟩ := hd
 refine Wp.region <| Seg.op (OpT.move rfl) rfl <| Seg.op (OpT.nilCheck rfl) rfl <| Seg.op (OpT.fld (o' := 1) fl62_1 rfl rfl) rfl <| Seg.op (OpT.ldBlk (i := 0) (v := v3) Tryd.underlying60 rfl rfl rfl rfl) rfl ?_
 have hb9 := hv4.le
 refine Seg.op (OpT.len Tryd.underlying60 rfl hv4.sl) rfl <| Seg.makeD (c := cB) (z := false) (m := a0.2.1.length) Tryd.underlying69 ti4 rfl rfl ha13 (rfl) rfl rfl rfl fun v10 xs11 hq12 => Seg.op (OpT.assign rfl) rfl <| Seg.nilT <| Wp.seq <| Wp.block <| Wp.sub (L' := [(0, (ptr B0 0)), (1, v5), (5, v10)]) (.cons rfl (.cons rfl (.cons rfl (.nil)))) <| Wp.loopE (fun m LL HH OO => ∃ (l85 : List Int), ∃ (l89 : List Bool), ∃ (v86 : Value), ∃ (xs87 : List Value), ∃ (v90 : Value), ∃ (xs91 : List Value), [(0, (ptr B0 0)), (1, v86), (5, v90)] = LL ∧ .row v90 4 1 l89.length xs91 :: .blk B0 (.cells #[v1, v3, (.int .i64 a0.2.2)] 62 (0, 0)) :: .row v86 3 1 l85.length xs87 :: O = OO ∧ loopK m (fun p nx => au_net_closure_b1 fu a0 p.1 p.2 nx) (l85, l89) = some r ∧ LayL cI64 HH l85 xs87 ∧ LayL cB HH l89 xs91) fu ⟨a1, (List.replicate a0.2.1.length false : List Bool), v5, xs6, v10, xs11, rfl, rfl, hd, hq7, hq12⟩ ?_
 intro m94 L98 H96 O99 hl97 hI93
 obtain ⟨l85, l89, v86, xs87, v90, xs91, rfl, rfl, hd, hq88, hq92⟩ := hI93
 replace hd := loopK_some hd; obtain ⟨m95, rfl, hd⟩ := hd
 obtain ⟨nx84, hn100⟩ : ∃ f, f = loopK m95 (fun p nx => au_net_closure_b1 fu a0 p.1 p.2 nx) := ⟨_, rfl⟩
 rw [← hn100] at hd
 replace hd : au_net_closure_b1 fu a0 l85 l89 nx84 = some r := hd
 unfold au_net_closure_b1 at hd
 refine Wp.seq <| Wp.sr <| Seg.op (OpT.move rfl) rfl ?_
 refine Seg.rowLe (i := 2) rfl fun hb101 => ?_
 refine Seg.op (OpT.lenRow (i := 2) Tryd.underlying67 rfl rfl) rfl <| Seg.op (OpT.gtr rfl rfl) rfl <| Seg.nilT ?_
 refine Wp.cond (b := decide (0 < (l85.length:Int))) rfl (fun hb102 => ?_) (fun hb102 => ?_)
 ·
  replace hd := brT hb102 hd
  replace hb102 := of_decide_eq_true hb102
  refine Wp.skip <| At.then_n <| Wp.block <| Wp.seq ?_
  replace hd := chk_some hd; obtain ⟨ha104, hd⟩ := hd
  obtain ⟨x105, hx106, hd⟩ := bnd_some hd
  have hx106_ := idx_bd hx106
  refine Wp.region <| Seg.op (OpT.move rfl) rfl <| Seg.op (OpT.move rfl) rfl ?_
  refine Seg.rowLe (i := 2) rfl fun hb103 => ?_
  refine Seg.op (OpT.lenRow (i := 2) Tryd.underlying67 rfl rfl) rfl <| Seg.op (OpT.sub rfl rfl (fits64 ha104)) rfl ?_
  obtain ⟨_, rfl, hc107, hc107_⟩ := LayL.get hq88 (idx_some hx106).2
  refine Seg.op (OpT.ixRow (j := 2) Tryd.underlying67 ti3 rfl rfl rfl (idx_bd hx106)) rfl <| Seg.op (OpT.ldRow (i := 2) (k := (((l85.length:Int) - 1).toNat) * 1 + 0) Tryd.underlying3 rfl rfl rfl (hc107 0 _ rfl)) rfl <| Seg.op (OpT.assign rfl) rfl <| Seg.nilT <| Wp.seq ?_
  replace hd := chk_some hd; obtain ⟨ha109, hd⟩ := hd
  replace hd := chk_some hd; obtain ⟨ha110, hd⟩ := hd
  refine Wp.region <| Seg.op (OpT.move rfl) rfl <| Seg.op (OpT.move rfl) rfl ?_
  refine Seg.rowLe (i := 2) rfl fun hb108 => ?_
  refine Seg.op (OpT.lenRow (i := 2) Tryd.underlying67 rfl rfl) rfl <| Seg.op (OpT.sub rfl rfl (fits64 ha109)) rfl <| Seg.sliceR (c := cI64) 2 hq88 Tryd.underlying67 ti3 rfl rfl rfl ha110 rfl fun v111 xs112 hq113 => Seg.op (OpT.assign rfl) rfl <| Seg.nilT <| Wp.seq ?_
  obtain ⟨x114, hx115, hd⟩ := bnd_some hd
  have hx115_ := idx_bd hx115
  refine Wp.region <| Seg.op (OpT.move rfl) rfl <| Seg.op (OpT.move rfl) rfl ?_
  obtain ⟨_, rfl, hc116, hc116_⟩ := LayL.get hq92 (idx_some hx115).2
  refine Seg.op (OpT.ixRow (j := 0) Tryd.underlying69 ti4 rfl rfl rfl (idx_bd hx115)) rfl <| Seg.op (OpT.ldRow (i := 0) (k := x105.toNat * 1 + 0) Tryd.underlying4 rfl rfl rfl (hc116 0 _ rfl)) rfl <| Seg.op (OpT.not rfl) rfl <| Seg.nilT ?_
  refine Wp.cond (b := !x114) rfl (fun hb117 => ?_) (fun hb117 => ?_)
  ·
   replace hd := brT hb117 hd
   refine Wp.seq ?_
   obtain ⟨x118, hx119, hd⟩ := bnd_some hd
   have hx119_ := idx_bd hx119
   refine Wp.region <| Seg.op (OpT.move rfl) rfl <| Seg.op (OpT.move rfl) rfl ?_
   obtain ⟨_, rfl, hc120, hc120_⟩ := LayL.get hq92 (idx_some hx119).2
   refine Seg.op (OpT.ixRow (j := 0) Tryd.underlying69 ti4 rfl rfl rfl (idx_bd hx119)) rfl ?_
   refine Seg.stD (q := 0) (off := 0) (vs := [(.bool true)]) (y := true) (cs := [(.bool x118)]) hq92 hx119 hc120_ rfl rfl rfl ti4 rfl rfl (ones_cons rfl (ones_nil)) rfl (rfl) rfl (fun xs121 hq122 => ?_)
   refine Seg.nilT ?_
   obtain ⟨x123, hx124, hd⟩ := bnd_some hd
   have hx124_ := idx_bd hx124
   replace hd := chk_some hd; obtain ⟨ha128, hd⟩ := hd
   refine Wp.region <| Seg.op (OpT.move rfl) rfl <| Seg.op (OpT.move rfl) rfl <| Seg.op (OpT.nilCheck rfl) rfl <| Seg.op (OpT.fld (o' := 0) fl62_0 rfl rfl) rfl <| Seg.op (OpT.ldBlk (i := 1) (v := v1) Tryd.underlying59 rfl rfl rfl rfl) rfl <| Seg.op (OpT.move rfl) rfl ?_
   obtain ⟨_, ⟨v126, rfl, hv127⟩, hc125⟩ := SlD.get (hv2.mono hl97) hx124
   refine Seg.op (OpT.ixSl Tryd.underlying59 ti67 rfl (hv2.mono hl97).sl rfl (idx_bd hx124)) rfl <| Seg.op (OpT.ldH Tryd.underlying67 rfl rfl (hc125 0 _ rfl)) rfl <| Seg.appF (i := 2) hq113 hv127 Tryd.underlying67 ti3 rfl (by decide) rfl rfl rfl (by decide) ha128 rfl fun v129 xs130 hq131 => Seg.op (OpT.assign rfl) rfl <| Seg.nil <| At.blk_n ?_
   refine At.nextE (L' := [(0, (ptr B0 0)), (1, v129), (5, v90)]) m95 (Nat.lt_succ_self _) (Hp.le.refl _) (.cons rfl (.cons rfl (.cons rfl (.nil)))) ⟨((l85.take ((l85.length:Int) - 1).toNat) ++ x123), (l89.set x105.toNat true), v129, xs130, v90, xs121, rfl, rfl, (by rw [← hn100]; exact hd), hq131, hq122⟩
  replace hd := brF hb117 hd
  refine Wp.skip <| At.blk_n ?_
  refine At.nextE (L' := [(0, (ptr B0 0)), (1, v111), (5, v90)]) m95 (Nat.lt_succ_self _) (Hp.le.refl _) (.cons rfl (.cons rfl (.cons rfl (.nil)))) ⟨(l85.take ((l85.length:Int) - 1).toNat), l89, v111, xs112, v90, xs91, rfl, rfl, (by rw [← hn100]; exact hd), hq113, hq92⟩
 replace hd := brF hb102 hd
 replace hb102 := of_decide_eq_false hb102
 refine Wp.exit <| At.then_x <| At.then_x <| At.blk_hit <| At.then_n <| Wp.sr <| Seg.op (OpT.assign rfl) rfl <| Seg.nilT ?_
 refine Wp.seq <| Wp.sr <| Seg.op (OpT.move rfl) rfl ?_
 refine Seg.rowLe (i := 0) rfl fun hb133 => ?_
 refine Seg.op (OpT.lenRow (i := 0) Tryd.underlying69 rfl rfl) rfl <| Seg.op (OpT.move rfl) rfl <| Seg.nilT <| Wp.block <| Wp.nilRow 3 1 <| Wp.sub (L' := [(7, (.slice none 0 0)), (47, v90), (48, (.int .i64 (l89.length:Int))), (49, (.int .i64 ((0 : Nat) : Int)))]) (.cons rfl (.cons rfl (.cons rfl (.cons (lk_int rfl (by omega)) (.nil))))) <| Wp.loopE (fun m LL HH OO => ∃ (l166 : List Int), ∃ (k170 : Nat), ∃ (v167 : Value), ∃ (xs168 : List Value), [(7, v167), (47, v90), (48, (.int .i64 (l89.length:Int))), (49, (.int .i64 (k170:Int)))] = LL ∧ .row v167 3 1 l166.length xs168 :: .row v90 4 1 l89.length xs91 :: .blk B0 (.cells #[v1, v3, (.int .i64 a0.2.2)] 62 (0, 0)) :: .row v86 3 1 l85.length xs87 :: O = OO ∧ loopK m (fun p nx => au_net_closure_b2 fu l89 p.1 p.2 nx) (l166, k170) = some r ∧ LayL cI64 HH l166 xs168) fu ⟨([] : List Int), 0, (.slice none 0 0), [], rfl, rfl, hd, (LayL.nil (c := cI64) (H := H96))⟩ ?_
 intro m172 L176 H174 O177 hl175 hI171
 obtain ⟨l166, k170, v167, xs168, rfl, rfl, hd, hq169⟩ := hI171
 replace hd := loopK_some hd; obtain ⟨m173, rfl, hd⟩ := hd
 obtain ⟨nx165, hn178⟩ : ∃ f, f = loopK m173 (fun p nx => au_net_closure_b2 fu l89 p.1 p.2 nx) := ⟨_, rfl⟩
 rw [← hn178] at hd
 replace hd : au_net_closure_b2 fu l89 l166 k170 nx165 = some r := hd
 unfold au_net_closure_b2 at hd
 refine Wp.sr <| Seg.op (OpT.lss rfl rfl) rfl <| Seg.nilT <| Wp.seq ?_
 refine Wp.cond (b := decide ((k170:Int) < (l89.length:Int))) rfl (fun hb179 => ?_) (fun hb179 => ?_)
 ·
  replace hd := brT hb179 hd
  replace hb179 := of_decide_eq_true hb179
  refine Wp.skip <| At.then_n <| Wp.seq <| Wp.block <| Wp.seq ?_
  obtain ⟨x180, hx181, hd⟩ := bnd_some hd
  have hx181_ := idx_bd hx181
  refine Wp.region <| Seg.op (OpT.move rfl) rfl ?_
  obtain ⟨_, rfl, hc182, hc182_⟩ := LayL.get (hq92.mono hl175) (idx_some hx181).2
  refine Seg.op (OpT.ixRow (j := 1) Tryd.underlying69 ti4 rfl rfl rfl (idx_bd hx181)) rfl <| Seg.op (OpT.ldRow (i := 1) (k := k170 * 1 + 0) Tryd.underlying4 rfl rfl rfl (hc182 0 _ rfl)) rfl <| Seg.op (OpT.assign rfl) rfl <| Seg.op (OpT.assign rfl) rfl <| Seg.nilT <| Wp.sr <| Seg.op (OpT.move rfl) rfl <| Seg.nilT ?_
  refine Wp.cond (b := x180) rfl (fun hb183 => ?_) (fun hb183 => ?_)
  ·
   replace hd := brT hb183 hd
   replace hd := chk_some hd; obtain ⟨ha187, hd⟩ := hd
   refine Wp.region <| Seg.op (OpT.move rfl) rfl <| Seg.op (OpT.move rfl) rfl <| Seg.buildD1 (c := cI64) (y := (k170:Int)) (cs := [(.int .i64 (k170:Int))]) Tryd.underlying67 ti3 rfl rfl rfl rfl (rfl) rfl fun v184 xs185 hq186 => Seg.appD (i := 1) (j := 0) hq169 hq186 Tryd.underlying67 ti3 rfl (by decide) rfl rfl rfl rfl (by decide) ha187 rfl fun v188 xs189 hq190 => Seg.drop (i := 0) <| Seg.op (OpT.assign rfl) rfl <| Seg.nil ?_
   refine At.blk_n <| At.then_n <| Wp.region <| Seg.op (OpT.add rfl rfl (fits64 (by omega))) rfl <| Seg.op (OpT.move rfl) rfl <| Seg.nil ?_
   refine At.nextE (L' := [(7, v188), (47, v90), (48, (.int .i64 (l89.length:Int))), (49, (.int .i64 ((k170 + 1 : Nat) : Int)))]) m173 (Nat.lt_succ_self _) (Hp.le.refl _) (.cons rfl (.cons rfl (.cons rfl (.cons (lk_int rfl (by omega)) (.nil))))) ⟨(l166 ++ ([(k170:Int)] : List Int)), (k170 + 1), v188, xs189, rfl, rfl, (by rw [← hn178]; exact hd), hq190⟩
  replace hd := brF hb183 hd
  refine Wp.skip <| At.blk_n <| At.then_n <| Wp.region <| Seg.op (OpT.add rfl rfl (fits64 (by omega))) rfl <| Seg.op (OpT.move rfl) rfl <| Seg.nil ?_
  refine At.nextE (L' := [(7, v167), (47, v90), (48, (.int .i64 (l89.length:Int))), (49, (.int .i64 ((k170 + 1 : Nat) : Int)))]) m173 (Nat.lt_succ_self _) (Hp.le.refl _) (.cons rfl (.cons rfl (.cons rfl (.cons (lk_int rfl (by omega)) (.nil))))) ⟨l166, (k170 + 1), v167, xs168, rfl, rfl, (by rw [← hn178]; exact hd), hq169⟩
 replace hd := brF hb179 hd
 replace hb179 := of_decide_eq_false hb179
 refine Wp.exit <| At.then_x <| At.then_x <| At.blk_hit <| At.then_n <| Wp.sr <| Seg.op (OpT.move rfl) rfl <| Seg.op (OpT.assign rfl) rfl ?_
 refine Seg.nilT <| Wp.ret ?_
 refine At.rowLe (i := 0) rfl fun hb191 => ?_
 refine At.freeze (i := 0) rfl fun H194 hl195 hs192 => ?_
 have hv193 := SlD.of (c := cI64) hs192 rfl (hq169.mono hl195) hb191
 obtain rfl := Option.some.inj hd
 exact At.res1 rfl (RV.tmp (v := v167) rfl) (fun w hs => ⟨_, _, _, rfl, ((hl97.trans hl175).trans hl195), (hs.permK [1] 3 rfl rfl rfl), ⟨⟨v167, rfl, hv193⟩, rfl⟩⟩)
end Go.Proofs.YtjmbmodmepdmjaaDoor
