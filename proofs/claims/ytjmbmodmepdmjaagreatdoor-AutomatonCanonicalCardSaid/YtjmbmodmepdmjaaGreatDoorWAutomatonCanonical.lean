/- Walks, written by a program. -/
import Derived.Test.YtjmbmodmepdmjaaGreatDoorW1b
import Derived.Test.YtjmbmodmepdmjaaGreatDoorWStep
import Derived.Test.YtjmbmodmepdmjaaGreatDoorWSt5
import Derived.Test.YtjmbmodmepdmjaaGreatDoorDAutomatonCanonical
namespace Go.Proofs.YtjmbmodmepdmjaaGreatDoor
open Go.GK
variable {H : Hp} {O : List Res}

set_option maxRecDepth 100000 in
set_option maxHeartbeats 4000000 in
theorem w05_accepts_w {fu : Nat} {a0 : List (Bool × (List (Int × Int × Int)))} {a1 : Int} {v1 : Value} {r : Bool} (hv1 : SlD (cP cB (cL (cP cU8 (cP cU8 cI64)))) H a0 v1) (hd : w05_accepts fu a0 a1 = some r) :
    TriV Tryz.prog 47 [v1, (.int .i64 a1)] H O (.bool r) := by
 intro w hs
 refine wp_of Tryz.func47 rfl rfl rfl ?_ hs
 clear hs w
 unfold w05_accepts at hd
 refine Wp.sr <| Seg.op (OpT.assign rfl) rfl <| Seg.nilT <| Wp.seq ?_
 rcases Bool.eq_false_or_eq_true (decide (0 ≤ a1)) with hg1 | hg1
 ·
  replace hd := brT hg1 hd
  have hg1_ := of_decide_eq_true hg1
  obtain ⟨x1, hx1, hd⟩ := bnd_some hd
  have hx1_ := idx_bd hx1
  refine Wp.region <| Seg.op (OpT.move rfl) rfl <| Seg.op (OpT.asB (b := decide (0 ≤ a1)) (c := true) (OpT.geq rfl rfl) hg1) rfl <| Seg.op (OpT.move rfl) rfl <| Seg.opG rfl rfl (OpT.move rfl) rfl <| Seg.opG rfl rfl (OpT.move rfl) rfl ?_
  obtain ⟨_, ⟨_, _, rfl, rfl, ⟨v2, rfl, hv2⟩⟩, hc1⟩ := SlD.get hv1 hx1
  refine Seg.opG rfl rfl (OpT.ixSl u22 ti43 rfl hv1.sl rfl (idx_bd hx1)) rfl <| Seg.opG rfl rfl (OpT.fldE fl43_0 rfl hv1.sl (by omega)) rfl <| Seg.opG rfl rfl (OpT.ldH u4 rfl rfl (hc1 0 _ rfl)) rfl <| Seg.op (OpT.pickT rfl rfl) rfl <| Seg.op (OpT.assign rfl) rfl <| Seg.nilT <| Wp.ret ?_
  obtain rfl := Option.some.inj hd
  exact At.res1 rfl (RV.tmp (v := (.bool x1.1)) rfl) (fun w hs => ⟨rfl, (hs.dropN 0).weaken (Hp.le.refl _)⟩)
 replace hd := brF hg1 hd
 have hg1_ := of_decide_eq_false hg1
 refine Wp.region <| Seg.op (OpT.move rfl) rfl <| Seg.op (OpT.asB (b := decide (0 ≤ a1)) (c := false) (OpT.geq rfl rfl) hg1) rfl <| Seg.op (OpT.move rfl) rfl <| Seg.skipG rfl rfl rfl rfl <| Seg.skipG rfl rfl rfl rfl <| Seg.skipG rfl rfl rfl rfl <| Seg.skipG rfl rfl rfl rfl ?_
 refine Seg.skipG rfl rfl rfl rfl <| Seg.op (OpT.pickF rfl rfl) rfl <| Seg.op (OpT.assign rfl) rfl <| Seg.nilT <| Wp.ret ?_
 obtain rfl := Option.some.inj hd
 exact At.res1 rfl (RV.tmp (v := (.bool false)) rfl) (fun w hs => ⟨rfl, (hs.dropN 0).weaken (Hp.le.refl _)⟩)

set_option maxRecDepth 100000 in
set_option maxHeartbeats 4000000 in
theorem w05_equivalent_w {fu : Nat} {a0 : List (Bool × (List (Int × Int × Int)))} {a1 : List (Bool × (List (Int × Int × Int)))} {v1 v2 : Value} {r : Bool} (hv1 : SlD (cP cB (cL (cP cU8 (cP cU8 cI64)))) H a0 v1) (hv2 : SlD (cP cB (cL (cP cU8 (cP cU8 cI64)))) H a1 v2) (hd : w05_equivalent fu a0 a1 = some r) :
    TriV Tryz.prog 18 [v1, v2] H O (.bool r) := by
 intro w hs
 refine wp_of Tryz.func18 rfl rfl rfl ?_ hs
 clear hs w
 unfold w05_equivalent at hd
 refine Wp.sr <| Seg.op (OpT.assign rfl) rfl <| Seg.nilT <| Wp.sr <| Seg.op (OpT.buildA2 (vs := [(0, (.int .i64 0)), (1, (.int .i64 0))]) (cs := #[(.int .i64 0), (.int .i64 0)]) u80 ti80 ti3 rfl rfl (vc_cons rfl (vc_cons rfl (vc_nil))) rfl) rfl <| Seg.alloc (cs := #[(.int .i64 0), (.int .i64 0)]) ti80 rfl rfl fun B2 => Seg.stBlkW (i := 0) (cs' := #[(.int .i64 0), (.int .i64 0)]) rfl rfl ti80 rfl rfl (onesA (ones_cons rfl (ones_cons rfl (ones_nil)))) rfl ?_
 refine Seg.own (O := .blk B2 (.cells #[(.int .i64 0), (.int .i64 0)] 80 (0, 0)) :: O) ?_ rfl
 refine Seg.nilT <| Wp.seq <| Wp.sr <| Seg.op (OpT.move rfl) rfl ?_
 have hb1 := hv1.le
 refine Seg.op (OpT.len u22 rfl hv1.sl) rfl <| Seg.op (OpT.eql rfl rfl) rfl <| Seg.nilT ?_
 refine Wp.joinT (fun LL HH OO => ∃ (i8 : Int), [(0, v1), (1, v2), (5, (ptr B2 0))] = LL ∧ .blk B2 (.cells #[(.int .i64 i8), (.int .i64 0)] 80 (0, 0)) :: O = OO ∧ w05_equivalent_j1 fu a0 a1 i8 = some r) ?_ ?_
 ·
  refine Wp.cond (b := decide ((a0.length:Int) = 0)) rfl (fun hb2 => ?_) (fun hb2 => ?_)
  ·
   replace hd := brT hb2 hd
   replace hb2 := of_decide_eq_true hb2
   refine Wp.region <| Seg.op (OpT.ixArr (off' := 0) u80 ti3 rfl rfl (by decide) rfl) rfl <| Seg.stBlk1 (i := 0) rfl rfl rfl ti3 rfl (Nat.le_of_ble_eq_true rfl) ?_
   refine Seg.own (O := .blk B2 (.cells #[(.int .i64 (-1)), (.int .i64 0)] 80 (0, 0)) :: O) ?_ rfl
   refine Seg.nil ?_
   refine At.joinF (Hp.le.refl _) ⟨-1, rfl, rfl, hd⟩ (Sub.of rfl)
  replace hd := brF hb2 hd
  replace hb2 := of_decide_eq_false hb2
  refine Wp.skip ?_
  refine At.joinF (Hp.le.refl _) ⟨0, rfl, rfl, hd⟩ (Sub.of rfl)
 intro L1 H1 O1 hl1 hI1
 obtain ⟨i8, rfl, rfl, hd⟩ := hI1
 unfold w05_equivalent_j1 at hd
 refine Wp.seq <| Wp.sr <| Seg.op (OpT.move rfl) rfl ?_
 have hb3 := hv2.le
 refine Seg.op (OpT.len u22 rfl (hv2.mono hl1).sl) rfl <| Seg.op (OpT.eql rfl rfl) rfl <| Seg.nilT ?_
 refine Wp.joinT (fun LL HH OO => ∃ (i16 : Int), [(0, v1), (1, v2), (5, (ptr B2 0))] = LL ∧ .blk B2 (.cells #[(.int .i64 i8), (.int .i64 i16)] 80 (0, 0)) :: O = OO ∧ w05_equivalent_j2 fu a0 a1 i8 i16 = some r) ?_ ?_
 ·
  refine Wp.cond (b := decide ((a1.length:Int) = 0)) rfl (fun hb4 => ?_) (fun hb4 => ?_)
  ·
   replace hd := brT hb4 hd
   replace hb4 := of_decide_eq_true hb4
   refine Wp.region <| Seg.op (OpT.ixArr (off' := 1) u80 ti3 rfl rfl (by decide) rfl) rfl <| Seg.stBlk1 (i := 0) rfl rfl rfl ti3 rfl (Nat.le_of_ble_eq_true rfl) ?_
   refine Seg.own (O := .blk B2 (.cells #[(.int .i64 i8), (.int .i64 (-1))] 80 (0, 0)) :: O) ?_ rfl
   refine Seg.nil ?_
   refine At.joinF (Hp.le.refl _) ⟨-1, rfl, rfl, hd⟩ (Sub.of rfl)
  replace hd := brF hb4 hd
  replace hb4 := of_decide_eq_false hb4
  refine Wp.skip ?_
  refine At.joinF (Hp.le.refl _) ⟨0, rfl, rfl, hd⟩ (Sub.of rfl)
 intro L2 H2 O2 hl2 hI2
 obtain ⟨i16, rfl, rfl, hd⟩ := hI2
 unfold w05_equivalent_j2 at hd
 refine Wp.sr <| Seg.op (OpT.ldBlkW (i := 0) u80 rfl ti80 rfl rfl rfl) rfl <| Seg.buildD1 (c := (cP cI64 cI64)) (y := (i8, i16)) (cs := [(.int .i64 i8), (.int .i64 i16)]) u81 ti80 rfl rfl rfl rfl (⟨[(.int .i64 i8)], [(.int .i64 i16)], rfl, rfl, rfl⟩) rfl fun v3 xs1 hq1 => Seg.op (OpT.assign rfl) rfl <| Seg.nilT <| Wp.seq ?_
 obtain ⟨x1, hx1, hd⟩ := bnd_some hd
 obtain ⟨x2, hx2, hd⟩ := bnd_some hd
 obtain ⟨ha1, hd⟩ := chk_some hd
 refine Wp.region <| Seg.op (OpT.move rfl) rfl <| Seg.opS (OpS.call ent30 rfl (r05_Starts_w (hv1.mono (hl1.trans hl2)) hx1)) rfl ?_
 rintro _ H3 _ hl3 ⟨v4, xs2, rfl, hq2, rfl⟩
 refine Seg.op (OpT.move rfl) rfl <| Seg.opS (OpS.call ent30 rfl (r05_Starts_w (hv2.mono ((hl1.trans hl2).trans hl3)) hx2)) rfl ?_
 rintro _ H4 _ hl4 ⟨v5, xs3, rfl, hq3, rfl⟩
 refine Seg.appD (i := 1) (j := 0) (hq2.mono hl4) hq3 u55 ti3 rfl (by decide) rfl rfl rfl rfl (by decide) ha1 rfl fun v6 xs4 hq4 => Seg.drop (i := 0) <| Seg.op (OpT.assign rfl) rfl <| Seg.nilT <| Wp.seq <| Wp.sr <| Seg.op (OpT.assign rfl) rfl <| Seg.nilT ?_
 refine Wp.block <| Wp.loopF (fun m LL HH OO => ∃ (l1 : List (Int × Int)), ∃ (k1 : Nat), ∃ (v7 : Value), ∃ (xs5 : List Value), [(0, v1), (1, v2), (6, v7), (7, v6), (8, (.int .i64 (k1:Int)))] = LL ∧ .row v6 3 1 (x1 ++ x2).length xs4 :: .row v7 80 2 l1.length xs5 :: .blk B2 (.cells #[(.int .i64 i8), (.int .i64 i16)] 80 (0, 0)) :: O = OO ∧ loopK m (fun p nx => w05_equivalent_b3 fu a0 a1 x1 x2 p.1 p.2 nx) (l1, k1) = some r ∧ LayL (cP cI64 cI64) HH l1 xs5) fu ⟨([(i8, i16)] : List (Int × Int)), 0, v3, xs1, rfl, rfl, hd, (hq1.mono (hl3.trans hl4))⟩ (Sub.of rfl) ?_
 intro m1 L3 H5 O3 hl5 hI3
 obtain ⟨l1, k1, v7, xs5, rfl, rfl, hd, hq5⟩ := hI3
 replace hd := loopK_some hd; obtain ⟨m2, rfl, hd⟩ := hd
 obtain ⟨nx1, hn1⟩ : ∃ f, f = loopK m2 (fun p nx => w05_equivalent_b3 fu a0 a1 x1 x2 p.1 p.2 nx) := ⟨_, rfl⟩
 rw [← hn1] at hd
 replace hd : w05_equivalent_b3 fu a0 a1 x1 x2 l1 k1 nx1 = some r := hd
 unfold w05_equivalent_b3 at hd
 refine Wp.seq <| Wp.sr <| Seg.op (OpT.move rfl) rfl <| Seg.op (OpT.move rfl) rfl ?_
 refine Seg.rowLe (i := 1) rfl fun hb5 => ?_
 refine Seg.op (OpT.lenRow (i := 1) u81 rfl rfl) rfl <| Seg.op (OpT.lss rfl rfl) rfl <| Seg.nilT ?_
 refine Wp.cond (b := decide ((k1:Int) < (l1.length:Int))) rfl (fun hb6 => ?_) (fun hb6 => ?_)
 ·
  replace hd := brT hb6 hd
  replace hb6 := of_decide_eq_true hb6
  refine Wp.skip <| At.then_n <| Wp.seq <| Wp.block <| Wp.seq ?_
  obtain ⟨x3, hx3, hd⟩ := bnd_some hd
  have hx3_ := idx_bd hx3
  refine Wp.region <| Seg.op (OpT.move rfl) rfl <| Seg.op (OpT.move rfl) rfl ?_
  obtain ⟨_, ⟨_, _, rfl, rfl, rfl⟩, hc1, hc1_⟩ := LayL.get hq5 (idx_some hx3).2
  refine Seg.op (OpT.ixRow (j := 1) u81 ti80 rfl rfl rfl (idx_bd hx3)) rfl <| Seg.op (OpT.ldRowA (i := 1) (vs := [(.int .i64 x3.1), (.int .i64 x3.2)]) u80 rfl ti80 (by simp) rfl rfl hc1) rfl <| Seg.alloc (cs := #[(.int .i64 0), (.int .i64 0)]) ti80 rfl rfl fun B3 => Seg.stBlkW (i := 0) (cs' := #[(.int .i64 x3.1), (.int .i64 x3.2)]) rfl rfl ti80 rfl rfl (onesA (ones_cons rfl (ones_cons rfl (ones_nil)))) rfl ?_
  refine Seg.own (O := .blk B3 (.cells #[(.int .i64 x3.1), (.int .i64 x3.2)] 80 (0, 0)) :: .row v6 3 1 (x1 ++ x2).length xs4 :: .row v7 80 2 l1.length xs5 :: .blk B2 (.cells #[(.int .i64 i8), (.int .i64 i16)] 80 (0, 0)) :: O) ?_ rfl
  refine Seg.nilT <| Wp.seq <| Wp.seq ?_
  obtain ⟨x4, hx4, hd⟩ := bnd_some hd
  obtain ⟨x5, hx5, hd⟩ := bnd_some hd
  refine Wp.drawE 9 follows rfl (by kernel_rfl) <| SegL.opE (OpT.move rfl) rfl <| SegL.opE (OpT.ixArr (off' := 0) u80 ti3 rfl rfl (by decide) rfl) rfl <| SegL.opE (OpT.ldBlk (i := 0) (v := (.int .i64 x3.1)) u3 rfl rfl rfl rfl) rfl <| SegL.opE (OpT.call ent47 rfl (w05_accepts_w (hv1.mono ((((hl1.trans hl2).trans hl3).trans hl4).trans hl5)) hx4)) rfl <| SegL.opE (OpT.move rfl) rfl <| SegL.opE (OpT.ixArr (off' := 1) u80 ti3 rfl rfl (by decide) rfl) rfl <| SegL.opE (OpT.ldBlk (i := 0) (v := (.int .i64 x3.2)) u3 rfl rfl rfl rfl) rfl ?_
  refine SegL.opE (OpT.call ent47 rfl (w05_accepts_w (hv2.mono ((((hl1.trans hl2).trans hl3).trans hl4).trans hl5)) hx5)) rfl <| SegL.opE (OpT.neB u4 rfl rfl) rfl <| SegL.doneE <| EndL.is (t := 0) rfl <| EndL.is (t := 1) rfl <| EndL.is (t := 6) rfl <| EndL.is (t := 7) rfl <| EndL.is (t := 8) rfl ?_
  refine EndL.is (t := 9) rfl <| EndL.is (t := 50) rfl <| EndL.seg <| Seg.nilT ?_
  refine Wp.cond (b := !(x4 == x5)) rfl (fun hb7 => ?_) (fun hb7 => ?_)
  ·
   replace hd := brT hb7 hd
   refine Wp.sr <| Seg.op (OpT.assign rfl) rfl <| Seg.nilT <| Wp.ret <| At.then_r <| At.blk_r <| At.then_r <| At.then_r ?_
   refine At.blk_r <| At.then_r ?_
   obtain rfl := Option.some.inj hd
   exact At.res1 rfl (RV.tmp (v := (.bool false)) rfl) (fun w hs => ⟨rfl, (hs.dropN 4).weaken ((((hl1.trans hl2).trans hl3).trans hl4).trans hl5)⟩)
  replace hd := brF hb7 hd
  refine Wp.skip <| At.then_n <| Wp.sr <| Seg.op (OpT.move rfl) rfl ?_
  refine Seg.rowLe (i := 1) rfl fun hb8 => ?_
  refine Seg.op (OpT.lenRow (i := 1) u55 rfl rfl) rfl <| Seg.op (OpT.move rfl) rfl <| Seg.nilT <| Wp.block <| Wp.loopF (fun m LL HH OO => ∃ (l2 : List (Int × Int)), ∃ (k2 : Nat), ∃ (v8 : Value), ∃ (xs6 : List Value), [(0, v1), (1, v2), (6, v8), (7, v6), (8, (.int .i64 (k1:Int))), (9, (ptr B3 0)), (51, v6), (52, (.int .i64 (((x1 ++ x2).length : Nat) : Int))), (53, (.int .i64 (k2:Int)))] = LL ∧ .blk B3 (.cells #[(.int .i64 x3.1), (.int .i64 x3.2)] 80 (0, 0)) :: .row v6 3 1 (x1 ++ x2).length xs4 :: .row v8 80 2 l2.length xs6 :: .blk B2 (.cells #[(.int .i64 i8), (.int .i64 i16)] 80 (0, 0)) :: O = OO ∧ loopK m (fun p nx => w05_equivalent_b4 fu a0 a1 x1 x2 k1 nx1 x3 p.1 p.2 nx) (l2, k2) = some r ∧ LayL (cP cI64 cI64) HH l2 xs6) fu ⟨l1, 0, v7, xs5, rfl, rfl, hd, hq5⟩ (Sub.of rfl) ?_
  intro m3 L4 H6 O4 hl6 hI4
  obtain ⟨l2, k2, v8, xs6, rfl, rfl, hd, hq6⟩ := hI4
  replace hd := loopK_some hd; obtain ⟨m4, rfl, hd⟩ := hd
  obtain ⟨nx2, hn2⟩ : ∃ f, f = loopK m4 (fun p nx => w05_equivalent_b4 fu a0 a1 x1 x2 k1 nx1 x3 p.1 p.2 nx) := ⟨_, rfl⟩
  rw [← hn2] at hd
  replace hd : w05_equivalent_b4 fu a0 a1 x1 x2 k1 nx1 x3 l2 k2 nx2 = some r := hd
  unfold w05_equivalent_b4 at hd
  refine Wp.sr <| Seg.op (OpT.lss rfl rfl) rfl <| Seg.nilT <| Wp.seq ?_
  refine Wp.cond (b := decide ((k2:Int) < (((x1 ++ x2).length : Nat) : Int))) rfl (fun hb9 => ?_) (fun hb9 => ?_)
  ·
   replace hd := brT hb9 hd
   replace hb9 := of_decide_eq_true hb9
   refine Wp.skip <| At.then_n <| Wp.seq <| Wp.block <| Wp.seq ?_
   obtain ⟨x6, hx6, hd⟩ := bnd_some hd
   have hx6_ := idx_bd hx6
   refine Wp.region ?_
   obtain ⟨_, rfl, hc2, hc2_⟩ := LayL.get (hq4.mono (hl5.trans hl6)) (idx_some hx6).2
   refine Seg.op (OpT.ixRow (j := 1) u55 ti3 rfl rfl rfl (idx_bd hx6)) rfl <| Seg.op (OpT.ldRow (i := 1) (k := k2 * 1 + 0) u3 rfl rfl rfl (hc2 0 _ rfl)) rfl <| Seg.op (OpT.assign rfl) rfl <| Seg.nilT <| Wp.seq ?_
   obtain ⟨ha2, hd⟩ := chk_some hd
   have := ha2
   obtain ⟨x7, hx7, hd⟩ := bnd_some hd
   obtain ⟨ha3, hd⟩ := chk_some hd
   have := ha3
   obtain ⟨x8, hx8, hd⟩ := bnd_some hd
   refine Wp.emp <| SegO.runK 5 [an0, an0, ⟨[1], [], []⟩, an0, an0, an0, an0, an0, ⟨[1], [], []⟩, an0, an0, an0, an0, ⟨[0], [0], [13]⟩, ⟨[0], [0], [13]⟩] follows rfl (by kernel_rfl) <| SegO.op (val := fun p1 => v1) rfl rfl (fun _ => rfl) (fun _ p1 _ hx hf hy => OpT.move rfl) rfl <| SegO.op (val := fun p1 => (ptr B3 0)) rfl rfl (fun _ => rfl) (fun _ p1 _ hx hf hy => OpT.ixArr (off' := 0) u80 ti3 rfl rfl (by decide) rfl) rfl <| SegO.op (val := fun p1 => (.int .i64 x3.1)) rfl rfl (fun _ => rfl) (fun _ p1 _ hx hf hy => OpT.ldBlk (i := 1) (v := (.int .i64 x3.1)) u3 rfl rfl (hy 1 _ rfl rfl) rfl) rfl <| SegO.op (val := fun p1 => (.int .i64 x6)) rfl rfl (fun _ => rfl) (fun _ p1 _ hx hf hy => OpT.move rfl) rfl <| SegO.op (val := fun p1 => (.int .u8 x6)) rfl rfl (fun _ => rfl) (fun _ p1 _ hx hf hy => OpT.conv u3 u5 rfl (fitsU8 ha2)) rfl <| SegO.op (val := fun p1 => (.int .i64 x7)) rfl rfl (fun _ => rfl) (fun _ p1 _ hx hf hy => OpT.call ent32 rfl (r05_Step_w (hv1.mono ((((((hl1.trans hl2).trans hl3).trans hl4).trans hl5).trans hl6).trans hx)) (by omega) (by omega) hx7)) rfl ?_
   refine SegO.op (val := fun p1 => v2) rfl rfl (fun _ => rfl) (fun _ p1 _ hx hf hy => OpT.move rfl) rfl <| SegO.op (val := fun p1 => (ptr B3 1)) rfl rfl (fun _ => rfl) (fun _ p1 _ hx hf hy => OpT.ixArr (off' := 1) u80 ti3 rfl rfl (by decide) rfl) rfl <| SegO.op (val := fun p1 => (.int .i64 x3.2)) rfl rfl (fun _ => rfl) (fun _ p1 _ hx hf hy => OpT.ldBlk (i := 1) (v := (.int .i64 x3.2)) u3 rfl rfl (hy 1 _ rfl rfl) rfl) rfl <| SegO.op (val := fun p1 => (.int .i64 x6)) rfl rfl (fun _ => rfl) (fun _ p1 _ hx hf hy => OpT.move rfl) rfl <| SegO.op (val := fun p1 => (.int .u8 x6)) rfl rfl (fun _ => rfl) (fun _ p1 _ hx hf hy => OpT.conv u3 u5 rfl (fitsU8 ha3)) rfl <| SegO.op (val := fun p1 => (.int .i64 x8)) rfl rfl (fun _ => rfl) (fun _ p1 _ hx hf hy => OpT.call ent32 rfl (r05_Step_w (hv2.mono ((((((hl1.trans hl2).trans hl3).trans hl4).trans hl5).trans hl6).trans hx)) (by omega) (by omega) hx8)) rfl <| SegO.op (val := fun p1 => (.agg #[(.int .i64 x7), (.int .i64 x8)])) rfl rfl (fun _ => rfl) (fun _ p1 _ hx hf hy => OpT.buildA2 (vs := [(0, (.int .i64 x7)), (1, (.int .i64 x8))]) (cs := #[(.int .i64 x7), (.int .i64 x8)]) u80 ti80 ti3 rfl rfl (vc_cons rfl (vc_cons rfl (vc_nil))) rfl) rfl <| SegO.op1 (val := fun p1 => ptr (blkOf (p1 13)) 0) (res := fun p1 => .blk (blkOf (p1 13)) (.cells #[(.int .i64 0), (.int .i64 0)] 80 (0, 0))) 0 rfl rfl (fun _ => rfl) (fun _ => rfl) (fun _ p1 _ hx hf hy => OpS.allocR 0 ti80 rfl (hy 0 _ rfl rfl)) rfl ?_
   refine SegO.op1n (res := fun p1 => .blk (blkOf (p1 13)) (.cells #[(.int .i64 x7), (.int .i64 x8)] 80 (0, 0))) 0 rfl rfl rfl (fun _ => rfl) (fun _ p1 _ hx hf hy => OpS.stR (vs := [(.int .i64 x7), (.int .i64 x8)]) rfl rfl rfl ti80 rfl (ones_cons rfl (ones_cons rfl (ones_nil))) (hy 0 _ rfl rfl) rfl rfl) <| SegO.done fun H7 p1 hl7 hF1 => At.sub (L' := [(0, v1), (1, v2), (6, v8), (7, v6), (8, (.int .i64 (k1:Int))), (9, (ptr B3 0)), (12, (ptr (blkOf (p1 13)) 0)), (51, v6), (52, (.int .i64 (((x1 ++ x2).length : Nat) : Int))), (53, (.int .i64 (k2:Int)))]) (Sub.of rfl) ?_
   refine At.own (O := .blk (blkOf (p1 13)) (.cells #[(.int .i64 x7), (.int .i64 x8)] 80 (0, 0)) :: .blk B3 (.cells #[(.int .i64 x3.1), (.int .i64 x3.2)] 80 (0, 0)) :: .row v6 3 1 (x1 ++ x2).length xs4 :: .row v8 80 2 l2.length xs6 :: .blk B2 (.cells #[(.int .i64 i8), (.int .i64 i16)] 80 (0, 0)) :: O) ?_ (by first | rfl | (simp only [List.length_append, List.length_set]; rfl) | simp)
   refine At.then_n <| Wp.sr <| Seg.op (OpT.assign rfl) rfl <| Seg.nilT <| Wp.seq <| Wp.sr <| Seg.op (OpT.move rfl) rfl ?_
   refine Seg.rowLe (i := 3) rfl fun hb10 => ?_
   refine Seg.op (OpT.lenRow (i := 3) u81 rfl rfl) rfl <| Seg.op (OpT.move rfl) rfl <| Seg.nilT <| Wp.block <| Wp.loopF (fun m LL HH OO => ∃ (b1 : Bool), ∃ (k3 : Nat), [(0, v1), (1, v2), (6, v8), (7, v6), (8, (.int .i64 (k1:Int))), (9, (ptr B3 0)), (12, (ptr (blkOf (p1 13)) 0)), (13, (.bool b1)), (51, v6), (52, (.int .i64 (((x1 ++ x2).length : Nat) : Int))), (53, (.int .i64 (k2:Int))), (70, v8), (71, (.int .i64 (l2.length:Int))), (72, (.int .i64 (k3:Int)))] = LL ∧ .blk (blkOf (p1 13)) (.cells #[(.int .i64 x7), (.int .i64 x8)] 80 (0, 0)) :: .blk B3 (.cells #[(.int .i64 x3.1), (.int .i64 x3.2)] 80 (0, 0)) :: .row v6 3 1 (x1 ++ x2).length xs4 :: .row v8 80 2 l2.length xs6 :: .blk B2 (.cells #[(.int .i64 i8), (.int .i64 i16)] 80 (0, 0)) :: O = OO ∧ loopK m (fun p nx => w05_equivalent_b5 fu l2 k2 nx2 x7 x8 p.1 p.2 nx) (b1, k3) = some r) fu ⟨false, 0, rfl, rfl, hd⟩ (Sub.of rfl) ?_
   intro m5 L5 H8 O5 hl8 hI5
   obtain ⟨b1, k3, rfl, rfl, hd⟩ := hI5
   replace hd := loopK_some hd; obtain ⟨m6, rfl, hd⟩ := hd
   obtain ⟨nx3, hn3⟩ : ∃ f, f = loopK m6 (fun p nx => w05_equivalent_b5 fu l2 k2 nx2 x7 x8 p.1 p.2 nx) := ⟨_, rfl⟩
   rw [← hn3] at hd
   replace hd : w05_equivalent_b5 fu l2 k2 nx2 x7 x8 b1 k3 nx3 = some r := hd
   unfold w05_equivalent_b5 at hd
   refine Wp.sr <| Seg.op (OpT.lss rfl rfl) rfl <| Seg.nilT <| Wp.seq ?_
   refine Wp.cond (b := decide ((k3:Int) < (l2.length:Int))) rfl (fun hb11 => ?_) (fun hb11 => ?_)
   ·
    replace hd := brT hb11 hd
    replace hb11 := of_decide_eq_true hb11
    refine Wp.skip <| At.then_n <| Wp.seq <| Wp.block <| Wp.seq ?_
    obtain ⟨x9, hx9, hd⟩ := bnd_some hd
    have hx9_ := idx_bd hx9
    refine Wp.region ?_
    obtain ⟨_, ⟨_, _, rfl, rfl, rfl⟩, hc3, hc3_⟩ := LayL.get (hq6.mono (hl7.trans hl8)) (idx_some hx9).2
    refine Seg.op (OpT.ixRow (j := 3) u81 ti80 rfl rfl rfl (idx_bd hx9)) rfl <| Seg.op (OpT.ldRowA (i := 3) (vs := [(.int .i64 x9.1), (.int .i64 x9.2)]) u80 rfl ti80 (by simp) rfl rfl hc3) rfl <| Seg.alloc (cs := #[(.int .i64 0), (.int .i64 0)]) ti80 rfl rfl fun B4 => Seg.stBlkW (i := 0) (cs' := #[(.int .i64 x9.1), (.int .i64 x9.2)]) rfl rfl ti80 rfl rfl (onesA (ones_cons rfl (ones_cons rfl (ones_nil)))) rfl ?_
    refine Seg.own (O := .blk B4 (.cells #[(.int .i64 x9.1), (.int .i64 x9.2)] 80 (0, 0)) :: .blk (blkOf (p1 13)) (.cells #[(.int .i64 x7), (.int .i64 x8)] 80 (0, 0)) :: .blk B3 (.cells #[(.int .i64 x3.1), (.int .i64 x3.2)] 80 (0, 0)) :: .row v6 3 1 (x1 ++ x2).length xs4 :: .row v8 80 2 l2.length xs6 :: .blk B2 (.cells #[(.int .i64 i8), (.int .i64 i16)] 80 (0, 0)) :: O) ?_ rfl
    refine Seg.nilT ?_
    rcases Bool.eq_false_or_eq_true (b1) with hg1 | hg1
    ·
     replace hd := brT hg1 hd
     refine Wp.region <| Seg.op (OpT.asB (b := b1) (c := true) (OpT.move rfl) hg1) rfl <| Seg.op (OpT.move rfl) rfl <| Seg.skipG rfl rfl rfl rfl <| Seg.skipG rfl rfl rfl rfl <| Seg.skipG rfl rfl rfl rfl <| Seg.op (OpT.pickT rfl rfl) rfl <| Seg.op (OpT.assign rfl) rfl ?_
     refine Seg.nil <| At.blk_n <| At.then_n <| Wp.region <| Seg.op (OpT.add rfl rfl (fits64 (by omega))) rfl <| Seg.op (OpT.move rfl) rfl <| Seg.nil <| At.permK [1, 2, 3, 4, 5] 6 rfl rfl rfl ?_
     refine At.nextF (Hp.le.refl _) ⟨true, (k3 + 1), rfl, rfl, (by rw [← hn3]; exact hd)⟩ (Sub.of rfl)
    replace hd := brF hg1 hd
    refine Wp.region <| Seg.op (OpT.asB (b := b1) (c := false) (OpT.move rfl) hg1) rfl <| Seg.op (OpT.move rfl) rfl <| Seg.opG rfl rfl (OpT.ldBlkW (i := 0) u80 rfl ti80 rfl rfl rfl) rfl <| Seg.opG rfl rfl (OpT.ldBlkW (i := 1) u80 rfl ti80 rfl rfl rfl) rfl <| Seg.opG rfl rfl (OpT.eqArr (xs := [x9.1, x9.2]) (ys := [x7, x8]) eqg80 u80 u3 ti3 rfl rfl rfl rfl) rfl <| Seg.op (OpT.pickF rfl rfl) rfl <| Seg.op (OpT.assign rfl) rfl ?_
    refine Seg.nil <| At.blk_n <| At.then_n <| Wp.region <| Seg.op (OpT.add rfl rfl (fits64 (by omega))) rfl <| Seg.op (OpT.move rfl) rfl <| Seg.nil <| At.permK [1, 2, 3, 4, 5] 6 rfl rfl rfl ?_
    refine At.nextF (Hp.le.refl _) ⟨(decide (([x9.1, x9.2] : List Int) = [x7, x8])), (k3 + 1), rfl, rfl, (by rw [← hn3]; exact hd)⟩ (Sub.of rfl)
   replace hd := brF hb11 hd
   replace hb11 := of_decide_eq_false hb11
   refine Wp.exit <| At.then_x <| At.then_x <| At.blk_hit <| At.then_n <| Wp.sr <| Seg.op (OpT.move rfl) rfl <| Seg.op (OpT.not rfl) rfl ?_
   refine Seg.nilT ?_
   refine Wp.cond (b := !b1) rfl (fun hb12 => ?_) (fun hb12 => ?_)
   ·
    replace hd := brT hb12 hd
    obtain ⟨ha4, hd⟩ := chk_some hd
    refine Wp.region <| Seg.op (OpT.move rfl) rfl <| Seg.op (OpT.ldBlkW (i := 0) u80 rfl ti80 rfl rfl rfl) rfl <| Seg.buildD1 (c := (cP cI64 cI64)) (y := (x7, x8)) (cs := [(.int .i64 x7), (.int .i64 x8)]) u81 ti80 rfl rfl rfl rfl (⟨[(.int .i64 x7)], [(.int .i64 x8)], rfl, rfl, rfl⟩) rfl fun v9 xs7 hq7 => Seg.appD (i := 4) (j := 0) (hq6.mono (hl7.trans hl8)) hq7 u81 ti80 rfl (by decide) rfl rfl rfl rfl (by decide) ha4 rfl fun v10 xs8 hq8 => Seg.drop (i := 0) <| Seg.op (OpT.assign rfl) rfl <| Seg.nil ?_
    refine At.blk_n <| At.then_n <| Wp.region <| Seg.op (OpT.add rfl rfl (fits64 (by omega))) rfl <| Seg.op (OpT.move rfl) rfl <| Seg.nil <| At.permK [1, 2, 3, 4] 5 rfl rfl rfl ?_
    refine At.nextF (hl7.trans hl8) ⟨(l2 ++ ([(x7, x8)] : List (Int × Int))), (k2 + 1), v10, xs8, rfl, rfl, (by rw [← hn2]; exact hd), hq8⟩ (Sub.of rfl)
   replace hd := brF hb12 hd
   refine Wp.skip <| At.blk_n <| At.then_n <| Wp.region <| Seg.op (OpT.add rfl rfl (fits64 (by omega))) rfl <| Seg.op (OpT.move rfl) rfl <| Seg.nil <| At.permK [1, 2, 3, 4] 5 rfl rfl rfl ?_
   refine At.nextF (hl7.trans hl8) ⟨l2, (k2 + 1), v8, xs6, rfl, rfl, (by rw [← hn2]; exact hd), (hq6.mono (hl7.trans hl8))⟩ (Sub.of rfl)
  replace hd := brF hb9 hd
  replace hb9 := of_decide_eq_false hb9
  refine Wp.exit <| At.then_x <| At.then_x <| At.blk_hit <| At.blk_n <| At.then_n <| Wp.region <| Seg.op (OpT.move rfl) rfl ?_
  refine Seg.op (OpT.add rfl rfl (fits64 (by omega))) rfl <| Seg.op (OpT.assign rfl) rfl <| Seg.nil <| At.permK [1, 2, 3] 4 rfl rfl rfl ?_
  refine At.nextF hl6 ⟨l2, (k1 + 1), v8, xs6, rfl, rfl, (by rw [← hn1]; exact hd), hq6⟩ (Sub.of rfl)
 replace hd := brF hb6 hd
 replace hb6 := of_decide_eq_false hb6
 refine Wp.exit <| At.then_x <| At.then_x <| At.blk_hit <| At.then_n <| Wp.sr <| Seg.op (OpT.assign rfl) rfl <| Seg.nilT ?_
 refine Wp.ret ?_
 obtain rfl := Option.some.inj hd
 exact At.res1 rfl (RV.tmp (v := (.bool true)) rfl) (fun w hs => ⟨rfl, (hs.dropN 3).weaken ((((hl1.trans hl2).trans hl3).trans hl4).trans hl5)⟩)

set_option maxRecDepth 100000 in
set_option maxHeartbeats 4000000 in
theorem w05_AutomatonCanonical_w {fu : Nat} {a0 : List (Bool × (List (Int × Int × Int)))} {a1 : List (Bool × (List (Int × Int × Int)))} {v1 v2 : Value} {r : Bool} (hv1 : SlD (cP cB (cL (cP cU8 (cP cU8 cI64)))) H a0 v1) (hv2 : SlD (cP cB (cL (cP cU8 (cP cU8 cI64)))) H a1 v2) (hG : LaidH Tryz.prog H) (hd : w05_AutomatonCanonical fu a0 a1 = some r) :
    TriV Tryz.prog 5 [v1, v2] H O (.bool r) := by
 intro w hs
 refine wp_of Tryz.func5 rfl rfl rfl ?_ hs
 clear hs w
 unfold w05_AutomatonCanonical at hd
 refine Wp.sr <| Seg.op (OpT.assign rfl) rfl <| Seg.nilT <| Wp.seq <| Wp.seq ?_
 obtain ⟨x1, hx1, hd⟩ := bnd_some hd
 rcases Bool.eq_false_or_eq_true (!x1) with hg1 | hg1
 ·
  replace hd := brT hg1 hd
  refine Wp.region <| Seg.op (OpT.move rfl) rfl <| Seg.op (OpT.call ent6 rfl (w05_few_w hv1 hx1)) rfl <| Seg.op (OpT.asB (b := !x1) (c := true) (OpT.not rfl) hg1) rfl <| Seg.op (OpT.move rfl) rfl <| Seg.skipG rfl rfl rfl rfl <| Seg.skipG rfl rfl rfl rfl <| Seg.skipG rfl rfl rfl rfl ?_
  refine Seg.op (OpT.pickT rfl rfl) rfl <| Seg.op (OpT.move rfl) rfl <| Seg.skipG rfl rfl rfl rfl <| Seg.skipG rfl rfl rfl rfl <| Seg.skipG rfl rfl rfl rfl <| Seg.op (OpT.pickT rfl rfl) rfl <| Seg.op (OpT.move rfl) rfl <| Seg.skipG rfl rfl rfl rfl ?_
  refine Seg.skipG rfl rfl rfl rfl <| Seg.skipG rfl rfl rfl rfl <| Seg.op (OpT.pickT rfl rfl) rfl <| Seg.nilT <| Wp.condT rfl <| Wp.seq ?_
  obtain ⟨x2, hx2, hd⟩ := bnd_some hd
  refine Wp.region <| Seg.op (OpT.call ent7 rfl (w05_alive_w hG hx2)) rfl <| Seg.op (OpT.assign rfl) rfl <| Seg.nilT <| Wp.ret <| At.then_r ?_
  obtain rfl := Option.some.inj hd
  exact At.res1 rfl (RV.tmp (v := (.bool x2)) rfl) (fun w hs => ⟨rfl, (hs.dropN 0).weaken (Hp.le.refl _)⟩)
 replace hd := brF hg1 hd
 obtain ⟨x3, hx3, hd⟩ := bnd_some hd
 rcases Bool.eq_false_or_eq_true (!x3) with hg2 | hg2
 ·
  replace hd := brT hg2 hd
  refine Wp.region <| Seg.op (OpT.move rfl) rfl <| Seg.op (OpT.call ent6 rfl (w05_few_w hv1 hx1)) rfl <| Seg.op (OpT.asB (b := !x1) (c := false) (OpT.not rfl) hg1) rfl <| Seg.op (OpT.move rfl) rfl <| Seg.opG rfl rfl (OpT.move rfl) rfl <| Seg.opG rfl rfl (OpT.call ent6 rfl (w05_few_w hv2 hx3)) rfl <| Seg.opG rfl rfl (OpT.asB (b := !x3) (c := true) (OpT.not rfl) hg2) rfl ?_
  refine Seg.op (OpT.pickF rfl rfl) rfl <| Seg.op (OpT.move rfl) rfl <| Seg.skipG rfl rfl rfl rfl <| Seg.skipG rfl rfl rfl rfl <| Seg.skipG rfl rfl rfl rfl <| Seg.op (OpT.pickT rfl rfl) rfl <| Seg.op (OpT.move rfl) rfl <| Seg.skipG rfl rfl rfl rfl ?_
  refine Seg.skipG rfl rfl rfl rfl <| Seg.skipG rfl rfl rfl rfl <| Seg.op (OpT.pickT rfl rfl) rfl <| Seg.nilT <| Wp.condT rfl <| Wp.seq ?_
  obtain ⟨x4, hx4, hd⟩ := bnd_some hd
  refine Wp.region <| Seg.op (OpT.call ent7 rfl (w05_alive_w hG hx4)) rfl <| Seg.op (OpT.assign rfl) rfl <| Seg.nilT <| Wp.ret <| At.then_r ?_
  obtain rfl := Option.some.inj hd
  exact At.res1 rfl (RV.tmp (v := (.bool x4)) rfl) (fun w hs => ⟨rfl, (hs.dropN 0).weaken (Hp.le.refl _)⟩)
 replace hd := brF hg2 hd
 obtain ⟨x5, hx5, hd⟩ := bnd_some hd
 rcases Bool.eq_false_or_eq_true (!x5) with hg3 | hg3
 ·
  replace hd := brT hg3 hd
  refine Wp.region <| Seg.op (OpT.move rfl) rfl <| Seg.op (OpT.call ent6 rfl (w05_few_w hv1 hx1)) rfl <| Seg.op (OpT.asB (b := !x1) (c := false) (OpT.not rfl) hg1) rfl <| Seg.op (OpT.move rfl) rfl <| Seg.opG rfl rfl (OpT.move rfl) rfl <| Seg.opG rfl rfl (OpT.call ent6 rfl (w05_few_w hv2 hx3)) rfl <| Seg.opG rfl rfl (OpT.asB (b := !x3) (c := false) (OpT.not rfl) hg2) rfl ?_
  refine Seg.op (OpT.pickF rfl rfl) rfl <| Seg.op (OpT.move rfl) rfl <| Seg.opG rfl rfl (OpT.move rfl) rfl <| Seg.opG rfl rfl (OpT.call ent16 rfl (r05_Wellformed_w hv1 hx5)) rfl <| Seg.opG rfl rfl (OpT.asB (b := !x5) (c := true) (OpT.not rfl) hg3) rfl <| Seg.op (OpT.pickF rfl rfl) rfl <| Seg.op (OpT.move rfl) rfl <| Seg.skipG rfl rfl rfl rfl ?_
  refine Seg.skipG rfl rfl rfl rfl <| Seg.skipG rfl rfl rfl rfl <| Seg.op (OpT.pickT rfl rfl) rfl <| Seg.nilT <| Wp.condT rfl <| Wp.seq ?_
  obtain ⟨x6, hx6, hd⟩ := bnd_some hd
  refine Wp.region <| Seg.op (OpT.call ent7 rfl (w05_alive_w hG hx6)) rfl <| Seg.op (OpT.assign rfl) rfl <| Seg.nilT <| Wp.ret <| At.then_r ?_
  obtain rfl := Option.some.inj hd
  exact At.res1 rfl (RV.tmp (v := (.bool x6)) rfl) (fun w hs => ⟨rfl, (hs.dropN 0).weaken (Hp.le.refl _)⟩)
 replace hd := brF hg3 hd
 obtain ⟨x7, hx7, hd⟩ := bnd_some hd
 refine Wp.region <| Seg.op (OpT.move rfl) rfl <| Seg.op (OpT.call ent6 rfl (w05_few_w hv1 hx1)) rfl <| Seg.op (OpT.asB (b := !x1) (c := false) (OpT.not rfl) hg1) rfl <| Seg.op (OpT.move rfl) rfl <| Seg.opG rfl rfl (OpT.move rfl) rfl <| Seg.opG rfl rfl (OpT.call ent6 rfl (w05_few_w hv2 hx3)) rfl <| Seg.opG rfl rfl (OpT.asB (b := !x3) (c := false) (OpT.not rfl) hg2) rfl ?_
 refine Seg.op (OpT.pickF rfl rfl) rfl <| Seg.op (OpT.move rfl) rfl <| Seg.opG rfl rfl (OpT.move rfl) rfl <| Seg.opG rfl rfl (OpT.call ent16 rfl (r05_Wellformed_w hv1 hx5)) rfl <| Seg.opG rfl rfl (OpT.asB (b := !x5) (c := false) (OpT.not rfl) hg3) rfl <| Seg.op (OpT.pickF rfl rfl) rfl <| Seg.op (OpT.move rfl) rfl <| Seg.opG rfl rfl (OpT.move rfl) rfl ?_
 refine Seg.opG rfl rfl (OpT.call ent16 rfl (r05_Wellformed_w hv2 hx7)) rfl <| Seg.opG rfl rfl (OpT.not rfl) rfl <| Seg.op (OpT.pickF rfl rfl) rfl <| Seg.nilT ?_
 refine Wp.cond (b := !x7) rfl (fun hb1 => ?_) (fun hb1 => ?_)
 ·
  replace hd := brT hb1 hd
  refine Wp.seq ?_
  obtain ⟨x8, hx8, hd⟩ := bnd_some hd
  refine Wp.region <| Seg.op (OpT.call ent7 rfl (w05_alive_w hG hx8)) rfl <| Seg.op (OpT.assign rfl) rfl <| Seg.nilT <| Wp.ret <| At.then_r ?_
  obtain rfl := Option.some.inj hd
  exact At.res1 rfl (RV.tmp (v := (.bool x8)) rfl) (fun w hs => ⟨rfl, (hs.dropN 0).weaken (Hp.le.refl _)⟩)
 replace hd := brF hb1 hd
 refine Wp.skip <| At.then_n <| Wp.seq ?_
 obtain ⟨x9, hx9, hd⟩ := bnd_some hd
 refine Wp.region <| Seg.op (OpT.move rfl) rfl <| Seg.opS (OpS.call ent8 rfl (au_Minimal_w hv1 hG hx9)) rfl ?_
 rintro _ H1 _ hl1 ⟨⟨v3, rfl, hv3⟩, rfl⟩
 refine Seg.op (OpT.move rfl) rfl <| Seg.op (OpT.extract rfl rfl) rfl <| Seg.op (OpT.extract rfl rfl) rfl <| Seg.alloc (cs := #[(.slice none 0 0)]) ti26 rfl rfl fun B2 => Seg.stBlkW (i := 0) (cs' := #[v3]) rfl rfl ti26 rfl rfl (onesA (ones_cons hv3.one (ones_nil))) rfl ?_
 refine Seg.own (O := .blk B2 (.cells #[v3] 26 (0, 0)) :: O) ?_ rfl
 refine Seg.op (OpT.assign rfl) rfl <| Seg.nilT <| Wp.seq ?_
 obtain ⟨x10, hx10, hd⟩ := bnd_some hd
 refine Wp.region <| Seg.op (OpT.move rfl) rfl <| Seg.opS (OpS.call ent8 rfl (au_Minimal_w (hv2.mono hl1) (hG.mono hl1) hx10)) rfl ?_
 rintro _ H2 _ hl2 ⟨⟨v4, rfl, hv4⟩, rfl⟩
 refine Seg.op (OpT.move rfl) rfl <| Seg.op (OpT.extract rfl rfl) rfl <| Seg.op (OpT.extract rfl rfl) rfl <| Seg.alloc (cs := #[(.slice none 0 0)]) ti26 rfl rfl fun B3 => Seg.stBlkW (i := 0) (cs' := #[v4]) rfl rfl ti26 rfl rfl (onesA (ones_cons hv4.one (ones_nil))) rfl ?_
 refine Seg.own (O := .blk B3 (.cells #[v4] 26 (0, 0)) :: .blk B2 (.cells #[v3] 26 (0, 0)) :: O) ?_ rfl
 refine Seg.op (OpT.assign rfl) rfl <| Seg.nilT <| Wp.seq ?_
 rcases Bool.eq_false_or_eq_true (decide (x9.2 = 0)) with hg4 | hg4
 ·
  replace hd := brT hg4 hd
  have hg4_ := of_decide_eq_true hg4
  rcases Bool.eq_false_or_eq_true (decide (x10.2 = 0)) with hg5 | hg5
  ·
   replace hd := brT hg5 hd
   have hg5_ := of_decide_eq_true hg5
   obtain ⟨x11, hx11, hd⟩ := bnd_some hd
   obtain ⟨x12, hx12, hd⟩ := bnd_some hd
   rcases Bool.eq_false_or_eq_true (x11 == x12) with hg6 | hg6
   ·
    replace hd := brT hg6 hd
    obtain ⟨x13, hx13, hd⟩ := bnd_some hd
    refine Wp.region <| Seg.op (OpT.move rfl) rfl <| Seg.op (OpT.asB (b := decide (x9.2 = 0)) (c := true) (OpT.eql rfl rfl) hg4) rfl <| Seg.op (OpT.move rfl) rfl <| Seg.opG rfl rfl (OpT.move rfl) rfl <| Seg.opG rfl rfl (OpT.asB (b := decide (x10.2 = 0)) (c := true) (OpT.eql rfl rfl) hg5) rfl <| Seg.op (OpT.pickT rfl rfl) rfl <| Seg.op (OpT.move rfl) rfl ?_
    refine Seg.opG rfl rfl (OpT.ldBlkW (i := 1) u26 rfl ti26 rfl rfl rfl) rfl <| Seg.opG rfl rfl (OpT.ldBlkW (i := 0) u26 rfl ti26 rfl rfl rfl) rfl <| Seg.opG rfl rfl (OpT.call ent17 rfl (au_Same_w (hv3.mono hl2) hv4 hx11)) rfl <| Seg.opG rfl rfl (OpT.move rfl) rfl <| Seg.opG rfl rfl (OpT.move rfl) rfl <| Seg.opG rfl rfl (OpT.call ent18 rfl (w05_equivalent_w (hv1.mono (hl1.trans hl2)) (hv2.mono (hl1.trans hl2)) hx12)) rfl <| Seg.opG rfl rfl (OpT.asB (b := x11 == x12) (c := true) (OpT.eqB u4 rfl rfl) hg6) rfl <| Seg.op (OpT.pickT rfl rfl) rfl ?_
    refine Seg.op (OpT.move rfl) rfl <| Seg.opG rfl rfl (OpT.call ent7 rfl (w05_alive_w (hG.mono (hl1.trans hl2)) hx13)) rfl <| Seg.op (OpT.pickT rfl rfl) rfl <| Seg.op (OpT.assign rfl) rfl <| Seg.nilT <| Wp.ret ?_
    obtain rfl := Option.some.inj hd
    exact At.res1 rfl (RV.tmp (v := (.bool x13)) rfl) (fun w hs => ⟨rfl, (hs.dropN 2).weaken (hl1.trans hl2)⟩)
   replace hd := brF hg6 hd
   refine Wp.region <| Seg.op (OpT.move rfl) rfl <| Seg.op (OpT.asB (b := decide (x9.2 = 0)) (c := true) (OpT.eql rfl rfl) hg4) rfl <| Seg.op (OpT.move rfl) rfl <| Seg.opG rfl rfl (OpT.move rfl) rfl <| Seg.opG rfl rfl (OpT.asB (b := decide (x10.2 = 0)) (c := true) (OpT.eql rfl rfl) hg5) rfl <| Seg.op (OpT.pickT rfl rfl) rfl <| Seg.op (OpT.move rfl) rfl ?_
   refine Seg.opG rfl rfl (OpT.ldBlkW (i := 1) u26 rfl ti26 rfl rfl rfl) rfl <| Seg.opG rfl rfl (OpT.ldBlkW (i := 0) u26 rfl ti26 rfl rfl rfl) rfl <| Seg.opG rfl rfl (OpT.call ent17 rfl (au_Same_w (hv3.mono hl2) hv4 hx11)) rfl <| Seg.opG rfl rfl (OpT.move rfl) rfl <| Seg.opG rfl rfl (OpT.move rfl) rfl <| Seg.opG rfl rfl (OpT.call ent18 rfl (w05_equivalent_w (hv1.mono (hl1.trans hl2)) (hv2.mono (hl1.trans hl2)) hx12)) rfl <| Seg.opG rfl rfl (OpT.asB (b := x11 == x12) (c := false) (OpT.eqB u4 rfl rfl) hg6) rfl <| Seg.op (OpT.pickT rfl rfl) rfl ?_
   refine Seg.op (OpT.move rfl) rfl <| Seg.skipG rfl rfl rfl rfl <| Seg.op (OpT.pickF rfl rfl) rfl <| Seg.op (OpT.assign rfl) rfl <| Seg.nilT <| Wp.ret ?_
   obtain rfl := Option.some.inj hd
   exact At.res1 rfl (RV.tmp (v := (.bool false)) rfl) (fun w hs => ⟨rfl, (hs.dropN 2).weaken (hl1.trans hl2)⟩)
  replace hd := brF hg5 hd
  have hg5_ := of_decide_eq_false hg5
  refine Wp.region <| Seg.op (OpT.move rfl) rfl <| Seg.op (OpT.asB (b := decide (x9.2 = 0)) (c := true) (OpT.eql rfl rfl) hg4) rfl <| Seg.op (OpT.move rfl) rfl <| Seg.opG rfl rfl (OpT.move rfl) rfl <| Seg.opG rfl rfl (OpT.asB (b := decide (x10.2 = 0)) (c := false) (OpT.eql rfl rfl) hg5) rfl <| Seg.op (OpT.pickT rfl rfl) rfl <| Seg.op (OpT.move rfl) rfl ?_
  refine Seg.skipG rfl rfl rfl rfl <| Seg.skipG rfl rfl rfl rfl <| Seg.skipG rfl rfl rfl rfl <| Seg.skipG rfl rfl rfl rfl <| Seg.skipG rfl rfl rfl rfl <| Seg.skipG rfl rfl rfl rfl <| Seg.skipG rfl rfl rfl rfl <| Seg.op (OpT.pickF rfl rfl) rfl ?_
  refine Seg.op (OpT.move rfl) rfl <| Seg.skipG rfl rfl rfl rfl <| Seg.op (OpT.pickF rfl rfl) rfl <| Seg.op (OpT.assign rfl) rfl <| Seg.nilT <| Wp.ret ?_
  obtain rfl := Option.some.inj hd
  exact At.res1 rfl (RV.tmp (v := (.bool false)) rfl) (fun w hs => ⟨rfl, (hs.dropN 2).weaken (hl1.trans hl2)⟩)
 replace hd := brF hg4 hd
 have hg4_ := of_decide_eq_false hg4
 refine Wp.region <| Seg.op (OpT.move rfl) rfl <| Seg.op (OpT.asB (b := decide (x9.2 = 0)) (c := false) (OpT.eql rfl rfl) hg4) rfl <| Seg.op (OpT.move rfl) rfl <| Seg.skipG rfl rfl rfl rfl <| Seg.skipG rfl rfl rfl rfl <| Seg.op (OpT.pickF rfl rfl) rfl <| Seg.op (OpT.move rfl) rfl ?_
 refine Seg.skipG rfl rfl rfl rfl <| Seg.skipG rfl rfl rfl rfl <| Seg.skipG rfl rfl rfl rfl <| Seg.skipG rfl rfl rfl rfl <| Seg.skipG rfl rfl rfl rfl <| Seg.skipG rfl rfl rfl rfl <| Seg.skipG rfl rfl rfl rfl <| Seg.op (OpT.pickF rfl rfl) rfl ?_
 refine Seg.op (OpT.move rfl) rfl <| Seg.skipG rfl rfl rfl rfl <| Seg.op (OpT.pickF rfl rfl) rfl <| Seg.op (OpT.assign rfl) rfl <| Seg.nilT <| Wp.ret ?_
 obtain rfl := Option.some.inj hd
 exact At.res1 rfl (RV.tmp (v := (.bool false)) rfl) (fun w hs => ⟨rfl, (hs.dropN 2).weaken (hl1.trans hl2)⟩)
end Go.Proofs.YtjmbmodmepdmjaaGreatDoor
