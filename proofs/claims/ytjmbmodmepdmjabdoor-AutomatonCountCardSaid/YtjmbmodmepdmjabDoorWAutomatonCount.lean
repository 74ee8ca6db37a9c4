/- Walks, written by a program. -/
import Derived.Test.YtjmbmodmepdmjabDoorW1b
import Derived.Test.YtjmbmodmepdmjabDoorDAutomatonCount
namespace Go.Proofs.YtjmbmodmepdmjabDoor
open Go.GK
variable {H : Hp} {O : List Res}

set_option maxRecDepth 100000 in
set_option maxHeartbeats 4000000 in
theorem w05_AutomatonCount_w {fu : Nat} {a0 : Int} {a1 : Int} {r : Bool} (hr1 : 0 ≤ a0) (hr2 : a0 ≤ 255) (hr3 : 0 ≤ a1) (hr4 : a1 ≤ 255) (hG : LaidH Tryd.prog H) (hd : w05_AutomatonCount fu a0 a1 = some r) :
    TriV Tryd.prog 4 [(.int .u8 a0), (.int .u8 a1)] H O (.bool r) := by
 intro w hs
 refine wp_of Tryd.func4 rfl rfl rfl ?_ hs
 clear hs w
 unfold w05_AutomatonCount at hd
 refine Wp.sr <| Seg.op (OpT.assign rfl) rfl <| Seg.nilT <| Wp.seq <| Wp.seq ?_
 rcases Bool.eq_false_or_eq_true (decide (a0 < 2)) with hg1 | hg1
 ·
  replace hd := brT hg1 hd
  have hg1_ := of_decide_eq_true hg1
  refine Wp.region <| Seg.op (OpT.move rfl) rfl <| Seg.op (OpT.asB (b := decide (a0 < 2)) (c := true) (OpT.lss rfl rfl) hg1) rfl <| Seg.op (OpT.move rfl) rfl <| Seg.skipG rfl rfl rfl rfl <| Seg.skipG rfl rfl rfl rfl <| Seg.op (OpT.pickT rfl rfl) rfl <| Seg.op (OpT.move rfl) rfl ?_
  refine Seg.skipG rfl rfl rfl rfl <| Seg.skipG rfl rfl rfl rfl <| Seg.op (OpT.pickT rfl rfl) rfl <| Seg.op (OpT.move rfl) rfl <| Seg.skipG rfl rfl rfl rfl <| Seg.skipG rfl rfl rfl rfl <| Seg.op (OpT.pickT rfl rfl) rfl <| Seg.nilT ?_
  refine Wp.condT rfl <| Wp.seq ?_
  obtain ⟨x1, hx1, hd⟩ := bnd_some hd
  refine Wp.region <| Seg.op (OpT.call ent7 rfl (w05_alive_w hG hx1)) rfl <| Seg.op (OpT.assign rfl) rfl <| Seg.nilT <| Wp.ret <| At.then_r ?_
  obtain rfl := Option.some.inj hd
  exact At.res1 rfl (RV.tmp (v := (.bool x1)) rfl) (fun w hs => ⟨rfl, (hs.dropN 0).weaken (Hp.le.refl _)⟩)
 replace hd := brF hg1 hd
 have hg1_ := of_decide_eq_false hg1
 rcases Bool.eq_false_or_eq_true (decide (190 < a0)) with hg2 | hg2
 ·
  replace hd := brT hg2 hd
  have hg2_ := of_decide_eq_true hg2
  refine Wp.region <| Seg.op (OpT.move rfl) rfl <| Seg.op (OpT.asB (b := decide (a0 < 2)) (c := false) (OpT.lss rfl rfl) hg1) rfl <| Seg.op (OpT.move rfl) rfl <| Seg.opG rfl rfl (OpT.move rfl) rfl <| Seg.opG rfl rfl (OpT.asB (b := decide (190 < a0)) (c := true) (OpT.gtr rfl rfl) hg2) rfl <| Seg.op (OpT.pickF rfl rfl) rfl <| Seg.op (OpT.move rfl) rfl ?_
  refine Seg.skipG rfl rfl rfl rfl <| Seg.skipG rfl rfl rfl rfl <| Seg.op (OpT.pickT rfl rfl) rfl <| Seg.op (OpT.move rfl) rfl <| Seg.skipG rfl rfl rfl rfl <| Seg.skipG rfl rfl rfl rfl <| Seg.op (OpT.pickT rfl rfl) rfl <| Seg.nilT ?_
  refine Wp.condT rfl <| Wp.seq ?_
  obtain ⟨x2, hx2, hd⟩ := bnd_some hd
  refine Wp.region <| Seg.op (OpT.call ent7 rfl (w05_alive_w hG hx2)) rfl <| Seg.op (OpT.assign rfl) rfl <| Seg.nilT <| Wp.ret <| At.then_r ?_
  obtain rfl := Option.some.inj hd
  exact At.res1 rfl (RV.tmp (v := (.bool x2)) rfl) (fun w hs => ⟨rfl, (hs.dropN 0).weaken (Hp.le.refl _)⟩)
 replace hd := brF hg2 hd
 have hg2_ := of_decide_eq_false hg2
 rcases Bool.eq_false_or_eq_true (decide (a1 < 97)) with hg3 | hg3
 ·
  replace hd := brT hg3 hd
  have hg3_ := of_decide_eq_true hg3
  refine Wp.region <| Seg.op (OpT.move rfl) rfl <| Seg.op (OpT.asB (b := decide (a0 < 2)) (c := false) (OpT.lss rfl rfl) hg1) rfl <| Seg.op (OpT.move rfl) rfl <| Seg.opG rfl rfl (OpT.move rfl) rfl <| Seg.opG rfl rfl (OpT.asB (b := decide (190 < a0)) (c := false) (OpT.gtr rfl rfl) hg2) rfl <| Seg.op (OpT.pickF rfl rfl) rfl <| Seg.op (OpT.move rfl) rfl ?_
  refine Seg.opG rfl rfl (OpT.move rfl) rfl <| Seg.opG rfl rfl (OpT.asB (b := decide (a1 < 97)) (c := true) (OpT.lss rfl rfl) hg3) rfl <| Seg.op (OpT.pickF rfl rfl) rfl <| Seg.op (OpT.move rfl) rfl <| Seg.skipG rfl rfl rfl rfl <| Seg.skipG rfl rfl rfl rfl <| Seg.op (OpT.pickT rfl rfl) rfl <| Seg.nilT ?_
  refine Wp.condT rfl <| Wp.seq ?_
  obtain ⟨x3, hx3, hd⟩ := bnd_some hd
  refine Wp.region <| Seg.op (OpT.call ent7 rfl (w05_alive_w hG hx3)) rfl <| Seg.op (OpT.assign rfl) rfl <| Seg.nilT <| Wp.ret <| At.then_r ?_
  obtain rfl := Option.some.inj hd
  exact At.res1 rfl (RV.tmp (v := (.bool x3)) rfl) (fun w hs => ⟨rfl, (hs.dropN 0).weaken (Hp.le.refl _)⟩)
 replace hd := brF hg3 hd
 have hg3_ := of_decide_eq_false hg3
 refine Wp.region <| Seg.op (OpT.move rfl) rfl <| Seg.op (OpT.asB (b := decide (a0 < 2)) (c := false) (OpT.lss rfl rfl) hg1) rfl <| Seg.op (OpT.move rfl) rfl <| Seg.opG rfl rfl (OpT.move rfl) rfl <| Seg.opG rfl rfl (OpT.asB (b := decide (190 < a0)) (c := false) (OpT.gtr rfl rfl) hg2) rfl <| Seg.op (OpT.pickF rfl rfl) rfl <| Seg.op (OpT.move rfl) rfl ?_
 refine Seg.opG rfl rfl (OpT.move rfl) rfl <| Seg.opG rfl rfl (OpT.asB (b := decide (a1 < 97)) (c := false) (OpT.lss rfl rfl) hg3) rfl <| Seg.op (OpT.pickF rfl rfl) rfl <| Seg.op (OpT.move rfl) rfl <| Seg.opG rfl rfl (OpT.move rfl) rfl <| Seg.opG rfl rfl (OpT.gtr rfl rfl) rfl <| Seg.op (OpT.pickF rfl rfl) rfl <| Seg.nilT ?_
 refine Wp.cond (b := decide (103 < a1)) rfl (fun hb1 => ?_) (fun hb1 => ?_)
 ·
  replace hd := brT hb1 hd
  replace hb1 := of_decide_eq_true hb1
  refine Wp.seq ?_
  obtain ⟨x4, hx4, hd⟩ := bnd_some hd
  refine Wp.region <| Seg.op (OpT.call ent7 rfl (w05_alive_w hG hx4)) rfl <| Seg.op (OpT.assign rfl) rfl <| Seg.nilT <| Wp.ret <| At.then_r ?_
  obtain rfl := Option.some.inj hd
  exact At.res1 rfl (RV.tmp (v := (.bool x4)) rfl) (fun w hs => ⟨rfl, (hs.dropN 0).weaken (Hp.le.refl _)⟩)
 replace hd := brF hb1 hd
 replace hb1 := of_decide_eq_false hb1
 refine Wp.skip <| At.then_n <| Wp.sr <| Seg.op (OpT.buildS (vs := [(0, (.int .i64 3))]) (cs := #[(.int .i64 3), (w64 (word (fun _ => false) 0)), (w64 (word (fun _ => false) 1)), (w64 (word (fun _ => false) 2)), (w64 (word (fun _ => false) 3)), (.slice none 0 0)]) plf43 ti43 rfl rfl (vc_cons rfl (vc_nil)) (by simp only [zw]; rfl)) rfl <| Seg.alloc (cs := #[(.int .i64 0), (w64 (word (fun _ => false) 0)), (w64 (word (fun _ => false) 1)), (w64 (word (fun _ => false) 2)), (w64 (word (fun _ => false) 3)), (.slice none 0 0)]) ti43 (by simp only [zw]; rfl) rfl fun B2 => Seg.stBlkW (i := 0) (cs' := #[(.int .i64 3), (w64 (word (fun _ => false) 0)), (w64 (word (fun _ => false) 1)), (w64 (word (fun _ => false) 2)), (w64 (word (fun _ => false) 3)), (.slice none 0 0)]) rfl rfl ti43 rfl rfl (onesA (ones_cons rfl (ones_cons rfl (ones_cons rfl (ones_cons rfl (ones_cons rfl (ones_cons rfl (ones_nil)))))))) rfl ?_
 refine Seg.own (O := .blk B2 (.cells #[(.int .i64 3), (w64 (word (fun _ => false) 0)), (w64 (word (fun _ => false) 1)), (w64 (word (fun _ => false) 2)), (w64 (word (fun _ => false) 3)), (.slice none 0 0)] 43 (0, 0)) :: O) ?_ rfl
 refine Seg.nilT <| Wp.seq <| Wp.sr <| Seg.op (OpT.assign rfl) rfl <| Seg.nilT <| Wp.block <| Wp.nilRow 43 6 <| Wp.loopF (fun m LL HH OO => ∃ (l1 : List Rx), ∃ (i1 : Int), ∃ (v1 : Value), ∃ (xs1 : List Value), [(0, (.int .u8 a0)), (1, (.int .u8 a1)), (5, (ptr B2 0)), (6, (.int .i64 i1))] = LL ∧ .row v1 43 6 l1.length xs1 :: .blk B2 (.cells #[(.int .i64 3), (w64 (word (fun _ => false) 0)), (w64 (word (fun _ => false) 1)), (w64 (word (fun _ => false) 2)), (w64 (word (fun _ => false) 3)), v1] 43 (0, 0)) :: O = OO ∧ loopK m (fun p nx => w05_AutomatonCount_b1 fu a0 a1 p.1 p.2 nx) (l1, i1) = some r ∧ LayL cRx HH l1 xs1) fu ⟨([] : List Rx), 0, (.slice none 0 0), [], rfl, rfl, hd, (LayL.nil (c := cRx) (H := H))⟩ (Sub.of rfl) ?_
 intro m1 L1 H1 O1 hl1 hI1
 obtain ⟨l1, i1, v1, xs1, rfl, rfl, hd, hq1⟩ := hI1
 replace hd := loopK_some hd; obtain ⟨m2, rfl, hd⟩ := hd
 obtain ⟨nx1, hn1⟩ : ∃ f, f = loopK m2 (fun p nx => w05_AutomatonCount_b1 fu a0 a1 p.1 p.2 nx) := ⟨_, rfl⟩
 rw [← hn1] at hd
 replace hd : w05_AutomatonCount_b1 fu a0 a1 l1 i1 nx1 = some r := hd
 unfold w05_AutomatonCount_b1 at hd
 refine Wp.seq <| Wp.sr <| Seg.op (OpT.move rfl) rfl <| Seg.op (OpT.move rfl) rfl <| Seg.op (OpT.conv u5 u3 rfl (fits64 (by omega))) rfl <| Seg.op (OpT.lss rfl rfl) rfl <| Seg.nilT ?_
 refine Wp.cond (b := decide (i1 < a0)) rfl (fun hb2 => ?_) (fun hb2 => ?_)
 ·
  replace hd := brT hb2 hd
  replace hb2 := of_decide_eq_true hb2
  refine Wp.skip <| At.then_n <| Wp.seq <| Wp.block ?_
  obtain ⟨x5, hx5, hd⟩ := bnd_some hd
  obtain ⟨ha1, hd⟩ := chk_some hd
  refine Wp.emp <| SegO.runK 3 [an0, ⟨[2], [], []⟩, an0, ⟨[], [], [3]⟩, ⟨[0], [0], [3, 4]⟩, ⟨[0, 1], [1], [3, 5]⟩, an0, ⟨[2], [2], [5]⟩] follows rfl (by kernel_rfl) <| SegO.op (val := fun p1 => (ptr B2 5)) rfl rfl (fun _ => rfl) (fun _ p1 _ hx hf hy => OpT.fld (o' := 5) fl43_2 rfl rfl) rfl <| SegO.op (val := fun p1 => v1) rfl rfl (fun _ => rfl) (fun _ p1 _ hx hf hy => OpT.ldBlk (i := 2) (v := v1) u41 rfl rfl (hy 2 _ rfl rfl) rfl) rfl <| SegO.op (val := fun p1 => (.int .u8 a1)) rfl rfl (fun _ => rfl) (fun _ p1 _ hx hf hy => OpT.move rfl) rfl <| SegO.opF (val := fun p1 => (.agg #[(.int .i64 x5.kind), (w64 (word x5.set 0)), (w64 (word x5.set 1)), (w64 (word x5.set 2)), (w64 (word x5.set 3)), (prj (p1 3) 5)])) (fact := fun p1 HH => SlD cRx HH x5.subs (prj (p1 3) 5)) rfl (fun _ => rfl) (fun _ => rfl) (fun _ _ _ hl h => h.mono hl) (fun _ p1 _ hx hf hy => (OpS.call ent11 rfl (w05_letters_w (by omega) (by omega) hx5)).mono (by rintro v HH OO ⟨⟨v2, rfl, hv1⟩, rfl⟩; exact ⟨rfl, hv1, rfl⟩)) rfl <| SegO.op1s (res := fun p1 => .row (p1 4) 43 6 1 [(.int .i64 x5.kind), (w64 (word x5.set 0)), (w64 (word x5.set 1)), (w64 (word x5.set 2)), (w64 (word x5.set 3)), (prj (p1 3) 5)]) 0 rfl rfl rfl (fun _ => rfl) (fun _ p1 _ hx hf hy => OpS.buildR1 (v := (.agg #[(.int .i64 x5.kind), (w64 (word x5.set 0)), (w64 (word x5.set 1)), (w64 (word x5.set 2)), (w64 (word x5.set 3)), (prj (p1 3) 5)])) (cs := [(.int .i64 x5.kind), (w64 (word x5.set 0)), (w64 (word x5.set 1)), (w64 (word x5.set 2)), (w64 (word x5.set 3)), (prj (p1 3) 5)]) 0 u41 ti43 rfl rfl rfl rfl rfl (hy 0 _ rfl rfl)) rfl (fun _ => ⟨_, _, _, _, rfl⟩) <| SegO.op1s (res := fun p1 => .row (p1 5) 43 6 (l1.length + 1) (xs1 ++ [(.int .i64 x5.kind), (w64 (word x5.set 0)), (w64 (word x5.set 1)), (w64 (word x5.set 2)), (w64 (word x5.set 3)), (prj (p1 3) 5)])) 1 rfl rfl rfl (fun _ => rfl) (fun _ p1 _ hx hf hy => OpS.appR 1 0 u41 ti43 rfl rfl rfl rfl (hy 1 _ rfl rfl) (hy 0 _ rfl rfl) (ones_cons rfl (ones_cons rfl (ones_cons rfl (ones_cons rfl (ones_cons rfl (ones_cons ((hf 3 rfl rfl).one) (ones_nil))))))) rfl ha1) rfl (fun _ => ⟨_, _, _, _, rfl⟩) ?_
  refine SegO.op (val := fun p1 => (ptr B2 5)) rfl rfl (fun _ => rfl) (fun _ p1 _ hx hf hy => OpT.fld (o' := 5) fl43_2 rfl rfl) rfl <| SegO.op1n (res := fun p1 => .blk B2 (.cells #[(.int .i64 3), (w64 (word (fun _ => false) 0)), (w64 (word (fun _ => false) 1)), (w64 (word (fun _ => false) 2)), (w64 (word (fun _ => false) 3)), (p1 5)] 43 (0, 0))) 2 rfl rfl rfl (fun _ => rfl) (fun _ p1 _ hx hf hy => OpS.stR (vs := [(p1 5)]) rfl rfl (cellsL (hf 5 rfl rfl)) ti41 rfl (ones_cons (hf 5 rfl rfl) (ones_nil)) (hy 2 _ rfl rfl) rfl rfl) <| SegO.done fun H2 p1 hl2 hF1 => ?_
  have hf1 : SlD cRx H2 x5.subs (prj (p1 3) 5) := hF1 3
  refine At.sub (L' := [(0, (.int .u8 a0)), (1, (.int .u8 a1)), (5, (ptr B2 0)), (6, (.int .i64 i1))]) (Sub.of rfl) ?_
  refine At.own (O := .row (p1 4) 43 6 ([x5] : List Rx).length [(.int .i64 x5.kind), (w64 (word x5.set 0)), (w64 (word x5.set 1)), (w64 (word x5.set 2)), (w64 (word x5.set 3)), (prj (p1 3) 5)] :: .row (p1 5) 43 6 (l1 ++ ([x5] : List Rx)).length (xs1 ++ [(.int .i64 x5.kind), (w64 (word x5.set 0)), (w64 (word x5.set 1)), (w64 (word x5.set 2)), (w64 (word x5.set 3)), (prj (p1 3) 5)]) :: .blk B2 (.cells #[(.int .i64 3), (w64 (word (fun _ => false) 0)), (w64 (word (fun _ => false) 1)), (w64 (word (fun _ => false) 2)), (w64 (word (fun _ => false) 3)), (p1 5)] 43 (0, 0)) :: O) ?_ (by first | rfl | (simp only [List.length_append, List.length_set]; rfl) | simp)
  have hq2 : LayL cRx H2 (l1 ++ ([x5] : List Rx)) (xs1 ++ [(.int .i64 x5.kind), (w64 (word x5.set 0)), (w64 (word x5.set 1)), (w64 (word x5.set 2)), (w64 (word x5.set 3)), (prj (p1 3) 5)]) := (LayL.app (hq1.mono hl2) (LayL.sing (c := cRx) (a := x5) (cs := [(.int .i64 x5.kind), (w64 (word x5.set 0)), (w64 (word x5.set 1)), (w64 (word x5.set 2)), (w64 (word x5.set 3)), (prj (p1 3) 5)]) (layRx.2 ⟨_, rfl, hf1⟩)))
  refine At.permK [1, 2] 3 rfl rfl rfl <| At.blk_n <| At.then_n ?_
  obtain ⟨ha2, hd⟩ := chk_some hd
  refine Wp.region <| Seg.op (OpT.move rfl) rfl <| Seg.op (OpT.add rfl rfl (fits64 ha2)) rfl <| Seg.op (OpT.assign rfl) rfl <| Seg.nil ?_
  refine At.nextF hl2 ⟨(l1 ++ ([x5] : List Rx)), (i1 + 1), (p1 5), xs1 ++ [(.int .i64 x5.kind), (w64 (word x5.set 0)), (w64 (word x5.set 1)), (w64 (word x5.set 2)), (w64 (word x5.set 3)), (prj (p1 3) 5)], rfl, rfl, (by rw [← hn1]; exact hd), hq2⟩ (Sub.of rfl)
 replace hd := brF hb2 hd
 replace hb2 := of_decide_eq_false hb2
 refine Wp.exit <| At.then_x <| At.then_x <| At.blk_hit <| At.then_n <| Wp.seq ?_
 obtain ⟨x6, hx6, hd⟩ := bnd_some hd
 refine Wp.region <| Seg.op (OpT.ldBlkW (i := 1) u43 rfl ti43 rfl rfl rfl) rfl ?_
 refine Seg.rowLe (i := 0) rfl fun hb3 => ?_
 refine Seg.freeze (i := 0) rfl fun H3 hl3 hs1 => ?_
 have hv2 := SlD.of (c := cRx) hs1 rfl (hq1.mono hl3) hb3
 refine Seg.opS (OpS.call ent12 rfl (au_Of_w (a0 := (Rx.mk 3 (fun _ => false) l1)) hv2 (hG.mono (hl1.trans hl3)) hx6)) rfl ?_
 rintro _ H4 _ hl4 ⟨⟨v3, rfl, hv3⟩, rfl⟩
 refine Seg.op (OpT.move rfl) rfl <| Seg.op (OpT.extract rfl rfl) rfl <| Seg.op (OpT.extract rfl rfl) rfl <| Seg.alloc (cs := #[(.slice none 0 0)]) ti32 rfl rfl fun B3 => Seg.stBlkW (i := 0) (cs' := #[v3]) rfl rfl ti32 rfl rfl (onesA (ones_cons hv3.one (ones_nil))) rfl ?_
 refine Seg.own (O := .blk B3 (.cells #[v3] 32 (0, 0)) :: .blk B2 (.cells #[(.int .i64 3), (w64 (word (fun _ => false) 0)), (w64 (word (fun _ => false) 1)), (w64 (word (fun _ => false) 2)), (w64 (word (fun _ => false) 3)), v1] 43 (0, 0)) :: O) ?_ rfl
 refine Seg.op (OpT.assign rfl) rfl <| Seg.nilT <| Wp.seq <| Wp.seq ?_
 rcases Bool.eq_false_or_eq_true (decide (x6.2 ≠ 0)) with hg4 | hg4
 ·
  replace hd := brT hg4 hd
  have hg4_ := of_decide_eq_true hg4
  refine Wp.region <| Seg.op (OpT.move rfl) rfl <| Seg.op (OpT.asB (b := decide (x6.2 ≠ 0)) (c := true) (OpT.neq rfl rfl) hg4) rfl <| Seg.op (OpT.move rfl) rfl <| Seg.skipG rfl rfl rfl rfl <| Seg.skipG rfl rfl rfl rfl <| Seg.skipG rfl rfl rfl rfl <| Seg.skipG rfl rfl rfl rfl ?_
  refine Seg.skipG rfl rfl rfl rfl <| Seg.skipG rfl rfl rfl rfl <| Seg.skipG rfl rfl rfl rfl <| Seg.op (OpT.pickT rfl rfl) rfl <| Seg.nilT <| Wp.condT rfl <| Wp.sr <| Seg.op (OpT.assign rfl) rfl ?_
  refine Seg.nilT <| Wp.ret <| At.then_r ?_
  obtain rfl := Option.some.inj hd
  exact At.res1 rfl (RV.tmp (v := (.bool false)) rfl) (fun w hs => ⟨rfl, (hs.dropN 2).weaken ((hl1.trans hl3).trans hl4)⟩)
 replace hd := brF hg4 hd
 have hg4_ := of_decide_eq_false hg4
 obtain ⟨ha3, hd⟩ := chk_some hd
 refine Wp.region <| Seg.op (OpT.move rfl) rfl <| Seg.op (OpT.asB (b := decide (x6.2 ≠ 0)) (c := false) (OpT.neq rfl rfl) hg4) rfl <| Seg.op (OpT.move rfl) rfl <| Seg.opG rfl rfl (OpT.fld (o' := 0) fl32_0 rfl rfl) rfl <| Seg.opG rfl rfl (OpT.ldBlk (i := 0) (v := v3) u22 rfl rfl rfl rfl) rfl ?_
 have hb4 := hv3.le
 refine Seg.opG rfl rfl (OpT.len u22 rfl hv3.sl) rfl <| Seg.opG rfl rfl (OpT.move rfl) rfl <| Seg.opG rfl rfl (OpT.conv u5 u3 rfl (fits64 (by omega))) rfl <| Seg.opG rfl rfl (OpT.add rfl rfl (fits64 ha3)) rfl <| Seg.opG rfl rfl (OpT.neq rfl rfl) rfl <| Seg.op (OpT.pickF rfl rfl) rfl <| Seg.nilT ?_
 refine Wp.cond (b := decide ((x6.1.length:Int) ≠ (a0 + 1))) rfl (fun hb5 => ?_) (fun hb5 => ?_)
 ·
  replace hd := brT hb5 hd
  replace hb5 := of_decide_eq_true hb5
  refine Wp.sr <| Seg.op (OpT.assign rfl) rfl <| Seg.nilT <| Wp.ret <| At.then_r ?_
  obtain rfl := Option.some.inj hd
  exact At.res1 rfl (RV.tmp (v := (.bool false)) rfl) (fun w hs => ⟨rfl, (hs.dropN 2).weaken ((hl1.trans hl3).trans hl4)⟩)
 replace hd := brF hb5 hd
 replace hb5 := of_decide_eq_false hb5
 refine Wp.skip <| At.then_n <| Wp.seq <| Wp.sr <| Seg.op (OpT.fld (o' := 0) fl32_0 rfl rfl) rfl <| Seg.op (OpT.ldBlk (i := 0) (v := v3) u22 rfl rfl rfl rfl) rfl ?_
 have hb6 := hv3.le
 refine Seg.op (OpT.len u22 rfl hv3.sl) rfl <| Seg.op (OpT.move rfl) rfl <| Seg.nilT <| Wp.block <| Wp.loopF (fun m LL HH OO => ∃ (k1 : Nat), [(0, (.int .u8 a0)), (1, (.int .u8 a1)), (57, v3), (58, (.int .i64 (x6.1.length:Int))), (59, (.int .i64 (k1:Int)))] = LL ∧ .blk B3 (.cells #[v3] 32 (0, 0)) :: .blk B2 (.cells #[(.int .i64 3), (w64 (word (fun _ => false) 0)), (w64 (word (fun _ => false) 1)), (w64 (word (fun _ => false) 2)), (w64 (word (fun _ => false) 3)), v1] 43 (0, 0)) :: O = OO ∧ loopK m (w05_AutomatonCount_b2 fu a0 a1 x6) k1 = some r) fu ⟨0, rfl, rfl, hd⟩ (Sub.of rfl) ?_
 intro m3 L2 H5 O2 hl5 hI2
 obtain ⟨k1, rfl, rfl, hd⟩ := hI2
 replace hd := loopK_some hd; obtain ⟨m4, rfl, hd⟩ := hd
 obtain ⟨nx2, hn2⟩ : ∃ f, f = loopK m4 (w05_AutomatonCount_b2 fu a0 a1 x6) := ⟨_, rfl⟩
 rw [← hn2] at hd
 replace hd : w05_AutomatonCount_b2 fu a0 a1 x6 k1 nx2 = some r := hd
 unfold w05_AutomatonCount_b2 at hd
 refine Wp.sr <| Seg.op (OpT.lss rfl rfl) rfl <| Seg.nilT <| Wp.seq ?_
 refine Wp.cond (b := decide ((k1:Int) < (x6.1.length:Int))) rfl (fun hb7 => ?_) (fun hb7 => ?_)
 ·
  replace hd := brT hb7 hd
  replace hb7 := of_decide_eq_true hb7
  refine Wp.skip <| At.then_n <| Wp.seq <| Wp.block <| Wp.seq ?_
  obtain ⟨x7, hx7, hd⟩ := bnd_some hd
  have hx7_ := idx_bd hx7
  refine Wp.region <| Seg.op (OpT.move rfl) rfl ?_
  obtain ⟨_, ⟨_, _, rfl, rfl, ⟨v4, rfl, hv4⟩⟩, hc1⟩ := SlD.get (hv3.mono hl5) hx7
  refine Seg.op (OpT.ixSl u22 ti30 rfl (hv3.mono hl5).sl rfl (idx_bd hx7)) rfl <| Seg.op (OpT.ldHA (vs := [(.bool x7.1), v4]) u30 rfl ti30 rfl rfl (fun j u hj => (hc1 j u hj))) rfl <| Seg.alloc (cs := #[(.bool false), (.slice none 0 0)]) ti30 rfl rfl fun B4 => Seg.op (OpT.assign rfl) rfl <| Seg.stBlkW (i := 0) (cs' := #[(.bool x7.1), v4]) rfl rfl ti30 rfl rfl (onesA (ones_cons rfl (ones_cons hv4.one (ones_nil)))) rfl ?_
  refine Seg.own (O := .blk B4 (.cells #[(.bool x7.1), v4] 30 (0, 0)) :: .blk B3 (.cells #[v3] 32 (0, 0)) :: .blk B2 (.cells #[(.int .i64 3), (w64 (word (fun _ => false) 0)), (w64 (word (fun _ => false) 1)), (w64 (word (fun _ => false) 2)), (w64 (word (fun _ => false) 3)), v1] 43 (0, 0)) :: O) ?_ rfl
  refine Seg.nilT <| Wp.seq ?_
  rcases Bool.eq_false_or_eq_true (!(x7.1 == (decide ((k1:Int) = a0)))) with hg5 | hg5
  ·
   replace hd := brT hg5 hd
   refine Wp.region <| Seg.op (OpT.fld (o' := 0) fl30_0 rfl rfl) rfl <| Seg.op (OpT.ldBlk (i := 0) (v := (.bool x7.1)) u4 rfl rfl rfl rfl) rfl <| Seg.op (OpT.move rfl) rfl <| Seg.op (OpT.move rfl) rfl <| Seg.op (OpT.conv u5 u3 rfl (fits64 (by omega))) rfl <| Seg.op (OpT.eql rfl rfl) rfl <| Seg.op (OpT.asB (b := !(x7.1 == (decide ((k1:Int) = a0)))) (c := true) (OpT.neB u4 rfl rfl) hg5) rfl ?_
   refine Seg.op (OpT.move rfl) rfl <| Seg.skipG rfl rfl rfl rfl <| Seg.skipG rfl rfl rfl rfl <| Seg.skipG rfl rfl rfl rfl <| Seg.skipG rfl rfl rfl rfl <| Seg.skipG rfl rfl rfl rfl <| Seg.skipU rfl rfl rfl <| Seg.skipU rfl rfl rfl ?_
   refine Seg.skipU rfl rfl rfl <| Seg.skipU rfl rfl rfl <| Seg.skipU rfl rfl rfl <| Seg.skipU rfl rfl rfl <| Seg.skipU rfl rfl rfl <| Seg.skipU rfl rfl rfl <| Seg.skipU rfl rfl rfl <| Seg.skipU rfl rfl rfl ?_
   refine Seg.skipU rfl rfl rfl <| Seg.skipU rfl rfl rfl <| Seg.skipU rfl rfl rfl <| Seg.skipU rfl rfl rfl <| Seg.skipU rfl rfl rfl <| Seg.skipG rfl rfl rfl rfl <| Seg.op (OpT.pickT rfl rfl) rfl <| Seg.nilT ?_
   refine Wp.condT rfl <| Wp.sr <| Seg.op (OpT.assign rfl) rfl <| Seg.nilT <| Wp.ret <| At.blk_r <| At.then_r <| At.then_r ?_
   refine At.blk_r <| At.then_r ?_
   obtain rfl := Option.some.inj hd
   exact At.res1 rfl (RV.tmp (v := (.bool false)) rfl) (fun w hs => ⟨rfl, (hs.dropN 3).weaken (((hl1.trans hl3).trans hl4).trans hl5)⟩)
  replace hd := brF hg5 hd
  rcases Bool.eq_false_or_eq_true (decide ((k1:Int) < a0)) with hg6 | hg6
  ·
   replace hd := brT hg6 hd
   have hg6_ := of_decide_eq_true hg6
   rcases Bool.eq_false_or_eq_true (decide ((x7.2.length:Int) ≠ 1)) with hg7 | hg7
   ·
    replace hd := brT hg7 hd
    have hg7_ := of_decide_eq_true hg7
    refine Wp.region <| Seg.op (OpT.fld (o' := 0) fl30_0 rfl rfl) rfl <| Seg.op (OpT.ldBlk (i := 0) (v := (.bool x7.1)) u4 rfl rfl rfl rfl) rfl <| Seg.op (OpT.move rfl) rfl <| Seg.op (OpT.move rfl) rfl <| Seg.op (OpT.conv u5 u3 rfl (fits64 (by omega))) rfl <| Seg.op (OpT.eql rfl rfl) rfl <| Seg.op (OpT.asB (b := !(x7.1 == (decide ((k1:Int) = a0)))) (c := false) (OpT.neB u4 rfl rfl) hg5) rfl ?_
    refine Seg.op (OpT.move rfl) rfl <| Seg.opG rfl rfl (OpT.move rfl) rfl <| Seg.opG rfl rfl (OpT.move rfl) rfl <| Seg.opG rfl rfl (OpT.conv u5 u3 rfl (fits64 (by omega))) rfl <| Seg.opG rfl rfl (OpT.asB (b := decide ((k1:Int) < a0)) (c := true) (OpT.lss rfl rfl) hg6) rfl <| Seg.opG rfl rfl (OpT.move rfl) rfl <| Seg.opG rfl rfl (OpT.fld (o' := 1) fl30_1 rfl rfl) rfl <| Seg.opG rfl rfl (OpT.ldBlk (i := 0) (v := v4) u28 rfl rfl rfl rfl) rfl ?_
    have hb8 := hv4.le
    refine Seg.opG rfl rfl (OpT.len u28 rfl hv4.sl) rfl <| Seg.opG rfl rfl (OpT.asB (b := decide ((x7.2.length:Int) ≠ 1)) (c := true) (OpT.neq rfl rfl) hg7) rfl <| Seg.opG rfl rfl (OpT.move rfl) rfl <| Seg.skipG rfl rfl rfl rfl <| Seg.skipG rfl rfl rfl rfl <| Seg.skipG rfl rfl rfl rfl <| Seg.skipG rfl rfl rfl rfl <| Seg.skipG rfl rfl rfl rfl ?_
    refine Seg.skipG rfl rfl rfl rfl <| Seg.skipG rfl rfl rfl rfl <| Seg.skipG rfl rfl rfl rfl <| Seg.skipG rfl rfl rfl rfl <| Seg.opG rfl rfl (OpT.pickT rfl rfl) rfl <| Seg.opG rfl rfl (OpT.pickT rfl rfl) rfl <| Seg.op (OpT.pickF rfl rfl) rfl <| Seg.nilT ?_
    refine Wp.condT rfl <| Wp.sr <| Seg.op (OpT.assign rfl) rfl <| Seg.nilT <| Wp.ret <| At.blk_r <| At.then_r <| At.then_r ?_
    refine At.blk_r <| At.then_r ?_
    obtain rfl := Option.some.inj hd
    exact At.res1 rfl (RV.tmp (v := (.bool false)) rfl) (fun w hs => ⟨rfl, (hs.dropN 3).weaken (((hl1.trans hl3).trans hl4).trans hl5)⟩)
   replace hd := brF hg7 hd
   have hg7_ := of_decide_eq_false hg7
   obtain ⟨x8, hx8, hd⟩ := bnd_some hd
   have hx8_ := idx_bd hx8
   refine Wp.region <| Seg.op (OpT.fld (o' := 0) fl30_0 rfl rfl) rfl <| Seg.op (OpT.ldBlk (i := 0) (v := (.bool x7.1)) u4 rfl rfl rfl rfl) rfl <| Seg.op (OpT.move rfl) rfl <| Seg.op (OpT.move rfl) rfl <| Seg.op (OpT.conv u5 u3 rfl (fits64 (by omega))) rfl <| Seg.op (OpT.eql rfl rfl) rfl <| Seg.op (OpT.asB (b := !(x7.1 == (decide ((k1:Int) = a0)))) (c := false) (OpT.neB u4 rfl rfl) hg5) rfl ?_
   refine Seg.op (OpT.move rfl) rfl <| Seg.opG rfl rfl (OpT.move rfl) rfl <| Seg.opG rfl rfl (OpT.move rfl) rfl <| Seg.opG rfl rfl (OpT.conv u5 u3 rfl (fits64 (by omega))) rfl <| Seg.opG rfl rfl (OpT.asB (b := decide ((k1:Int) < a0)) (c := true) (OpT.lss rfl rfl) hg6) rfl <| Seg.opG rfl rfl (OpT.move rfl) rfl <| Seg.opG rfl rfl (OpT.fld (o' := 1) fl30_1 rfl rfl) rfl <| Seg.opG rfl rfl (OpT.ldBlk (i := 0) (v := v4) u28 rfl rfl rfl rfl) rfl ?_
   have hb8 := hv4.le
   refine Seg.opG rfl rfl (OpT.len u28 rfl hv4.sl) rfl <| Seg.opG rfl rfl (OpT.asB (b := decide ((x7.2.length:Int) ≠ 1)) (c := false) (OpT.neq rfl rfl) hg7) rfl <| Seg.opG rfl rfl (OpT.move rfl) rfl <| Seg.opG rfl rfl (OpT.fld (o' := 1) fl30_1 rfl rfl) rfl <| Seg.opG rfl rfl (OpT.ldBlk (i := 0) (v := v4) u28 rfl rfl rfl rfl) rfl ?_
   obtain ⟨_, ⟨_, _, rfl, ⟨rfl, hr5, hr6⟩, ⟨_, _, rfl, ⟨rfl, hr7, hr8⟩, rfl⟩⟩, hc2⟩ := SlD.get hv4 hx8
   refine Seg.opG rfl rfl (OpT.ixSl u28 ti27 rfl hv4.sl rfl (idx_bd hx8)) rfl <| Seg.opG rfl rfl (OpT.ldHA (vs := [(.int .u8 x8.1), (.int .u8 x8.2.1), (.int .i64 x8.2.2)]) u27 rfl ti27 rfl rfl (fun j u hj => (hc2 j u hj))) rfl <| Seg.opG rfl rfl (OpT.move rfl) rfl <| Seg.opG rfl rfl (OpT.move rfl) rfl <| Seg.opG rfl rfl (OpT.add rfl rfl (fits64 (by omega))) rfl <| Seg.opG rfl rfl (OpT.buildS (vs := [(0, (.int .u8 97)), (1, (.int .u8 a1)), (2, (.int .i64 ((k1:Int) + 1)))]) (cs := #[(.int .u8 97), (.int .u8 a1), (.int .i64 ((k1:Int) + 1))]) plf27 ti27 rfl rfl (vc_cons rfl (vc_cons rfl (vc_cons rfl (vc_nil)))) rfl) rfl <| Seg.opG rfl rfl (OpT.neInts (xs := [x8.1, x8.2.1, x8.2.2]) (ys := [97, a1, (k1:Int) + 1]) ints27 rfl rfl rfl rfl) rfl <| Seg.opG rfl rfl (OpT.pickF rfl rfl) rfl ?_
   refine Seg.opG rfl rfl (OpT.pickT rfl rfl) rfl <| Seg.op (OpT.pickF rfl rfl) rfl <| Seg.nilT ?_
   refine Wp.cond (b := !(decide (([x8.1, x8.2.1, x8.2.2] : List Int) = [97, a1, (k1:Int) + 1]))) rfl (fun hb9 => ?_) (fun hb9 => ?_)
   ·
    replace hd := brT hb9 hd
    refine Wp.sr <| Seg.op (OpT.assign rfl) rfl <| Seg.nilT <| Wp.ret <| At.blk_r <| At.then_r <| At.then_r <| At.blk_r ?_
    refine At.then_r ?_
    obtain rfl := Option.some.inj hd
    exact At.res1 rfl (RV.tmp (v := (.bool false)) rfl) (fun w hs => ⟨rfl, (hs.dropN 3).weaken (((hl1.trans hl3).trans hl4).trans hl5)⟩)
   replace hd := brF hb9 hd
   refine Wp.skip <| At.blk_n <| At.then_n <| Wp.region <| Seg.op (OpT.add rfl rfl (fits64 (by omega))) rfl <| Seg.op (OpT.move rfl) rfl <| Seg.nil <| At.permK [1, 2] 3 rfl rfl rfl ?_
   refine At.nextF (Hp.le.refl _) ⟨(k1 + 1), rfl, rfl, (by rw [← hn2]; exact hd)⟩ (Sub.of rfl)
  replace hd := brF hg6 hd
  have hg6_ := of_decide_eq_false hg6
  refine Wp.region <| Seg.op (OpT.fld (o' := 0) fl30_0 rfl rfl) rfl <| Seg.op (OpT.ldBlk (i := 0) (v := (.bool x7.1)) u4 rfl rfl rfl rfl) rfl <| Seg.op (OpT.move rfl) rfl <| Seg.op (OpT.move rfl) rfl <| Seg.op (OpT.conv u5 u3 rfl (fits64 (by omega))) rfl <| Seg.op (OpT.eql rfl rfl) rfl <| Seg.op (OpT.asB (b := !(x7.1 == (decide ((k1:Int) = a0)))) (c := false) (OpT.neB u4 rfl rfl) hg5) rfl ?_
  refine Seg.op (OpT.move rfl) rfl <| Seg.opG rfl rfl (OpT.move rfl) rfl <| Seg.opG rfl rfl (OpT.move rfl) rfl <| Seg.opG rfl rfl (OpT.conv u5 u3 rfl (fits64 (by omega))) rfl <| Seg.opG rfl rfl (OpT.asB (b := decide ((k1:Int) < a0)) (c := false) (OpT.lss rfl rfl) hg6) rfl <| Seg.opG rfl rfl (OpT.move rfl) rfl <| Seg.skipG rfl rfl rfl rfl <| Seg.skipG rfl rfl rfl rfl ?_
  refine Seg.skipG rfl rfl rfl rfl <| Seg.skipG rfl rfl rfl rfl <| Seg.skipG rfl rfl rfl rfl <| Seg.skipU rfl rfl rfl <| Seg.skipU rfl rfl rfl <| Seg.skipU rfl rfl rfl <| Seg.skipU rfl rfl rfl <| Seg.skipU rfl rfl rfl ?_
  refine Seg.skipU rfl rfl rfl <| Seg.skipU rfl rfl rfl <| Seg.skipU rfl rfl rfl <| Seg.skipU rfl rfl rfl <| Seg.skipG rfl rfl rfl rfl <| Seg.opG rfl rfl (OpT.pickF rfl rfl) rfl <| Seg.op (OpT.pickF rfl rfl) rfl <| Seg.nilT ?_
  refine Wp.condF rfl <| Wp.skip <| At.blk_n <| At.then_n <| Wp.region <| Seg.op (OpT.add rfl rfl (fits64 (by omega))) rfl <| Seg.op (OpT.move rfl) rfl <| Seg.nil ?_
  refine At.permK [1, 2] 3 rfl rfl rfl ?_
  refine At.nextF (Hp.le.refl _) ⟨(k1 + 1), rfl, rfl, (by rw [← hn2]; exact hd)⟩ (Sub.of rfl)
 replace hd := brF hb7 hd
 replace hb7 := of_decide_eq_false hb7
 refine Wp.exit <| At.then_x <| At.then_x <| At.blk_hit <| At.then_n <| Wp.seq ?_
 obtain ⟨x9, hx9, hd⟩ := bnd_some hd
 refine Wp.region <| Seg.op (OpT.call ent7 rfl (w05_alive_w (hG.mono (((hl1.trans hl3).trans hl4).trans hl5)) hx9)) rfl <| Seg.op (OpT.assign rfl) rfl <| Seg.nilT <| Wp.ret ?_
 obtain rfl := Option.some.inj hd
 exact At.res1 rfl (RV.tmp (v := (.bool x9)) rfl) (fun w hs => ⟨rfl, (hs.dropN 2).weaken (((hl1.trans hl3).trans hl4).trans hl5)⟩)
end Go.Proofs.YtjmbmodmepdmjabDoor
