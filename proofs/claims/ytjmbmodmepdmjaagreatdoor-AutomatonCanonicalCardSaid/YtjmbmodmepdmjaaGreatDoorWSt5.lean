/- Walks, written by a program. -/
import Derived.Test.YtjmbmodmepdmjaaGreatDoorW1b
import Derived.Test.YtjmbmodmepdmjaaGreatDoorDSt5
namespace Go.Proofs.YtjmbmodmepdmjaaGreatDoor
open Go.GK
variable {H : Hp} {O : List Res}

set_option maxRecDepth 100000 in
set_option maxHeartbeats 4000000 in
theorem r05_Starts_w {fu : Nat} {a0 : List (Bool × (List (Int × Int × Int)))} {v1 : Value} {r : List Int} (hv1 : SlD (cP cB (cL (cP cU8 (cP cU8 cI64)))) H a0 v1) (hd : r05_Starts fu a0 = some r) :
    Tri Tryz.prog 30 [v1] H O (fun v H' O' => ∃ (v1 : Value) (xs1 : List Value), v1 = v ∧ LayL cI64 H' r xs1 ∧ .row v1 3 1 r.length xs1 :: O = O') := by
 intro w hs
 refine wp_of Tryz.func30 rfl rfl rfl ?_ hs
 clear hs w
 unfold r05_Starts at hd
 refine Wp.sr <| Seg.op (OpT.assign rfl) rfl <| Seg.nilT <| Wp.sr <| Seg.alloc (cs := (List.replicate 257 (.bool false)).toArray) ti91 rfl rfl fun B2 => ?_
 have hq1 : LayL cB H (List.replicate 257 false : List Bool) ((List.replicate 257 (.bool false)).toArray).toList := LayL.repl rfl 257
 refine Seg.nilT <| Wp.seq ?_
 obtain ⟨x1, hx1, hd⟩ := bnd_some hd
 refine Wp.region ?_
 obtain ⟨_, rfl, hc1, hc1_⟩ := LayL.get hq1 (idx_some hx1).2
 have hn1 := LayL.lenA hq1 (szRep 257 _)
 refine Seg.op (OpT.ixArr (off' := 0 * 1) u91 ti4 rfl rfl (by have := idx_bd hx1; simp only [cB, cI64, cU8] at hn1; omega) (by simp)) rfl ?_
 refine Seg.stA (q := 0) (y := true) (i := 0) hq1 (szRep 257 _) (idx_bd hx1) rfl rfl rfl ti4 rfl (rfl) (fun cs1 hq2 => ?_)
 refine Seg.nilT <| Wp.seq <| Wp.sr <| Seg.op (OpT.move rfl) rfl ?_
 have hb1 := hv1.le
 refine Seg.op (OpT.len u22 rfl hv1.sl) rfl <| Seg.op (OpT.move rfl) rfl <| Seg.nilT <| Wp.block <| Wp.loopF (fun m LL HH OO => ∃ (l1 : List Bool), ∃ (k1 : Nat), ∃ (cs2 : Array Value), [(3, (ptr B2 0)), (11, v1), (12, (.int .i64 (a0.length:Int))), (13, (.int .i64 (k1:Int)))] = LL ∧ .blk B2 (.cells cs2 91 (0, 0)) :: O = OO ∧ loopK m (fun p nx => r05_Starts_b1 fu a0 p.1 p.2 nx) (l1, k1) = some r ∧ LayL cB HH l1 cs2.toList ∧ cs2.size = 257) fu ⟨((List.replicate 257 false : List Bool).set 0 true), 0, cs1, rfl, rfl, hd, ⟨hq2.1, hq2.2⟩⟩ (Sub.of rfl) ?_
 intro m1 L1 H1 O1 hl1 hI1
 obtain ⟨l1, k1, cs2, rfl, rfl, hd, hq3⟩ := hI1
 replace hd := loopK_some hd; obtain ⟨m2, rfl, hd⟩ := hd
 obtain ⟨nx1, hn2⟩ : ∃ f, f = loopK m2 (fun p nx => r05_Starts_b1 fu a0 p.1 p.2 nx) := ⟨_, rfl⟩
 rw [← hn2] at hd
 replace hd : r05_Starts_b1 fu a0 l1 k1 nx1 = some r := hd
 unfold r05_Starts_b1 at hd
 refine Wp.sr <| Seg.op (OpT.lss rfl rfl) rfl <| Seg.nilT <| Wp.seq ?_
 refine Wp.cond (b := decide ((k1:Int) < (a0.length:Int))) rfl (fun hb2 => ?_) (fun hb2 => ?_)
 ·
  replace hd := brT hb2 hd
  replace hb2 := of_decide_eq_true hb2
  refine Wp.skip <| At.then_n <| Wp.seq <| Wp.block <| Wp.seq ?_
  obtain ⟨x2, hx2, hd⟩ := bnd_some hd
  have hx2_ := idx_bd hx2
  refine Wp.region ?_
  obtain ⟨_, ⟨_, _, rfl, rfl, ⟨v2, rfl, hv2⟩⟩, hc2⟩ := SlD.get (hv1.mono hl1) hx2
  refine Seg.op (OpT.ixSl u22 ti43 rfl (hv1.mono hl1).sl rfl (idx_bd hx2)) rfl <| Seg.op (OpT.ldHA (vs := [(.bool x2.1), v2]) u43 rfl ti43 rfl rfl (fun j u hj => (hc2 j u hj))) rfl <| Seg.alloc (cs := #[(.bool false), (.slice none 0 0)]) ti43 rfl rfl fun B3 => Seg.stBlkW (i := 0) (cs' := #[(.bool x2.1), v2]) rfl rfl ti43 rfl rfl (onesA (ones_cons rfl (ones_cons hv2.one (ones_nil)))) rfl ?_
  refine Seg.own (O := .blk B3 (.cells #[(.bool x2.1), v2] 43 (0, 0)) :: .blk B2 (.cells cs2 91 (0, 0)) :: O) ?_ rfl
  refine Seg.nilT <| Wp.sr <| Seg.op (OpT.fld (o' := 1) fl43_1 rfl rfl) rfl <| Seg.op (OpT.ldBlk (i := 0) (v := v2) u41 rfl rfl rfl rfl) rfl ?_
  have hb3 := hv2.le
  refine Seg.op (OpT.len u41 rfl hv2.sl) rfl <| Seg.op (OpT.move rfl) rfl <| Seg.nilT <| Wp.block <| Wp.loopF (fun m LL HH OO => ∃ (l2 : List Bool), ∃ (k2 : Nat), ∃ (cs3 : Array Value), [(3, (ptr B2 0)), (11, v1), (12, (.int .i64 (a0.length:Int))), (13, (.int .i64 (k1:Int))), (18, v2), (19, (.int .i64 (x2.2.length:Int))), (20, (.int .i64 (k2:Int)))] = LL ∧ .blk B3 (.cells #[(.bool x2.1), v2] 43 (0, 0)) :: .blk B2 (.cells cs3 91 (0, 0)) :: O = OO ∧ loopK m (fun p nx => r05_Starts_b2 fu k1 nx1 x2 p.1 p.2 nx) (l2, k2) = some r ∧ LayL cB HH l2 cs3.toList ∧ cs3.size = 257) fu ⟨l1, 0, cs2, rfl, rfl, hd, ⟨hq3.1, hq3.2⟩⟩ (Sub.of rfl) ?_
  intro m3 L2 H2 O2 hl2 hI2
  obtain ⟨l2, k2, cs3, rfl, rfl, hd, hq4⟩ := hI2
  replace hd := loopK_some hd; obtain ⟨m4, rfl, hd⟩ := hd
  obtain ⟨nx2, hn3⟩ : ∃ f, f = loopK m4 (fun p nx => r05_Starts_b2 fu k1 nx1 x2 p.1 p.2 nx) := ⟨_, rfl⟩
  rw [← hn3] at hd
  replace hd : r05_Starts_b2 fu k1 nx1 x2 l2 k2 nx2 = some r := hd
  unfold r05_Starts_b2 at hd
  refine Wp.sr <| Seg.op (OpT.lss rfl rfl) rfl <| Seg.nilT <| Wp.seq ?_
  refine Wp.cond (b := decide ((k2:Int) < (x2.2.length:Int))) rfl (fun hb4 => ?_) (fun hb4 => ?_)
  ·
   replace hd := brT hb4 hd
   replace hb4 := of_decide_eq_true hb4
   refine Wp.skip <| At.then_n <| Wp.seq <| Wp.block <| Wp.seq ?_
   obtain ⟨x3, hx3, hd⟩ := bnd_some hd
   have hx3_ := idx_bd hx3
   refine Wp.region ?_
   obtain ⟨_, ⟨_, _, rfl, ⟨rfl, hr1, hr2⟩, ⟨_, _, rfl, ⟨rfl, hr3, hr4⟩, rfl⟩⟩, hc3⟩ := SlD.get (hv2.mono hl2) hx3
   refine Seg.op (OpT.ixSl u41 ti46 rfl (hv2.mono hl2).sl rfl (idx_bd hx3)) rfl <| Seg.op (OpT.ldHA (vs := [(.int .u8 x3.1), (.int .u8 x3.2.1), (.int .i64 x3.2.2)]) u46 rfl ti46 rfl rfl (fun j u hj => (hc3 j u hj))) rfl <| Seg.alloc (cs := #[(.int .u8 0), (.int .u8 0), (.int .i64 0)]) ti46 rfl rfl fun B4 => Seg.stBlkW (i := 0) (cs' := #[(.int .u8 x3.1), (.int .u8 x3.2.1), (.int .i64 x3.2.2)]) rfl rfl ti46 rfl rfl (onesA (ones_cons rfl (ones_cons rfl (ones_cons rfl (ones_nil))))) rfl ?_
   refine Seg.own (O := .blk B4 (.cells #[(.int .u8 x3.1), (.int .u8 x3.2.1), (.int .i64 x3.2.2)] 46 (0, 0)) :: .blk B3 (.cells #[(.bool x2.1), v2] 43 (0, 0)) :: .blk B2 (.cells cs3 91 (0, 0)) :: O) ?_ rfl
   refine Seg.nilT <| Wp.seq ?_
   obtain ⟨x4, hx4, hd⟩ := bnd_some hd
   refine Wp.region <| Seg.op (OpT.fld (o' := 0) fl46_0 rfl rfl) rfl <| Seg.op (OpT.ldBlk (i := 0) (v := (.int .u8 x3.1)) u5 rfl rfl rfl rfl) rfl <| Seg.op (OpT.conv u5 u3 rfl (fits64 (by omega))) rfl ?_
   obtain ⟨_, rfl, hc4, hc4_⟩ := LayL.get hq4.1 (idx_some hx4).2
   have hn4 := LayL.lenA hq4.1 hq4.2
   refine Seg.op (OpT.ixArr (off' := x3.1.toNat * 1) u91 ti4 rfl rfl (by have := idx_bd hx4; simp only [cB, cI64, cU8] at hn4; omega) (by simp)) rfl ?_
   refine Seg.stA (q := 2) (y := true) (i := x3.1) hq4.1 hq4.2 (idx_bd hx4) rfl rfl rfl ti4 rfl (rfl) (fun cs4 hq5 => ?_)
   refine Seg.nilT ?_
   obtain ⟨ha1, hd⟩ := chk_some hd
   obtain ⟨x5, hx5, hd⟩ := bnd_some hd
   refine Wp.region <| Seg.op (OpT.fld (o' := 1) fl46_1 rfl rfl) rfl <| Seg.op (OpT.ldBlk (i := 0) (v := (.int .u8 x3.2.1)) u5 rfl rfl rfl rfl) rfl <| Seg.op (OpT.conv u5 u3 rfl (fits64 (by omega))) rfl <| Seg.op (OpT.add rfl rfl (fits64 ha1)) rfl ?_
   obtain ⟨_, rfl, hc5, hc5_⟩ := LayL.get hq5.1 (idx_some hx5).2
   have hn5 := LayL.lenA hq5.1 hq5.2
   refine Seg.op (OpT.ixArr (off' := ((x3.2.1 + 1).toNat) * 1) u91 ti4 rfl rfl (by have := idx_bd hx5; simp only [cB, cI64, cU8] at hn5; omega) (by simp)) rfl ?_
   refine Seg.stA (q := 2) (y := true) (i := (x3.2.1 + 1)) hq5.1 hq5.2 (idx_bd hx5) rfl rfl rfl ti4 rfl (rfl) (fun cs5 hq6 => ?_)
   refine Seg.nil <| At.blk_n <| At.then_n <| Wp.region <| Seg.op (OpT.add rfl rfl (fits64 (by omega))) rfl <| Seg.op (OpT.move rfl) rfl <| Seg.nil <| At.permK [1, 2] 3 rfl rfl rfl ?_
   refine At.nextF (Hp.le.refl _) ⟨((l2.set x3.1.toNat true).set ((x3.2.1 + 1).toNat) true), (k2 + 1), cs5, rfl, rfl, (by rw [← hn3]; exact hd), ⟨hq6.1, hq6.2⟩⟩ (Sub.of rfl)
  replace hd := brF hb4 hd
  replace hb4 := of_decide_eq_false hb4
  refine Wp.exit <| At.then_x <| At.then_x <| At.blk_hit <| At.blk_n <| At.then_n <| Wp.region <| Seg.op (OpT.add rfl rfl (fits64 (by omega))) rfl ?_
  refine Seg.op (OpT.move rfl) rfl <| Seg.nil <| At.permK [1] 2 rfl rfl rfl ?_
  refine At.nextF hl2 ⟨l2, (k1 + 1), cs3, rfl, rfl, (by rw [← hn2]; exact hd), ⟨hq4.1, hq4.2⟩⟩ (Sub.of rfl)
 replace hd := brF hb2 hd
 replace hb2 := of_decide_eq_false hb2
 refine Wp.exit <| At.then_x <| At.then_x <| At.blk_hit <| At.then_n <| Wp.sr <| Seg.op (OpT.assign rfl) rfl <| Seg.nilT ?_
 refine Wp.seq <| Wp.sr <| Seg.op (OpT.assign rfl) rfl <| Seg.nilT <| Wp.block <| Wp.nilRow 3 1 <| Wp.loopF (fun m LL HH OO => ∃ (l3 : List Int), ∃ (k3 : Nat), ∃ (v3 : Value), ∃ (xs2 : List Value), [(3, (ptr B2 0)), (8, v3), (9, (.int .i64 (k3:Int)))] = LL ∧ .row v3 3 1 l3.length xs2 :: .blk B2 (.cells cs2 91 (0, 0)) :: O = OO ∧ loopK m (fun p nx => r05_Starts_b3 fu l1 p.1 p.2 nx) (l3, k3) = some r ∧ LayL cI64 HH l3 xs2) fu ⟨([] : List Int), 0, (.slice none 0 0), [], rfl, rfl, hd, (LayL.nil (c := cI64) (H := H1))⟩ (Sub.of rfl) ?_
 intro m5 L3 H3 O3 hl3 hI3
 obtain ⟨l3, k3, v3, xs2, rfl, rfl, hd, hq7⟩ := hI3
 replace hd := loopK_some hd; obtain ⟨m6, rfl, hd⟩ := hd
 obtain ⟨nx3, hn6⟩ : ∃ f, f = loopK m6 (fun p nx => r05_Starts_b3 fu l1 p.1 p.2 nx) := ⟨_, rfl⟩
 rw [← hn6] at hd
 replace hd : r05_Starts_b3 fu l1 l3 k3 nx3 = some r := hd
 unfold r05_Starts_b3 at hd
 refine Wp.seq <| Wp.sr <| Seg.op (OpT.move rfl) rfl <| Seg.op (OpT.lss rfl rfl) rfl <| Seg.nilT ?_
 refine Wp.cond (b := decide ((k3:Int) < 256)) rfl (fun hb5 => ?_) (fun hb5 => ?_)
 ·
  replace hd := brT hb5 hd
  replace hb5 := of_decide_eq_true hb5
  refine Wp.skip <| At.then_n <| Wp.seq <| Wp.block <| Wp.seq ?_
  obtain ⟨x6, hx6, hd⟩ := bnd_some hd
  refine Wp.region <| Seg.op (OpT.move rfl) rfl ?_
  obtain ⟨_, rfl, hc6, hc6_⟩ := LayL.get (hq3.1.mono hl3) (idx_some hx6).2
  have hn7 := LayL.lenA (hq3.1.mono hl3) hq3.2
  refine Seg.op (OpT.ixArr (off' := k3 * 1) u91 ti4 rfl rfl (by have := idx_bd hx6; simp only [cB, cI64, cU8] at hn7; omega) (by simp)) rfl <| Seg.op (OpT.ldBlk (i := 1) (v := (.bool x6)) u4 rfl rfl rfl (by have := hc6 0 _ rfl; simpa [cB, cI64, cU8] using this)) rfl <| Seg.nilT ?_
  refine Wp.cond (b := x6) rfl (fun hb6 => ?_) (fun hb6 => ?_)
  ·
   replace hd := brT hb6 hd
   obtain ⟨ha2, hd⟩ := chk_some hd
   refine Wp.region <| Seg.op (OpT.move rfl) rfl <| Seg.op (OpT.move rfl) rfl <| Seg.buildD1 (c := cI64) (y := (k3:Int)) (cs := [(.int .i64 (k3:Int))]) u55 ti3 rfl rfl rfl rfl (rfl) rfl fun v4 xs3 hq8 => Seg.appD (i := 1) (j := 0) hq7 hq8 u55 ti3 rfl (by decide) rfl rfl rfl rfl (by decide) ha2 rfl fun v5 xs4 hq9 => Seg.drop (i := 0) <| Seg.op (OpT.assign rfl) rfl <| Seg.nil ?_
   refine At.blk_n <| At.then_n <| Wp.region <| Seg.op (OpT.move rfl) rfl <| Seg.op (OpT.add rfl rfl (fits64 (by omega))) rfl <| Seg.op (OpT.assign rfl) rfl <| Seg.nil ?_
   refine At.nextF (Hp.le.refl _) ⟨(l3 ++ ([(k3:Int)] : List Int)), (k3 + 1), v5, xs4, rfl, rfl, (by rw [← hn6]; exact hd), hq9⟩ (Sub.of rfl)
  replace hd := brF hb6 hd
  refine Wp.skip <| At.blk_n <| At.then_n <| Wp.region <| Seg.op (OpT.move rfl) rfl <| Seg.op (OpT.add rfl rfl (fits64 (by omega))) rfl <| Seg.op (OpT.assign rfl) rfl <| Seg.nil ?_
  refine At.nextF (Hp.le.refl _) ⟨l3, (k3 + 1), v3, xs2, rfl, rfl, (by rw [← hn6]; exact hd), hq7⟩ (Sub.of rfl)
 replace hd := brF hb5 hd
 replace hb5 := of_decide_eq_false hb5
 refine Wp.exit <| At.then_x <| At.then_x <| At.blk_hit <| At.then_n <| Wp.sr <| Seg.op (OpT.move rfl) rfl <| Seg.op (OpT.assign rfl) rfl ?_
 refine Seg.nilT <| Wp.ret ?_
 obtain rfl := Option.some.inj hd
 exact At.res1 rfl (RV.tmp (v := v3) rfl) (fun w hs => ⟨_, _, _, rfl, (hl1.trans hl3), (hs.permK [0] 2 rfl rfl rfl), _, _, rfl, hq7, rfl⟩)
end Go.Proofs.YtjmbmodmepdmjaaGreatDoor
