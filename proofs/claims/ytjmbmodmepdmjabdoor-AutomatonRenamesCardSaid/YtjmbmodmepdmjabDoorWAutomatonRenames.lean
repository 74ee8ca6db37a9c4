/- Walks, written by a program. -/
import Derived.Test.YtjmbmodmepdmjabDoorW1b
import Derived.Test.YtjmbmodmepdmjabDoorWWf
import Derived.Test.YtjmbmodmepdmjabDoorDAutomatonRenames
namespace Go.Proofs.YtjmbmodmepdmjabDoor
open Go.GK
variable {H : Hp} {O : List Res}

set_option maxRecDepth 100000 in
set_option maxHeartbeats 4000000 in
theorem w05_renamed_w {fu : Nat} {a0 : List (Bool × (List (Int × Int × Int)))} {a1 : Int} {v1 : Value} {r : List (Bool × (List (Int × Int × Int)))} (hv1 : SlD (cP cB (cL (cP cU8 (cP cU8 cI64)))) H a0 v1) (hr1 : 0 ≤ a1) (hr2 : a1 ≤ 255) (hd : w05_renamed fu a0 a1 = some r) :
    Tri Tryd.prog 8 [v1, (.int .u8 a1)] H O (fun v H' O' => ∃ (v1 : Value) (xs1 : List Value), v1 = v ∧ LayL (cP cB (cL (cP cU8 (cP cU8 cI64)))) H' r xs1 ∧ .row v1 30 2 r.length xs1 :: O = O') := by
 intro w hs
 refine wp_of Tryd.func8 rfl rfl rfl ?_ hs
 clear hs w
 unfold w05_renamed at hd
 refine Wp.sr <| Seg.op (OpT.assign rfl) rfl <| Seg.nilT <| Wp.sr <| Seg.op (OpT.assign rfl) rfl <| Seg.nilT <| Wp.seq <| Wp.sr ?_
 refine Seg.op (OpT.move rfl) rfl ?_
 have hb1 := hv1.le
 refine Seg.op (OpT.len u22 rfl hv1.sl) rfl <| Seg.op (OpT.move rfl) rfl <| Seg.nilT <| Wp.block <| Wp.nilRow 30 2 <| Wp.loopF (fun m LL HH OO => ∃ (l1 : List (Bool × (List (Int × Int × Int)))), ∃ (k1 : Nat), ∃ (v2 : Value), ∃ (xs2 : List Value), [(0, v1), (1, (.int .u8 a1)), (5, v2), (13, (.int .i64 (a0.length:Int))), (14, (.int .i64 (k1:Int)))] = LL ∧ .row v2 30 2 l1.length xs2 :: O = OO ∧ loopK m (fun p nx => w05_renamed_b1 fu a0 a1 p.1 p.2 nx) (l1, k1) = some r ∧ LayL (cP cB (cL (cP cU8 (cP cU8 cI64)))) HH l1 xs2) fu ⟨([] : List (Bool × (List (Int × Int × Int)))), 0, (.slice none 0 0), [], rfl, rfl, hd, (LayL.nil (c := (cP cB (cL (cP cU8 (cP cU8 cI64))))) (H := H))⟩ (Sub.of rfl) ?_
 intro m1 L1 H1 O1 hl1 hI1
 obtain ⟨l1, k1, v2, xs2, rfl, rfl, hd, hq1⟩ := hI1
 replace hd := loopK_some hd; obtain ⟨m2, rfl, hd⟩ := hd
 obtain ⟨nx1, hn1⟩ : ∃ f, f = loopK m2 (fun p nx => w05_renamed_b1 fu a0 a1 p.1 p.2 nx) := ⟨_, rfl⟩
 rw [← hn1] at hd
 replace hd : w05_renamed_b1 fu a0 a1 l1 k1 nx1 = some r := hd
 unfold w05_renamed_b1 at hd
 refine Wp.sr <| Seg.op (OpT.lss rfl rfl) rfl <| Seg.nilT <| Wp.seq ?_
 refine Wp.cond (b := decide ((k1:Int) < (a0.length:Int))) rfl (fun hb2 => ?_) (fun hb2 => ?_)
 ·
  replace hd := brT hb2 hd
  replace hb2 := of_decide_eq_true hb2
  refine Wp.skip <| At.then_n <| Wp.seq <| Wp.block <| Wp.sr <| Seg.op (OpT.move rfl) rfl <| Seg.op (OpT.assign rfl) rfl <| Seg.nilT ?_
  refine Wp.seq ?_
  obtain ⟨ha1, hd⟩ := chk_some hd
  obtain ⟨ha2, hd⟩ := chk_some hd
  obtain ⟨x1, hx1, hd⟩ := bnd_some hd
  have hx1_ := idx_bd hx1
  refine Wp.region <| Seg.op (OpT.move rfl) rfl <| Seg.op (OpT.move rfl) rfl ?_
  have hb3 := hv1.le
  refine Seg.op (OpT.len u22 rfl (hv1.mono hl1).sl) rfl <| Seg.op (OpT.move rfl) rfl <| Seg.op (OpT.sub rfl rfl (fits64 ha1)) rfl <| Seg.op (OpT.move rfl) rfl ?_
  have hb4 := hv1.le
  refine Seg.op (OpT.len u22 rfl (hv1.mono hl1).sl) rfl <| Seg.op (OpT.rem rfl rfl ha2.1 ha2.2) rfl ?_
  obtain ⟨_, ⟨_, _, rfl, rfl, ⟨v3, rfl, hv2⟩⟩, hc1⟩ := SlD.get (hv1.mono hl1) hx1
  refine Seg.op (OpT.ixSl u22 ti30 rfl (hv1.mono hl1).sl rfl (idx_bd hx1)) rfl <| Seg.op (OpT.ldHA (vs := [(.bool x1.1), v3]) u30 rfl ti30 rfl rfl (fun j u hj => (hc1 j u hj))) rfl <| Seg.alloc (cs := #[(.bool false), (.slice none 0 0)]) ti30 rfl rfl fun B2 => Seg.stBlkW (i := 0) (cs' := #[(.bool x1.1), v3]) rfl rfl ti30 rfl rfl (onesA (ones_cons rfl (ones_cons hv2.one (ones_nil)))) rfl ?_
  refine Seg.own (O := .blk B2 (.cells #[(.bool x1.1), v3] 30 (0, 0)) :: .row v2 30 2 l1.length xs2 :: O) ?_ rfl
  refine Seg.nilT <| Wp.sr <| Seg.op (OpT.fld (o' := 0) fl30_0 rfl rfl) rfl <| Seg.op (OpT.ldBlk (i := 0) (v := (.bool x1.1)) u4 rfl rfl rfl rfl) rfl <| Seg.op (OpT.buildS (vs := [(0, (.bool x1.1))]) (cs := #[(.bool x1.1), (.slice none 0 0)]) plf30 ti30 rfl rfl (vc_cons rfl (vc_nil)) rfl) rfl <| Seg.alloc (cs := #[(.bool false), (.slice none 0 0)]) ti30 rfl rfl fun B3 => Seg.stBlkW (i := 0) (cs' := #[(.bool x1.1), (.slice none 0 0)]) rfl rfl ti30 rfl rfl (onesA (ones_cons rfl (ones_cons rfl (ones_nil)))) rfl ?_
  refine Seg.own (O := .blk B3 (.cells #[(.bool x1.1), (.slice none 0 0)] 30 (0, 0)) :: .blk B2 (.cells #[(.bool x1.1), v3] 30 (0, 0)) :: .row v2 30 2 l1.length xs2 :: O) ?_ rfl
  refine Seg.nilT <| Wp.seq <| Wp.sr <| Seg.op (OpT.fld (o' := 1) fl30_1 rfl rfl) rfl <| Seg.op (OpT.ldBlk (i := 1) (v := v3) u28 rfl rfl rfl rfl) rfl ?_
  have hb5 := hv2.le
  refine Seg.op (OpT.len u28 rfl hv2.sl) rfl <| Seg.op (OpT.move rfl) rfl <| Seg.nilT <| Wp.block <| Wp.nilRow 27 3 <| Wp.loopF (fun m LL HH OO => ∃ (l2 : List (Int × Int × Int)), ∃ (k2 : Nat), ∃ (v4 : Value), ∃ (xs3 : List Value), [(0, v1), (1, (.int .u8 a1)), (5, v2), (8, (ptr B3 0)), (13, (.int .i64 (a0.length:Int))), (14, (.int .i64 (k1:Int))), (31, v3), (32, (.int .i64 (x1.2.length:Int))), (33, (.int .i64 (k2:Int)))] = LL ∧ .row v4 27 3 l2.length xs3 :: .blk B3 (.cells #[(.bool x1.1), v4] 30 (0, 0)) :: .blk B2 (.cells #[(.bool x1.1), v3] 30 (0, 0)) :: .row v2 30 2 l1.length xs2 :: O = OO ∧ loopK m (fun p nx => w05_renamed_b2 fu a0 a1 l1 k1 nx1 x1 p.1 p.2 nx) (l2, k2) = some r ∧ LayL (cP cU8 (cP cU8 cI64)) HH l2 xs3) fu ⟨([] : List (Int × Int × Int)), 0, (.slice none 0 0), [], rfl, rfl, hd, (LayL.nil (c := (cP cU8 (cP cU8 cI64))) (H := H1))⟩ (Sub.of rfl) ?_
  intro m3 L2 H2 O2 hl2 hI2
  obtain ⟨l2, k2, v4, xs3, rfl, rfl, hd, hq2⟩ := hI2
  replace hd := loopK_some hd; obtain ⟨m4, rfl, hd⟩ := hd
  obtain ⟨nx2, hn2⟩ : ∃ f, f = loopK m4 (fun p nx => w05_renamed_b2 fu a0 a1 l1 k1 nx1 x1 p.1 p.2 nx) := ⟨_, rfl⟩
  rw [← hn2] at hd
  replace hd : w05_renamed_b2 fu a0 a1 l1 k1 nx1 x1 l2 k2 nx2 = some r := hd
  unfold w05_renamed_b2 at hd
  refine Wp.sr <| Seg.op (OpT.lss rfl rfl) rfl <| Seg.nilT <| Wp.seq ?_
  refine Wp.cond (b := decide ((k2:Int) < (x1.2.length:Int))) rfl (fun hb6 => ?_) (fun hb6 => ?_)
  ·
   replace hd := brT hb6 hd
   replace hb6 := of_decide_eq_true hb6
   refine Wp.skip <| At.then_n <| Wp.seq <| Wp.block <| Wp.seq ?_
   obtain ⟨x2, hx2, hd⟩ := bnd_some hd
   have hx2_ := idx_bd hx2
   refine Wp.region ?_
   obtain ⟨_, ⟨_, _, rfl, ⟨rfl, hr3, hr4⟩, ⟨_, _, rfl, ⟨rfl, hr5, hr6⟩, rfl⟩⟩, hc2⟩ := SlD.get (hv2.mono hl2) hx2
   refine Seg.op (OpT.ixSl u28 ti27 rfl (hv2.mono hl2).sl rfl (idx_bd hx2)) rfl <| Seg.op (OpT.ldHA (vs := [(.int .u8 x2.1), (.int .u8 x2.2.1), (.int .i64 x2.2.2)]) u27 rfl ti27 rfl rfl (fun j u hj => (hc2 j u hj))) rfl <| Seg.alloc (cs := #[(.int .u8 0), (.int .u8 0), (.int .i64 0)]) ti27 rfl rfl fun B4 => Seg.stBlkW (i := 0) (cs' := #[(.int .u8 x2.1), (.int .u8 x2.2.1), (.int .i64 x2.2.2)]) rfl rfl ti27 rfl rfl (onesA (ones_cons rfl (ones_cons rfl (ones_cons rfl (ones_nil))))) rfl ?_
   refine Seg.own (O := .blk B4 (.cells #[(.int .u8 x2.1), (.int .u8 x2.2.1), (.int .i64 x2.2.2)] 27 (0, 0)) :: .row v4 27 3 l2.length xs3 :: .blk B3 (.cells #[(.bool x1.1), v4] 30 (0, 0)) :: .blk B2 (.cells #[(.bool x1.1), v3] 30 (0, 0)) :: .row v2 30 2 l1.length xs2 :: O) ?_ rfl
   refine Seg.nilT <| Wp.seq ?_
   obtain ⟨ha3, hd⟩ := chk_some hd
   obtain ⟨ha4, hd⟩ := chk_some hd
   refine Wp.region <| Seg.op (OpT.move rfl) rfl ?_
   have hb7 := hv1.le
   refine Seg.op (OpT.len u22 rfl (hv1.mono (hl1.trans hl2)).sl) rfl <| Seg.op (OpT.fld (o' := 2) fl27_2 rfl rfl) rfl <| Seg.op (OpT.ldBlk (i := 0) (v := (.int .i64 x2.2.2)) u3 rfl rfl rfl rfl) rfl <| Seg.op (OpT.sub rfl rfl (fits64 ha3)) rfl <| Seg.op (OpT.move rfl) rfl ?_
   have hb8 := hv1.le
   refine Seg.op (OpT.len u22 rfl (hv1.mono (hl1.trans hl2)).sl) rfl <| Seg.op (OpT.rem rfl rfl ha4.1 ha4.2) rfl <| Seg.op (OpT.assign rfl) rfl <| Seg.nilT <| Wp.seq ?_
   rcases Bool.eq_false_or_eq_true (decide (x2.1 ≤ a1)) with hg1 | hg1
   ·
    replace hd := brT hg1 hd
    have hg1_ := of_decide_eq_true hg1
    refine Wp.region <| Seg.op (OpT.fld (o' := 0) fl27_0 rfl rfl) rfl <| Seg.op (OpT.ldBlk (i := 0) (v := (.int .u8 x2.1)) u5 rfl rfl rfl rfl) rfl <| Seg.op (OpT.move rfl) rfl <| Seg.op (OpT.asB (b := decide (x2.1 ≤ a1)) (c := true) (OpT.leq rfl rfl) hg1) rfl <| Seg.op (OpT.move rfl) rfl <| Seg.opG rfl rfl (OpT.move rfl) rfl <| Seg.opG rfl rfl (OpT.fld (o' := 1) fl27_1 rfl rfl) rfl ?_
    refine Seg.opG rfl rfl (OpT.ldBlk (i := 0) (v := (.int .u8 x2.2.1)) u5 rfl rfl rfl rfl) rfl <| Seg.opG rfl rfl (OpT.lss rfl rfl) rfl <| Seg.op (OpT.pickT rfl rfl) rfl <| Seg.nilT ?_
    refine Wp.cond (b := decide (a1 < x2.2.1)) rfl (fun hb9 => ?_) (fun hb9 => ?_)
    ·
     replace hd := brT hb9 hd
     replace hb9 := of_decide_eq_true hb9
     refine Wp.seq ?_
     obtain ⟨ha5, hd⟩ := chk_some hd
     refine Wp.region <| Seg.op (OpT.fld (o' := 1) fl30_1 rfl rfl) rfl <| Seg.op (OpT.ldBlk (i := 2) (v := v4) u28 rfl rfl rfl rfl) rfl <| Seg.op (OpT.fld (o' := 0) fl27_0 rfl rfl) rfl <| Seg.op (OpT.ldBlk (i := 0) (v := (.int .u8 x2.1)) u5 rfl rfl rfl rfl) rfl <| Seg.op (OpT.move rfl) rfl <| Seg.op (OpT.move rfl) rfl <| Seg.op (OpT.buildS (vs := [(0, (.int .u8 x2.1)), (1, (.int .u8 a1)), (2, (.int .i64 (((a0.length:Int) - x2.2.2) % (a0.length:Int))))]) (cs := #[(.int .u8 x2.1), (.int .u8 a1), (.int .i64 (((a0.length:Int) - x2.2.2) % (a0.length:Int)))]) plf27 ti27 rfl rfl (vc_cons rfl (vc_cons rfl (vc_cons rfl (vc_nil)))) rfl) rfl ?_
     refine Seg.buildD1 (c := (cP cU8 (cP cU8 cI64))) (y := (x2.1, a1, ((a0.length:Int) - x2.2.2) % (a0.length:Int))) (cs := [(.int .u8 x2.1), (.int .u8 a1), (.int .i64 (((a0.length:Int) - x2.2.2) % (a0.length:Int)))]) u28 ti27 rfl rfl rfl rfl (⟨[(.int .u8 x2.1)], [(.int .u8 a1), (.int .i64 (((a0.length:Int) - x2.2.2) % (a0.length:Int)))], rfl, ⟨rfl, (show (0 : Int) ≤ x2.1 by omega), (show x2.1 ≤ (255 : Int) by omega)⟩, ⟨[(.int .u8 a1)], [(.int .i64 (((a0.length:Int) - x2.2.2) % (a0.length:Int)))], rfl, ⟨rfl, (show (0 : Int) ≤ a1 by omega), (show a1 ≤ (255 : Int) by omega)⟩, rfl⟩⟩) rfl fun v5 xs4 hq3 => Seg.appD (i := 2) (j := 0) hq2 hq3 u28 ti27 rfl (by decide) rfl rfl rfl rfl (by decide) ha5 rfl fun v6 xs5 hq4 => Seg.drop (i := 0) <| Seg.op (OpT.fld (o' := 1) fl30_1 rfl rfl) rfl <| Seg.rowOne (i := 1) rfl fun ho1 => Seg.stBlk1 (i := 2) rfl rfl ho1 ti28 rfl (Nat.le_of_ble_eq_true rfl) ?_
     refine Seg.own (O := .blk B4 (.cells #[(.int .u8 x2.1), (.int .u8 x2.2.1), (.int .i64 x2.2.2)] 27 (0, 0)) :: .row v6 27 3 (l2 ++ ([(x2.1, a1, ((a0.length:Int) - x2.2.2) % (a0.length:Int))] : List (Int × Int × Int))).length xs5 :: .blk B3 (.cells #[(.bool x1.1), v6] 30 (0, 0)) :: .blk B2 (.cells #[(.bool x1.1), v3] 30 (0, 0)) :: .row v2 30 2 l1.length xs2 :: O) ?_ rfl
     refine Seg.nilT ?_
     obtain ⟨ha6, hd⟩ := chk_some hd
     obtain ⟨ha7, hd⟩ := chk_some hd
     refine Wp.region <| Seg.op (OpT.fld (o' := 1) fl30_1 rfl rfl) rfl <| Seg.op (OpT.ldBlk (i := 2) (v := v6) u28 rfl rfl rfl rfl) rfl <| Seg.op (OpT.move rfl) rfl <| Seg.op (OpT.add rfl rfl (fitsU8 ha6)) rfl <| Seg.op (OpT.fld (o' := 1) fl27_1 rfl rfl) rfl <| Seg.op (OpT.ldBlk (i := 0) (v := (.int .u8 x2.2.1)) u5 rfl rfl rfl rfl) rfl <| Seg.op (OpT.move rfl) rfl ?_
     refine Seg.op (OpT.buildS (vs := [(0, (.int .u8 (a1 + 1))), (1, (.int .u8 x2.2.1)), (2, (.int .i64 (((a0.length:Int) - x2.2.2) % (a0.length:Int))))]) (cs := #[(.int .u8 (a1 + 1)), (.int .u8 x2.2.1), (.int .i64 (((a0.length:Int) - x2.2.2) % (a0.length:Int)))]) plf27 ti27 rfl rfl (vc_cons rfl (vc_cons rfl (vc_cons rfl (vc_nil)))) rfl) rfl <| Seg.buildD1 (c := (cP cU8 (cP cU8 cI64))) (y := (a1 + 1, x2.2.1, ((a0.length:Int) - x2.2.2) % (a0.length:Int))) (cs := [(.int .u8 (a1 + 1)), (.int .u8 x2.2.1), (.int .i64 (((a0.length:Int) - x2.2.2) % (a0.length:Int)))]) u28 ti27 rfl rfl rfl rfl (⟨[(.int .u8 (a1 + 1))], [(.int .u8 x2.2.1), (.int .i64 (((a0.length:Int) - x2.2.2) % (a0.length:Int)))], rfl, ⟨rfl, (show (0 : Int) ≤ a1 + 1 by omega), (show a1 + 1 ≤ (255 : Int) by omega)⟩, ⟨[(.int .u8 x2.2.1)], [(.int .i64 (((a0.length:Int) - x2.2.2) % (a0.length:Int)))], rfl, ⟨rfl, (show (0 : Int) ≤ x2.2.1 by omega), (show x2.2.1 ≤ (255 : Int) by omega)⟩, rfl⟩⟩) rfl fun v7 xs6 hq5 => Seg.appD (i := 2) (j := 0) hq4 hq5 u28 ti27 rfl (by decide) rfl rfl rfl rfl (by decide) ha7 rfl fun v8 xs7 hq6 => Seg.drop (i := 0) <| Seg.op (OpT.fld (o' := 1) fl30_1 rfl rfl) rfl <| Seg.rowOne (i := 1) rfl fun ho2 => Seg.stBlk1 (i := 2) rfl rfl ho2 ti28 rfl (Nat.le_of_ble_eq_true rfl) ?_
     refine Seg.own (O := .blk B4 (.cells #[(.int .u8 x2.1), (.int .u8 x2.2.1), (.int .i64 x2.2.2)] 27 (0, 0)) :: .row v8 27 3 ((l2 ++ ([(x2.1, a1, ((a0.length:Int) - x2.2.2) % (a0.length:Int))] : List (Int × Int × Int))) ++ ([(a1 + 1, x2.2.1, ((a0.length:Int) - x2.2.2) % (a0.length:Int))] : List (Int × Int × Int))).length xs7 :: .blk B3 (.cells #[(.bool x1.1), v8] 30 (0, 0)) :: .blk B2 (.cells #[(.bool x1.1), v3] 30 (0, 0)) :: .row v2 30 2 l1.length xs2 :: O) ?_ rfl
     refine Seg.nil <| At.blk_n <| At.then_n <| Wp.region <| Seg.op (OpT.add rfl rfl (fits64 (by omega))) rfl <| Seg.op (OpT.move rfl) rfl <| Seg.nil <| At.permK [1, 2, 3, 4] 5 rfl rfl rfl ?_
     refine At.nextF (Hp.le.refl _) ⟨((l2 ++ ([(x2.1, a1, ((a0.length:Int) - x2.2.2) % (a0.length:Int))] : List (Int × Int × Int))) ++ ([(a1 + 1, x2.2.1, ((a0.length:Int) - x2.2.2) % (a0.length:Int))] : List (Int × Int × Int))), (k2 + 1), v8, xs7, rfl, rfl, (by rw [← hn2]; exact hd), hq6⟩ (Sub.of rfl)
    replace hd := brF hb9 hd
    replace hb9 := of_decide_eq_false hb9
    obtain ⟨ha8, hd⟩ := chk_some hd
    refine Wp.region <| Seg.op (OpT.fld (o' := 1) fl30_1 rfl rfl) rfl <| Seg.op (OpT.ldBlk (i := 2) (v := v4) u28 rfl rfl rfl rfl) rfl <| Seg.op (OpT.fld (o' := 0) fl27_0 rfl rfl) rfl <| Seg.op (OpT.ldBlk (i := 0) (v := (.int .u8 x2.1)) u5 rfl rfl rfl rfl) rfl <| Seg.op (OpT.fld (o' := 1) fl27_1 rfl rfl) rfl <| Seg.op (OpT.ldBlk (i := 0) (v := (.int .u8 x2.2.1)) u5 rfl rfl rfl rfl) rfl <| Seg.op (OpT.move rfl) rfl ?_
    refine Seg.op (OpT.buildS (vs := [(0, (.int .u8 x2.1)), (1, (.int .u8 x2.2.1)), (2, (.int .i64 (((a0.length:Int) - x2.2.2) % (a0.length:Int))))]) (cs := #[(.int .u8 x2.1), (.int .u8 x2.2.1), (.int .i64 (((a0.length:Int) - x2.2.2) % (a0.length:Int)))]) plf27 ti27 rfl rfl (vc_cons rfl (vc_cons rfl (vc_cons rfl (vc_nil)))) rfl) rfl <| Seg.buildD1 (c := (cP cU8 (cP cU8 cI64))) (y := (x2.1, x2.2.1, ((a0.length:Int) - x2.2.2) % (a0.length:Int))) (cs := [(.int .u8 x2.1), (.int .u8 x2.2.1), (.int .i64 (((a0.length:Int) - x2.2.2) % (a0.length:Int)))]) u28 ti27 rfl rfl rfl rfl (⟨[(.int .u8 x2.1)], [(.int .u8 x2.2.1), (.int .i64 (((a0.length:Int) - x2.2.2) % (a0.length:Int)))], rfl, ⟨rfl, (show (0 : Int) ≤ x2.1 by omega), (show x2.1 ≤ (255 : Int) by omega)⟩, ⟨[(.int .u8 x2.2.1)], [(.int .i64 (((a0.length:Int) - x2.2.2) % (a0.length:Int)))], rfl, ⟨rfl, (show (0 : Int) ≤ x2.2.1 by omega), (show x2.2.1 ≤ (255 : Int) by omega)⟩, rfl⟩⟩) rfl fun v9 xs8 hq7 => Seg.appD (i := 2) (j := 0) hq2 hq7 u28 ti27 rfl (by decide) rfl rfl rfl rfl (by decide) ha8 rfl fun v10 xs9 hq8 => Seg.drop (i := 0) <| Seg.op (OpT.fld (o' := 1) fl30_1 rfl rfl) rfl <| Seg.rowOne (i := 1) rfl fun ho3 => Seg.stBlk1 (i := 2) rfl rfl ho3 ti28 rfl (Nat.le_of_ble_eq_true rfl) ?_
    refine Seg.own (O := .blk B4 (.cells #[(.int .u8 x2.1), (.int .u8 x2.2.1), (.int .i64 x2.2.2)] 27 (0, 0)) :: .row v10 27 3 (l2 ++ ([(x2.1, x2.2.1, ((a0.length:Int) - x2.2.2) % (a0.length:Int))] : List (Int × Int × Int))).length xs9 :: .blk B3 (.cells #[(.bool x1.1), v10] 30 (0, 0)) :: .blk B2 (.cells #[(.bool x1.1), v3] 30 (0, 0)) :: .row v2 30 2 l1.length xs2 :: O) ?_ rfl
    refine Seg.nil <| At.blk_n <| At.then_n <| Wp.region <| Seg.op (OpT.add rfl rfl (fits64 (by omega))) rfl <| Seg.op (OpT.move rfl) rfl <| Seg.nil <| At.permK [1, 2, 3, 4] 5 rfl rfl rfl ?_
    refine At.nextF (Hp.le.refl _) ⟨(l2 ++ ([(x2.1, x2.2.1, ((a0.length:Int) - x2.2.2) % (a0.length:Int))] : List (Int × Int × Int))), (k2 + 1), v10, xs9, rfl, rfl, (by rw [← hn2]; exact hd), hq8⟩ (Sub.of rfl)
   replace hd := brF hg1 hd
   have hg1_ := of_decide_eq_false hg1
   refine Wp.region <| Seg.op (OpT.fld (o' := 0) fl27_0 rfl rfl) rfl <| Seg.op (OpT.ldBlk (i := 0) (v := (.int .u8 x2.1)) u5 rfl rfl rfl rfl) rfl <| Seg.op (OpT.move rfl) rfl <| Seg.op (OpT.asB (b := decide (x2.1 ≤ a1)) (c := false) (OpT.leq rfl rfl) hg1) rfl <| Seg.op (OpT.move rfl) rfl <| Seg.skipG rfl rfl rfl rfl <| Seg.skipG rfl rfl rfl rfl ?_
   refine Seg.skipG rfl rfl rfl rfl <| Seg.skipG rfl rfl rfl rfl <| Seg.op (OpT.pickF rfl rfl) rfl <| Seg.nilT <| Wp.condF rfl ?_
   obtain ⟨ha9, hd⟩ := chk_some hd
   refine Wp.region <| Seg.op (OpT.fld (o' := 1) fl30_1 rfl rfl) rfl <| Seg.op (OpT.ldBlk (i := 2) (v := v4) u28 rfl rfl rfl rfl) rfl <| Seg.op (OpT.fld (o' := 0) fl27_0 rfl rfl) rfl <| Seg.op (OpT.ldBlk (i := 0) (v := (.int .u8 x2.1)) u5 rfl rfl rfl rfl) rfl <| Seg.op (OpT.fld (o' := 1) fl27_1 rfl rfl) rfl <| Seg.op (OpT.ldBlk (i := 0) (v := (.int .u8 x2.2.1)) u5 rfl rfl rfl rfl) rfl <| Seg.op (OpT.move rfl) rfl ?_
   refine Seg.op (OpT.buildS (vs := [(0, (.int .u8 x2.1)), (1, (.int .u8 x2.2.1)), (2, (.int .i64 (((a0.length:Int) - x2.2.2) % (a0.length:Int))))]) (cs := #[(.int .u8 x2.1), (.int .u8 x2.2.1), (.int .i64 (((a0.length:Int) - x2.2.2) % (a0.length:Int)))]) plf27 ti27 rfl rfl (vc_cons rfl (vc_cons rfl (vc_cons rfl (vc_nil)))) rfl) rfl <| Seg.buildD1 (c := (cP cU8 (cP cU8 cI64))) (y := (x2.1, x2.2.1, ((a0.length:Int) - x2.2.2) % (a0.length:Int))) (cs := [(.int .u8 x2.1), (.int .u8 x2.2.1), (.int .i64 (((a0.length:Int) - x2.2.2) % (a0.length:Int)))]) u28 ti27 rfl rfl rfl rfl (⟨[(.int .u8 x2.1)], [(.int .u8 x2.2.1), (.int .i64 (((a0.length:Int) - x2.2.2) % (a0.length:Int)))], rfl, ⟨rfl, (show (0 : Int) ≤ x2.1 by omega), (show x2.1 ≤ (255 : Int) by omega)⟩, ⟨[(.int .u8 x2.2.1)], [(.int .i64 (((a0.length:Int) - x2.2.2) % (a0.length:Int)))], rfl, ⟨rfl, (show (0 : Int) ≤ x2.2.1 by omega), (show x2.2.1 ≤ (255 : Int) by omega)⟩, rfl⟩⟩) rfl fun v11 xs10 hq9 => Seg.appD (i := 2) (j := 0) hq2 hq9 u28 ti27 rfl (by decide) rfl rfl rfl rfl (by decide) ha9 rfl fun v12 xs11 hq10 => Seg.drop (i := 0) <| Seg.op (OpT.fld (o' := 1) fl30_1 rfl rfl) rfl <| Seg.rowOne (i := 1) rfl fun ho4 => Seg.stBlk1 (i := 2) rfl rfl ho4 ti28 rfl (Nat.le_of_ble_eq_true rfl) ?_
   refine Seg.own (O := .blk B4 (.cells #[(.int .u8 x2.1), (.int .u8 x2.2.1), (.int .i64 x2.2.2)] 27 (0, 0)) :: .row v12 27 3 (l2 ++ ([(x2.1, x2.2.1, ((a0.length:Int) - x2.2.2) % (a0.length:Int))] : List (Int × Int × Int))).length xs11 :: .blk B3 (.cells #[(.bool x1.1), v12] 30 (0, 0)) :: .blk B2 (.cells #[(.bool x1.1), v3] 30 (0, 0)) :: .row v2 30 2 l1.length xs2 :: O) ?_ rfl
   refine Seg.nil <| At.blk_n <| At.then_n <| Wp.region <| Seg.op (OpT.add rfl rfl (fits64 (by omega))) rfl <| Seg.op (OpT.move rfl) rfl <| Seg.nil <| At.permK [1, 2, 3, 4] 5 rfl rfl rfl ?_
   refine At.nextF (Hp.le.refl _) ⟨(l2 ++ ([(x2.1, x2.2.1, ((a0.length:Int) - x2.2.2) % (a0.length:Int))] : List (Int × Int × Int))), (k2 + 1), v12, xs11, rfl, rfl, (by rw [← hn2]; exact hd), hq10⟩ (Sub.of rfl)
  replace hd := brF hb6 hd
  replace hb6 := of_decide_eq_false hb6
  refine Wp.exit <| At.then_x <| At.then_x <| At.blk_hit <| At.then_n ?_
  obtain ⟨ha10, hd⟩ := chk_some hd
  refine Wp.region <| Seg.op (OpT.move rfl) rfl <| Seg.op (OpT.ldBlkW (i := 1) u30 rfl ti30 rfl rfl rfl) rfl ?_
  refine Seg.rowLe (i := 0) rfl fun hb10 => ?_
  refine Seg.freeze (i := 0) rfl fun H3 hl3 hs1 => ?_
  have hv3 := SlD.of (c := (cP cU8 (cP cU8 cI64))) hs1 rfl (hq2.mono hl3) hb10
  refine Seg.buildD1 (c := (cP cB (cL (cP cU8 (cP cU8 cI64))))) (y := (x1.1, l2)) (cs := [(.bool x1.1), v4]) u22 ti30 rfl rfl rfl rfl (⟨[(.bool x1.1)], [v4], rfl, rfl, ⟨_, rfl, hv3⟩⟩) rfl fun v13 xs12 hq11 => Seg.appD (i := 3) (j := 0) (hq1.mono (hl2.trans hl3)) hq11 u22 ti30 rfl (by decide) rfl rfl rfl rfl (by decide) ha10 rfl fun v14 xs13 hq12 => Seg.drop (i := 0) <| Seg.op (OpT.assign rfl) rfl <| Seg.nil <| At.blk_n <| At.then_n <| Wp.region ?_
  refine Seg.op (OpT.add rfl rfl (fits64 (by omega))) rfl <| Seg.op (OpT.move rfl) rfl <| Seg.nil <| At.permK [2] 3 rfl rfl rfl ?_
  refine At.nextF (hl2.trans hl3) ⟨(l1 ++ ([(x1.1, l2)] : List (Bool × (List (Int × Int × Int))))), (k1 + 1), v14, xs13, rfl, rfl, (by rw [← hn1]; exact hd), hq12⟩ (Sub.of rfl)
 replace hd := brF hb2 hd
 replace hb2 := of_decide_eq_false hb2
 refine Wp.exit <| At.then_x <| At.then_x <| At.blk_hit <| At.then_n <| Wp.sr <| Seg.op (OpT.move rfl) rfl <| Seg.op (OpT.assign rfl) rfl ?_
 refine Seg.nilT <| Wp.ret ?_
 obtain rfl := Option.some.inj hd
 exact At.res1 rfl (RV.tmp (v := v2) rfl) (fun w hs => ⟨_, _, _, rfl, hl1, (hs.permK [0] 1 rfl rfl rfl), _, _, rfl, hq1, rfl⟩)

set_option maxRecDepth 100000 in
set_option maxHeartbeats 4000000 in
theorem w05_AutomatonRenames_w {fu : Nat} {a0 : List (Bool × (List (Int × Int × Int)))} {a1 : Int} {v1 : Value} {r : Bool} (hv1 : SlD (cP cB (cL (cP cU8 (cP cU8 cI64)))) H a0 v1) (hr1 : 0 ≤ a1) (hr2 : a1 ≤ 255) (hG : LaidH Tryd.prog H) (hd : w05_AutomatonRenames fu a0 a1 = some r) :
    TriV Tryd.prog 3 [v1, (.int .u8 a1)] H O (.bool r) := by
 intro w hs
 refine wp_of Tryd.func3 rfl rfl rfl ?_ hs
 clear hs w
 unfold w05_AutomatonRenames at hd
 refine Wp.sr <| Seg.op (OpT.assign rfl) rfl <| Seg.nilT <| Wp.seq <| Wp.seq ?_
 obtain ⟨x1, hx1, hd⟩ := bnd_some hd
 rcases Bool.eq_false_or_eq_true (!x1) with hg1 | hg1
 ·
  replace hd := brT hg1 hd
  refine Wp.region <| Seg.op (OpT.move rfl) rfl <| Seg.op (OpT.call ent5 rfl (w05_few_w hv1 hx1)) rfl <| Seg.op (OpT.asB (b := !x1) (c := true) (OpT.not rfl) hg1) rfl <| Seg.op (OpT.move rfl) rfl <| Seg.skipG rfl rfl rfl rfl <| Seg.skipG rfl rfl rfl rfl <| Seg.skipG rfl rfl rfl rfl ?_
  refine Seg.op (OpT.pickT rfl rfl) rfl <| Seg.op (OpT.move rfl) rfl <| Seg.skipG rfl rfl rfl rfl <| Seg.skipG rfl rfl rfl rfl <| Seg.skipG rfl rfl rfl rfl <| Seg.op (OpT.pickT rfl rfl) rfl <| Seg.nilT <| Wp.condT rfl ?_
  refine Wp.seq ?_
  obtain ⟨x2, hx2, hd⟩ := bnd_some hd
  refine Wp.region <| Seg.op (OpT.call ent7 rfl (w05_alive_w hG hx2)) rfl <| Seg.op (OpT.assign rfl) rfl <| Seg.nilT <| Wp.ret <| At.then_r ?_
  obtain rfl := Option.some.inj hd
  exact At.res1 rfl (RV.tmp (v := (.bool x2)) rfl) (fun w hs => ⟨rfl, (hs.dropN 0).weaken (Hp.le.refl _)⟩)
 replace hd := brF hg1 hd
 obtain ⟨x3, hx3, hd⟩ := bnd_some hd
 rcases Bool.eq_false_or_eq_true (!x3) with hg2 | hg2
 ·
  replace hd := brT hg2 hd
  refine Wp.region <| Seg.op (OpT.move rfl) rfl <| Seg.op (OpT.call ent5 rfl (w05_few_w hv1 hx1)) rfl <| Seg.op (OpT.asB (b := !x1) (c := false) (OpT.not rfl) hg1) rfl <| Seg.op (OpT.move rfl) rfl <| Seg.opG rfl rfl (OpT.move rfl) rfl <| Seg.opG rfl rfl (OpT.call ent6 rfl (r05_Wellformed_w hv1 hx3)) rfl <| Seg.opG rfl rfl (OpT.asB (b := !x3) (c := true) (OpT.not rfl) hg2) rfl ?_
  refine Seg.op (OpT.pickF rfl rfl) rfl <| Seg.op (OpT.move rfl) rfl <| Seg.skipG rfl rfl rfl rfl <| Seg.skipG rfl rfl rfl rfl <| Seg.skipG rfl rfl rfl rfl <| Seg.op (OpT.pickT rfl rfl) rfl <| Seg.nilT <| Wp.condT rfl ?_
  refine Wp.seq ?_
  obtain ⟨x4, hx4, hd⟩ := bnd_some hd
  refine Wp.region <| Seg.op (OpT.call ent7 rfl (w05_alive_w hG hx4)) rfl <| Seg.op (OpT.assign rfl) rfl <| Seg.nilT <| Wp.ret <| At.then_r ?_
  obtain rfl := Option.some.inj hd
  exact At.res1 rfl (RV.tmp (v := (.bool x4)) rfl) (fun w hs => ⟨rfl, (hs.dropN 0).weaken (Hp.le.refl _)⟩)
 replace hd := brF hg2 hd
 refine Wp.region <| Seg.op (OpT.move rfl) rfl <| Seg.op (OpT.call ent5 rfl (w05_few_w hv1 hx1)) rfl <| Seg.op (OpT.asB (b := !x1) (c := false) (OpT.not rfl) hg1) rfl <| Seg.op (OpT.move rfl) rfl <| Seg.opG rfl rfl (OpT.move rfl) rfl <| Seg.opG rfl rfl (OpT.call ent6 rfl (r05_Wellformed_w hv1 hx3)) rfl <| Seg.opG rfl rfl (OpT.asB (b := !x3) (c := false) (OpT.not rfl) hg2) rfl ?_
 refine Seg.op (OpT.pickF rfl rfl) rfl <| Seg.op (OpT.move rfl) rfl <| Seg.opG rfl rfl (OpT.move rfl) rfl ?_
 have hb1 := hv1.le
 refine Seg.opG rfl rfl (OpT.len u22 rfl hv1.sl) rfl <| Seg.opG rfl rfl (OpT.eql rfl rfl) rfl <| Seg.op (OpT.pickF rfl rfl) rfl <| Seg.nilT ?_
 refine Wp.cond (b := decide ((a0.length:Int) = 0)) rfl (fun hb2 => ?_) (fun hb2 => ?_)
 ·
  replace hd := brT hb2 hd
  replace hb2 := of_decide_eq_true hb2
  refine Wp.seq ?_
  obtain ⟨x5, hx5, hd⟩ := bnd_some hd
  refine Wp.region <| Seg.op (OpT.call ent7 rfl (w05_alive_w hG hx5)) rfl <| Seg.op (OpT.assign rfl) rfl <| Seg.nilT <| Wp.ret <| At.then_r ?_
  obtain rfl := Option.some.inj hd
  exact At.res1 rfl (RV.tmp (v := (.bool x5)) rfl) (fun w hs => ⟨rfl, (hs.dropN 0).weaken (Hp.le.refl _)⟩)
 replace hd := brF hb2 hd
 replace hb2 := of_decide_eq_false hb2
 refine Wp.skip <| At.then_n <| Wp.seq ?_
 obtain ⟨x6, hx6, hd⟩ := bnd_some hd
 refine Wp.region <| Seg.op (OpT.move rfl) rfl <| Seg.op (OpT.move rfl) rfl <| Seg.opS (OpS.call ent8 rfl (w05_renamed_w hv1 (by omega) (by omega) hx6)) rfl ?_
 rintro _ H1 _ hl1 ⟨v2, xs1, rfl, hq1, rfl⟩
 refine Seg.op (OpT.assign rfl) rfl <| Seg.nilT <| Wp.seq ?_
 obtain ⟨ha1, hd⟩ := chk_some hd
 refine Wp.region <| Seg.op (OpT.move rfl) rfl <| Seg.op (OpT.move rfl) rfl <| Seg.op (OpT.buildS (vs := [(0, (.int .u8 0)), (1, (.int .u8 a1))]) (cs := #[(.int .u8 0), (.int .u8 a1), (.int .i64 0)]) plf27 ti27 rfl rfl (vc_cons rfl (vc_cons rfl (vc_nil))) rfl) rfl <| Seg.buildD1 (c := (cP cU8 (cP cU8 cI64))) (y := (0, a1, 0)) (cs := [(.int .u8 0), (.int .u8 a1), (.int .i64 0)]) u28 ti27 rfl rfl rfl rfl (⟨[(.int .u8 0)], [(.int .u8 a1), (.int .i64 0)], rfl, ⟨rfl, (show (0 : Int) ≤ 0 by omega), (show 0 ≤ (255 : Int) by omega)⟩, ⟨[(.int .u8 a1)], [(.int .i64 0)], rfl, ⟨rfl, (show (0 : Int) ≤ a1 by omega), (show a1 ≤ (255 : Int) by omega)⟩, rfl⟩⟩) rfl fun v3 xs2 hq2 => Seg.rowOne (i := 0) rfl fun ho1 => Seg.op (OpT.buildS (vs := [(0, (.bool true)), (1, v3)]) (cs := #[(.bool true), v3]) plf30 ti30 rfl rfl (vc_cons rfl (vc_cons (cells1 ho1) (vc_nil))) rfl) rfl ?_
 refine Seg.rowLe (i := 0) rfl fun hb3 => ?_
 refine Seg.freeze (i := 0) rfl fun H2 hl2 hs1 => ?_
 have hv2 := SlD.of (c := (cP cU8 (cP cU8 cI64))) hs1 rfl (hq2.mono hl2) hb3
 refine Seg.buildD1 (c := (cP cB (cL (cP cU8 (cP cU8 cI64))))) (y := (true, ([(0, a1, 0)] : List (Int × Int × Int)))) (cs := [(.bool true), v3]) u22 ti30 rfl rfl rfl rfl (⟨[(.bool true)], [v3], rfl, rfl, ⟨_, rfl, hv2⟩⟩) rfl fun v4 xs3 hq3 => Seg.appD (i := 1) (j := 0) (hq1.mono hl2) hq3 u22 ti30 rfl (by decide) rfl rfl rfl rfl (by decide) ha1 rfl fun v5 xs4 hq4 => Seg.drop (i := 0) <| Seg.op (OpT.assign rfl) rfl <| Seg.nilT <| Wp.seq ?_
 obtain ⟨x7, hx7, hd⟩ := bnd_some hd
 refine Wp.region <| Seg.op (OpT.move rfl) rfl <| Seg.opS (OpS.call ent9 rfl (au_Minimal_w (hv1.mono (hl1.trans hl2)) (hG.mono (hl1.trans hl2)) hx7)) rfl ?_
 rintro _ H3 _ hl3 ⟨⟨v6, rfl, hv3⟩, rfl⟩
 refine Seg.op (OpT.move rfl) rfl <| Seg.op (OpT.extract rfl rfl) rfl <| Seg.op (OpT.extract rfl rfl) rfl <| Seg.alloc (cs := #[(.slice none 0 0)]) ti32 rfl rfl fun B2 => Seg.stBlkW (i := 0) (cs' := #[v6]) rfl rfl ti32 rfl rfl (onesA (ones_cons hv3.one (ones_nil))) rfl ?_
 refine Seg.own (O := .blk B2 (.cells #[v6] 32 (0, 0)) :: .row v5 30 2 (x6 ++ ([(true, ([(0, a1, 0)] : List (Int × Int × Int)))] : List (Bool × (List (Int × Int × Int))))).length xs4 :: O) ?_ rfl
 refine Seg.op (OpT.assign rfl) rfl <| Seg.nilT <| Wp.seq ?_
 obtain ⟨x8, hx8, hd⟩ := bnd_some hd
 refine Wp.region <| Seg.op (OpT.move rfl) rfl ?_
 refine Seg.rowLe (i := 1) rfl fun hb4 => ?_
 refine Seg.freeze (i := 1) rfl fun H4 hl4 hs2 => ?_
 have hv4 := SlD.of (c := (cP cB (cL (cP cU8 (cP cU8 cI64))))) hs2 rfl ((hq4.mono hl3).mono hl4) hb4
 refine Seg.opS (OpS.call ent9 rfl (au_Minimal_w hv4 (hG.mono (((hl1.trans hl2).trans hl3).trans hl4)) hx8)) rfl ?_
 rintro _ H5 _ hl5 ⟨⟨v7, rfl, hv5⟩, rfl⟩
 refine Seg.op (OpT.move rfl) rfl <| Seg.op (OpT.extract rfl rfl) rfl <| Seg.op (OpT.extract rfl rfl) rfl <| Seg.alloc (cs := #[(.slice none 0 0)]) ti32 rfl rfl fun B3 => Seg.stBlkW (i := 0) (cs' := #[v7]) rfl rfl ti32 rfl rfl (onesA (ones_cons hv5.one (ones_nil))) rfl ?_
 refine Seg.own (O := .blk B3 (.cells #[v7] 32 (0, 0)) :: .blk B2 (.cells #[v6] 32 (0, 0)) :: O) ?_ rfl
 refine Seg.op (OpT.assign rfl) rfl <| Seg.nilT <| Wp.seq ?_
 rcases Bool.eq_false_or_eq_true (decide (x7.2 = 0)) with hg3 | hg3
 ·
  replace hd := brT hg3 hd
  have hg3_ := of_decide_eq_true hg3
  rcases Bool.eq_false_or_eq_true (decide (x8.2 = 0)) with hg4 | hg4
  ·
   replace hd := brT hg4 hd
   have hg4_ := of_decide_eq_true hg4
   obtain ⟨x9, hx9, hd⟩ := bnd_some hd
   rcases Bool.eq_false_or_eq_true (x9) with hg5 | hg5
   ·
    replace hd := brT hg5 hd
    obtain ⟨x10, hx10, hd⟩ := bnd_some hd
    refine Wp.region <| Seg.op (OpT.move rfl) rfl <| Seg.op (OpT.asB (b := decide (x7.2 = 0)) (c := true) (OpT.eql rfl rfl) hg3) rfl <| Seg.op (OpT.move rfl) rfl <| Seg.opG rfl rfl (OpT.move rfl) rfl <| Seg.opG rfl rfl (OpT.asB (b := decide (x8.2 = 0)) (c := true) (OpT.eql rfl rfl) hg4) rfl <| Seg.op (OpT.pickT rfl rfl) rfl <| Seg.op (OpT.move rfl) rfl ?_
    refine Seg.opG rfl rfl (OpT.ldBlkW (i := 1) u32 rfl ti32 rfl rfl rfl) rfl <| Seg.opG rfl rfl (OpT.ldBlkW (i := 0) u32 rfl ti32 rfl rfl rfl) rfl <| Seg.opG rfl rfl (OpT.asB (b := x9) (c := true) (OpT.call ent10 rfl (au_Same_w (hv3.mono (hl4.trans hl5)) hv5 hx9)) hg5) rfl <| Seg.op (OpT.pickT rfl rfl) rfl <| Seg.op (OpT.move rfl) rfl <| Seg.opG rfl rfl (OpT.call ent7 rfl (w05_alive_w (hG.mono ((((hl1.trans hl2).trans hl3).trans hl4).trans hl5)) hx10)) rfl <| Seg.op (OpT.pickT rfl rfl) rfl <| Seg.op (OpT.assign rfl) rfl ?_
    refine Seg.nilT <| Wp.ret ?_
    obtain rfl := Option.some.inj hd
    exact At.res1 rfl (RV.tmp (v := (.bool x10)) rfl) (fun w hs => ⟨rfl, (hs.dropN 2).weaken ((((hl1.trans hl2).trans hl3).trans hl4).trans hl5)⟩)
   replace hd := brF hg5 hd
   refine Wp.region <| Seg.op (OpT.move rfl) rfl <| Seg.op (OpT.asB (b := decide (x7.2 = 0)) (c := true) (OpT.eql rfl rfl) hg3) rfl <| Seg.op (OpT.move rfl) rfl <| Seg.opG rfl rfl (OpT.move rfl) rfl <| Seg.opG rfl rfl (OpT.asB (b := decide (x8.2 = 0)) (c := true) (OpT.eql rfl rfl) hg4) rfl <| Seg.op (OpT.pickT rfl rfl) rfl <| Seg.op (OpT.move rfl) rfl ?_
   refine Seg.opG rfl rfl (OpT.ldBlkW (i := 1) u32 rfl ti32 rfl rfl rfl) rfl <| Seg.opG rfl rfl (OpT.ldBlkW (i := 0) u32 rfl ti32 rfl rfl rfl) rfl <| Seg.opG rfl rfl (OpT.asB (b := x9) (c := false) (OpT.call ent10 rfl (au_Same_w (hv3.mono (hl4.trans hl5)) hv5 hx9)) hg5) rfl <| Seg.op (OpT.pickT rfl rfl) rfl <| Seg.op (OpT.move rfl) rfl <| Seg.skipG rfl rfl rfl rfl <| Seg.op (OpT.pickF rfl rfl) rfl <| Seg.op (OpT.assign rfl) rfl ?_
   refine Seg.nilT <| Wp.ret ?_
   obtain rfl := Option.some.inj hd
   exact At.res1 rfl (RV.tmp (v := (.bool false)) rfl) (fun w hs => ⟨rfl, (hs.dropN 2).weaken ((((hl1.trans hl2).trans hl3).trans hl4).trans hl5)⟩)
  replace hd := brF hg4 hd
  have hg4_ := of_decide_eq_false hg4
  refine Wp.region <| Seg.op (OpT.move rfl) rfl <| Seg.op (OpT.asB (b := decide (x7.2 = 0)) (c := true) (OpT.eql rfl rfl) hg3) rfl <| Seg.op (OpT.move rfl) rfl <| Seg.opG rfl rfl (OpT.move rfl) rfl <| Seg.opG rfl rfl (OpT.asB (b := decide (x8.2 = 0)) (c := false) (OpT.eql rfl rfl) hg4) rfl <| Seg.op (OpT.pickT rfl rfl) rfl <| Seg.op (OpT.move rfl) rfl ?_
  refine Seg.skipG rfl rfl rfl rfl <| Seg.skipG rfl rfl rfl rfl <| Seg.skipG rfl rfl rfl rfl <| Seg.op (OpT.pickF rfl rfl) rfl <| Seg.op (OpT.move rfl) rfl <| Seg.skipG rfl rfl rfl rfl <| Seg.op (OpT.pickF rfl rfl) rfl <| Seg.op (OpT.assign rfl) rfl ?_
  refine Seg.nilT <| Wp.ret ?_
  obtain rfl := Option.some.inj hd
  exact At.res1 rfl (RV.tmp (v := (.bool false)) rfl) (fun w hs => ⟨rfl, (hs.dropN 2).weaken ((((hl1.trans hl2).trans hl3).trans hl4).trans hl5)⟩)
 replace hd := brF hg3 hd
 have hg3_ := of_decide_eq_false hg3
 refine Wp.region <| Seg.op (OpT.move rfl) rfl <| Seg.op (OpT.asB (b := decide (x7.2 = 0)) (c := false) (OpT.eql rfl rfl) hg3) rfl <| Seg.op (OpT.move rfl) rfl <| Seg.skipG rfl rfl rfl rfl <| Seg.skipG rfl rfl rfl rfl <| Seg.op (OpT.pickF rfl rfl) rfl <| Seg.op (OpT.move rfl) rfl ?_
 refine Seg.skipG rfl rfl rfl rfl <| Seg.skipG rfl rfl rfl rfl <| Seg.skipG rfl rfl rfl rfl <| Seg.op (OpT.pickF rfl rfl) rfl <| Seg.op (OpT.move rfl) rfl <| Seg.skipG rfl rfl rfl rfl <| Seg.op (OpT.pickF rfl rfl) rfl <| Seg.op (OpT.assign rfl) rfl ?_
 refine Seg.nilT <| Wp.ret ?_
 obtain rfl := Option.some.inj hd
 exact At.res1 rfl (RV.tmp (v := (.bool false)) rfl) (fun w hs => ⟨rfl, (hs.dropN 2).weaken ((((hl1.trans hl2).trans hl3).trans hl4).trans hl5)⟩)
end Go.Proofs.YtjmbmodmepdmjabDoor
