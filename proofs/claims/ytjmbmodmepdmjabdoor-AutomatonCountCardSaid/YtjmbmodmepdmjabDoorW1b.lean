/- Walks, written by a program. -/
import Derived.Test.YtjmbmodmepdmjabDoorW1
namespace Go.Proofs.YtjmbmodmepdmjabDoor
open Go.GK
variable {H : Hp} {O : List Res}

set_option maxRecDepth 100000 in
set_option maxHeartbeats 4000000 in
theorem au_net_determine_w {fu : Nat} {a0 : (List (List Int)) × (List (List (BSet × Int × Int))) × Int} {a1 : Int} {a2 : Int} {v1 v2 : Value} {B0 : Nat} {r : List (Bool × (List (Int × Int × Int)))} (hv1 : SlD (cL cI64) H a0.1 v1) (hv2 : SlD (cL (cP cBs (cP cI64 cI64))) H a0.2.1 v2) (hG : LaidH Tryd.prog H) (hd : au_net_determine fu a0 a1 a2 = some r) :
    Tri Tryd.prog 29 [(ptr B0 0), (.int .i64 a1), (.int .i64 a2)] H (.blk B0 (.cells #[v1, v2, (.int .i64 a0.2.2)] 61 (0, 0)) :: O) (fun v H' O' => (∃ v3 : Value, v3 = v ∧ SlD (cP cB (cL (cP cU8 (cP cU8 cI64)))) H' r v3) ∧ .blk B0 (.cells #[v1, v2, (.int .i64 a0.2.2)] 61 (0, 0)) :: O = O') := by
 intro w hs
 refine wp_of Tryd.func29 rfl rfl rfl ?_ hs
 clear hs w
 unfold au_net_determine at hd
 refine Wp.sr <| Seg.op (OpT.assign rfl) rfl <| Seg.nilT <| Wp.seq ?_
 obtain ⟨x1, hx1, hd⟩ := bnd_some hd
 obtain ⟨ha1, hd⟩ := chk_some hd
 refine Wp.region <| Seg.op (OpT.move rfl) rfl <| Seg.opS (OpS.call ent36 rfl (Tri.atR 0 rfl (au_net_sets_w hv1 hv2 hx1))) rfl ?_
 rintro _ H1 _ hl1 ⟨⟨v4, rfl, hv3⟩, rfl⟩
 refine Seg.opS (OpS.call ent35 rfl (part_i hv3 ha1)) rfl ?_
 rintro _ H2 _ hl2 ⟨⟨v5, rfl, hv4⟩, rfl⟩
 refine Seg.op (OpT.assign rfl) rfl <| Seg.nilT <| Wp.seq ?_
 obtain ⟨x2, hx2, hd⟩ := bnd_some hd
 refine Wp.region <| Seg.op (OpT.move rfl) rfl <| Seg.op (OpT.move rfl) rfl <| Seg.buildD1 (c := cI64) (y := a1) (cs := [(.int .i64 a1)]) u66 ti3 rfl rfl rfl rfl (rfl) rfl fun v6 xs1 hq1 => Seg.permK [1, 0] 2 rfl rfl rfl <| Seg.opS (OpS.call ent37 rfl (au_net_closure_w (hv1.mono (hl1.trans hl2)) (hv2.mono (hl1.trans hl2)) hq1 hx2)) rfl ?_
 rintro _ H3 _ hl3 ⟨⟨v7, rfl, hv5⟩, rfl⟩
 refine Seg.buildD1 (c := (cL cI64)) (y := x2) (cs := [v7]) u58 ti66 rfl rfl rfl (cellsL hv5.one) (⟨_, rfl, hv5⟩) rfl fun v8 xs2 hq2 => Seg.op (OpT.assign rfl) rfl <| Seg.nilT <| Wp.seq ?_
 obtain ⟨x3, hx3, hd⟩ := bnd_some hd
 have hx3_ := idx_bd hx3
 obtain ⟨x4, hx4, hd⟩ := bnd_some hd
 obtain ⟨ha2, hd⟩ := chk_some hd
 obtain ⟨ha3, hd⟩ := chk_some hd
 refine Wp.region <| Seg.makeMap (mkS u9) (meI u3) rfl fun B2 => Seg.op (OpT.move rfl) rfl ?_
 obtain ⟨_, ⟨v9, rfl, hv6⟩, hc1, hc1_⟩ := LayL.get hq2 (idx_some hx3).2
 refine Seg.op (OpT.ixRow (j := 1) u58 ti66 rfl rfl rfl (idx_bd hx3)) rfl <| Seg.op (OpT.ldRow (i := 1) (k := 0 * 1 + 0) u66 rfl rfl rfl (hc1 0 _ rfl)) rfl <| Seg.op (OpT.call ent41 rfl (au_key_w hv6 (hG.mono ((hl1.trans hl2).trans hl3)) hx4)) rfl <| Seg.insert (K := (mkS u9)) (M := (meI u3)) (k := x4) (v := 0) 0 u72 rfl rfl rfl ha2 (show F64 0 by decide) ha3 rfl <| Seg.op (OpT.move rfl) rfl <| Seg.op (OpT.assign rfl) rfl <| Seg.nilT <| Wp.sr ?_
 refine Seg.op (OpT.assign rfl) rfl <| Seg.nilT <| Wp.seq <| Wp.sr <| Seg.op (OpT.assign rfl) rfl <| Seg.nilT <| Wp.block <| Wp.nilRow 30 2 ?_
 refine Wp.loopF (fun m LL HH OO => ∃ (l1 : List (List Int)), ∃ (l2 : List (Bool × (List (Int × Int × Int)))), ∃ (m1 : List (Str × Int)), ∃ (k1 : Nat), ∃ (v10 : Value), ∃ (xs3 : List Value), ∃ (v11 : Value), ∃ (xs4 : List Value), [(0, (ptr B0 0)), (2, (.int .i64 a2)), (7, v5), (8, v10), (9, (.map (some B2))), (10, v11), (11, (.int .i64 (k1:Int)))] = LL ∧ .row v11 30 2 l2.length xs4 :: mapR (mkS u9) (meI u3) B2 m1 :: .row v10 66 1 l1.length xs3 :: .blk B0 (.cells #[v1, v2, (.int .i64 a0.2.2)] 61 (0, 0)) :: O = OO ∧ loopK m (fun p nx => au_net_determine_b7 fu a0 a2 x1 p.1 p.2.1 p.2.2.1 p.2.2.2 nx) (l1, l2, m1, k1) = some r ∧ LayL (cL cI64) HH l1 xs3 ∧ LayL (cP cB (cL (cP cU8 (cP cU8 cI64)))) HH l2 xs4) fu ⟨([x2] : List (List Int)), ([] : List (Bool × (List (Int × Int × Int)))), (fmPut ([] : List (Str × Int)) x4 0), 0, v8, xs2, (.slice none 0 0), [], rfl, rfl, hd, hq2, (LayL.nil (c := (cP cB (cL (cP cU8 (cP cU8 cI64))))) (H := H3))⟩ (Sub.of rfl) ?_
 intro m2 L1 H4 O1 hl4 hI1
 obtain ⟨l1, l2, m1, k1, v10, xs3, v11, xs4, rfl, rfl, hd, hq3, hq4⟩ := hI1
 replace hd := loopK_some hd; obtain ⟨m3, rfl, hd⟩ := hd
 obtain ⟨nx1, hn1⟩ : ∃ f, f = loopK m3 (fun p nx => au_net_determine_b7 fu a0 a2 x1 p.1 p.2.1 p.2.2.1 p.2.2.2 nx) := ⟨_, rfl⟩
 rw [← hn1] at hd
 replace hd : au_net_determine_b7 fu a0 a2 x1 l1 l2 m1 k1 nx1 = some r := hd
 unfold au_net_determine_b7 at hd
 refine Wp.seq <| Wp.sr <| Seg.op (OpT.move rfl) rfl <| Seg.op (OpT.move rfl) rfl ?_
 refine Seg.rowLe (i := 2) rfl fun hb1 => ?_
 refine Seg.op (OpT.lenRow (i := 2) u58 rfl rfl) rfl <| Seg.op (OpT.lss rfl rfl) rfl <| Seg.nilT ?_
 refine Wp.cond (b := decide ((k1:Int) < (l1.length:Int))) rfl (fun hb2 => ?_) (fun hb2 => ?_)
 ·
  replace hd := brT hb2 hd
  replace hb2 := of_decide_eq_true hb2
  refine Wp.skip <| At.then_n <| Wp.seq <| Wp.block <| Wp.sr <| Seg.op (OpT.assign rfl) rfl <| Seg.nilT <| Wp.seq ?_
  refine Wp.sr <| Seg.op (OpT.move rfl) rfl ?_
  have hb3 := hv4.le
  refine Seg.op (OpT.len u81 rfl (hv4.mono (hl3.trans hl4)).sl) rfl <| Seg.op (OpT.move rfl) rfl <| Seg.nilT <| Wp.block <| Wp.nilRow 93 5 <| Wp.loopF (fun m LL HH OO => ∃ (l3 : List (List Int)), ∃ (l4 : List (BSet × Int)), ∃ (m4 : List (Str × Int)), ∃ (k2 : Nat), ∃ (v12 : Value), ∃ (xs5 : List Value), ∃ (v13 : Value), ∃ (xs6 : List Value), [(0, (ptr B0 0)), (2, (.int .i64 a2)), (7, v5), (8, v12), (9, (.map (some B2))), (10, v11), (11, (.int .i64 (k1:Int))), (12, v13), (50, v5), (51, (.int .i64 (((partsD x1).length : Nat) : Int))), (52, (.int .i64 (k2:Int)))] = LL ∧ .row v13 93 5 l4.length xs6 :: .row v11 30 2 l2.length xs4 :: mapR (mkS u9) (meI u3) B2 m4 :: .row v12 66 1 l3.length xs5 :: .blk B0 (.cells #[v1, v2, (.int .i64 a0.2.2)] 61 (0, 0)) :: O = OO ∧ loopK m (fun p nx => au_net_determine_b10 fu a0 a2 x1 l2 k1 nx1 p.1 p.2.1 p.2.2.1 p.2.2.2 nx) (l3, l4, m4, k2) = some r ∧ LayL (cL cI64) HH l3 xs5 ∧ LayL (cP cBs cI64) HH l4 xs6) fu ⟨l1, ([] : List (BSet × Int)), m1, 0, v10, xs3, (.slice none 0 0), [], rfl, rfl, hd, hq3, (LayL.nil (c := (cP cBs cI64)) (H := H4))⟩ (Sub.of rfl) ?_
  intro m5 L2 H5 O2 hl5 hI2
  obtain ⟨l3, l4, m4, k2, v12, xs5, v13, xs6, rfl, rfl, hd, hq5, hq6⟩ := hI2
  replace hd := loopK_some hd; obtain ⟨m6, rfl, hd⟩ := hd
  obtain ⟨nx2, hn2⟩ : ∃ f, f = loopK m6 (fun p nx => au_net_determine_b10 fu a0 a2 x1 l2 k1 nx1 p.1 p.2.1 p.2.2.1 p.2.2.2 nx) := ⟨_, rfl⟩
  rw [← hn2] at hd
  replace hd : au_net_determine_b10 fu a0 a2 x1 l2 k1 nx1 l3 l4 m4 k2 nx2 = some r := hd
  unfold au_net_determine_b10 at hd
  refine Wp.sr <| Seg.op (OpT.lss rfl rfl) rfl <| Seg.nilT <| Wp.seq ?_
  refine Wp.cond (b := decide ((k2:Int) < (((partsD x1).length : Nat) : Int))) rfl (fun hb4 => ?_) (fun hb4 => ?_)
  ·
   replace hd := brT hb4 hd
   replace hb4 := of_decide_eq_true hb4
   refine Wp.skip <| At.then_n <| Wp.seq <| Wp.block <| Wp.seq ?_
   obtain ⟨x5, hx5, hd⟩ := bnd_some hd
   have hx5_ := idx_bd hx5
   refine Wp.region ?_
   obtain ⟨_, rfl, hc2⟩ := SlD.get (hv4.mono ((hl3.trans hl4).trans hl5)) hx5
   refine Seg.op (OpT.ixSl u81 ti40 rfl (hv4.mono ((hl3.trans hl4).trans hl5)).sl rfl (idx_bd hx5)) rfl <| Seg.op (OpT.ldHA (vs := [(w64 (word x5 0)), (w64 (word x5 1)), (w64 (word x5 2)), (w64 (word x5 3))]) u40 rfl ti40 rfl rfl (fun j u hj => (hc2 j u hj))) rfl <| Seg.alloc (cs := bcs (fun _ => false)) ti40 bcs_empty rfl fun B3 => Seg.stBlkW (i := 0) (cs' := #[(w64 (word x5 0)), (w64 (word x5 1)), (w64 (word x5 2)), (w64 (word x5 3))]) rfl rfl ti40 rfl rfl (onesA (ones_cons rfl (ones_cons rfl (ones_cons rfl (ones_cons rfl (ones_nil)))))) rfl ?_
   refine Seg.own (O := .blk B3 (.cells #[(w64 (word x5 0)), (w64 (word x5 1)), (w64 (word x5 2)), (w64 (word x5 3))] 40 (0, 0)) :: .row v13 93 5 l4.length xs6 :: .row v11 30 2 l2.length xs4 :: mapR (mkS u9) (meI u3) B2 m4 :: .row v12 66 1 l3.length xs5 :: .blk B0 (.cells #[v1, v2, (.int .i64 a0.2.2)] 61 (0, 0)) :: O) ?_ rfl
   refine Seg.nilT <| Wp.seq ?_
   have := lst_lt x5
   refine Wp.region <| Seg.op (OpT.ldBlkW (i := 0) u40 rfl ti40 rfl rfl rfl) rfl <| Seg.op (OpT.call ent38 rfl (@least_i _ _ x5)) rfl <| Seg.op (OpT.move rfl) rfl <| Seg.op (OpT.extract rfl rfl) rfl <| Seg.op (OpT.extract rfl rfl) rfl <| Seg.op (OpT.assign rfl) rfl <| Seg.op (OpT.assign rfl) rfl ?_
   refine Seg.nilT <| Wp.sr <| Seg.op (OpT.assign rfl) rfl <| Seg.nilT <| Wp.seq <| Wp.seq ?_
   obtain ⟨x6, hx6, hd⟩ := bnd_some hd
   have hx6_ := idx_bd hx6
   refine Wp.region <| Seg.op (OpT.move rfl) rfl <| Seg.op (OpT.move rfl) rfl ?_
   obtain ⟨_, ⟨v14, rfl, hv7⟩, hc3, hc3_⟩ := LayL.get hq5 (idx_some hx6).2
   refine Seg.op (OpT.ixRow (j := 4) u58 ti66 rfl rfl rfl (idx_bd hx6)) rfl <| Seg.op (OpT.ldRow (i := 4) (k := k1 * 1 + 0) u66 rfl rfl rfl (hc3 0 _ rfl)) rfl ?_
   have hb5 := hv7.le
   refine Seg.op (OpT.len u66 rfl hv7.sl) rfl <| Seg.op (OpT.move rfl) rfl <| Seg.nilT <| Wp.block <| Wp.nilRow 3 1 <| Wp.loopF (fun m LL HH OO => ∃ (l5 : List Int), ∃ (k3 : Nat), ∃ (v15 : Value), ∃ (xs7 : List Value), [(0, (ptr B0 0)), (2, (.int .i64 a2)), (7, v5), (8, v12), (9, (.map (some B2))), (10, v11), (11, (.int .i64 (k1:Int))), (12, v13), (14, (ptr B3 0)), (15, (.int .u8 ((lst x5 : Nat) : Int))), (17, v15), (50, v5), (51, (.int .i64 (((partsD x1).length : Nat) : Int))), (52, (.int .i64 (k2:Int))), (64, v14), (65, (.int .i64 (x6.length:Int))), (66, (.int .i64 (k3:Int)))] = LL ∧ .row v15 3 1 l5.length xs7 :: .blk B3 (.cells #[(w64 (word x5 0)), (w64 (word x5 1)), (w64 (word x5 2)), (w64 (word x5 3))] 40 (0, 0)) :: .row v13 93 5 l4.length xs6 :: .row v11 30 2 l2.length xs4 :: mapR (mkS u9) (meI u3) B2 m4 :: .row v12 66 1 l3.length xs5 :: .blk B0 (.cells #[v1, v2, (.int .i64 a0.2.2)] 61 (0, 0)) :: O = OO ∧ loopK m (fun p nx => au_net_determine_b11 fu a0 l3 l4 m4 k2 nx2 x5 x6 p.1 p.2 nx) (l5, k3) = some r ∧ LayL cI64 HH l5 xs7) fu ⟨([] : List Int), 0, (.slice none 0 0), [], rfl, rfl, hd, (LayL.nil (c := cI64) (H := H5))⟩ (Sub.of rfl) ?_
   intro m7 L3 H6 O3 hl6 hI3
   obtain ⟨l5, k3, v15, xs7, rfl, rfl, hd, hq7⟩ := hI3
   replace hd := loopK_some hd; obtain ⟨m8, rfl, hd⟩ := hd
   obtain ⟨nx3, hn3⟩ : ∃ f, f = loopK m8 (fun p nx => au_net_determine_b11 fu a0 l3 l4 m4 k2 nx2 x5 x6 p.1 p.2 nx) := ⟨_, rfl⟩
   rw [← hn3] at hd
   replace hd : au_net_determine_b11 fu a0 l3 l4 m4 k2 nx2 x5 x6 l5 k3 nx3 = some r := hd
   unfold au_net_determine_b11 at hd
   refine Wp.sr <| Seg.op (OpT.lss rfl rfl) rfl <| Seg.nilT <| Wp.seq ?_
   refine Wp.cond (b := decide ((k3:Int) < (x6.length:Int))) rfl (fun hb6 => ?_) (fun hb6 => ?_)
   ·
    replace hd := brT hb6 hd
    replace hb6 := of_decide_eq_true hb6
    refine Wp.skip <| At.then_n <| Wp.seq <| Wp.block <| Wp.seq ?_
    obtain ⟨x7, hx7, hd⟩ := bnd_some hd
    have hx7_ := idx_bd hx7
    refine Wp.region ?_
    obtain ⟨_, rfl, hc4⟩ := SlD.get (hv7.mono hl6) hx7
    refine Seg.op (OpT.ixSl u66 ti3 rfl (hv7.mono hl6).sl rfl (idx_bd hx7)) rfl <| Seg.op (OpT.ldH u3 rfl rfl (hc4 0 _ rfl)) rfl <| Seg.op (OpT.assign rfl) rfl <| Seg.nilT <| Wp.seq ?_
    obtain ⟨x8, hx8, hd⟩ := bnd_some hd
    have hx8_ := idx_bd hx8
    refine Wp.region <| Seg.op (OpT.move rfl) rfl <| Seg.op (OpT.nilCheck rfl) rfl <| Seg.op (OpT.fld (o' := 1) fl61_1 rfl rfl) rfl <| Seg.op (OpT.ldBlk (i := 6) (v := v2) u59 rfl rfl rfl rfl) rfl <| Seg.op (OpT.move rfl) rfl ?_
    obtain ⟨_, ⟨v16, rfl, hv8⟩, hc5⟩ := SlD.get (hv2.mono (((((hl1.trans hl2).trans hl3).trans hl4).trans hl5).trans hl6)) hx8
    refine Seg.op (OpT.ixSl u59 ti78 rfl (hv2.mono (((((hl1.trans hl2).trans hl3).trans hl4).trans hl5).trans hl6)).sl rfl (idx_bd hx8)) rfl <| Seg.op (OpT.ldH u78 rfl rfl (hc5 0 _ rfl)) rfl ?_
    have hb7 := hv8.le
    refine Seg.op (OpT.len u78 rfl hv8.sl) rfl <| Seg.op (OpT.move rfl) rfl <| Seg.nilT <| Wp.block <| Wp.loopF (fun m LL HH OO => ∃ (l6 : List Int), ∃ (k4 : Nat), ∃ (v17 : Value), ∃ (xs8 : List Value), [(0, (ptr B0 0)), (2, (.int .i64 a2)), (7, v5), (8, v12), (9, (.map (some B2))), (10, v11), (11, (.int .i64 (k1:Int))), (12, v13), (14, (ptr B3 0)), (15, (.int .u8 ((lst x5 : Nat) : Int))), (17, v17), (50, v5), (51, (.int .i64 (((partsD x1).length : Nat) : Int))), (52, (.int .i64 (k2:Int))), (64, v14), (65, (.int .i64 (x6.length:Int))), (66, (.int .i64 (k3:Int))), (76, v16), (77, (.int .i64 (x8.length:Int))), (78, (.int .i64 (k4:Int)))] = LL ∧ .row v17 3 1 l6.length xs8 :: .blk B3 (.cells #[(w64 (word x5 0)), (w64 (word x5 1)), (w64 (word x5 2)), (w64 (word x5 3))] 40 (0, 0)) :: .row v13 93 5 l4.length xs6 :: .row v11 30 2 l2.length xs4 :: mapR (mkS u9) (meI u3) B2 m4 :: .row v12 66 1 l3.length xs5 :: .blk B0 (.cells #[v1, v2, (.int .i64 a0.2.2)] 61 (0, 0)) :: O = OO ∧ loopK m (fun p nx => au_net_determine_b12 fu x5 k3 nx3 x8 p.1 p.2 nx) (l6, k4) = some r ∧ LayL cI64 HH l6 xs8) fu ⟨l5, 0, v15, xs7, rfl, rfl, hd, hq7⟩ (Sub.of rfl) ?_
    intro m9 L4 H7 O4 hl7 hI4
    obtain ⟨l6, k4, v17, xs8, rfl, rfl, hd, hq8⟩ := hI4
    replace hd := loopK_some hd; obtain ⟨m10, rfl, hd⟩ := hd
    obtain ⟨nx4, hn4⟩ : ∃ f, f = loopK m10 (fun p nx => au_net_determine_b12 fu x5 k3 nx3 x8 p.1 p.2 nx) := ⟨_, rfl⟩
    rw [← hn4] at hd
    replace hd : au_net_determine_b12 fu x5 k3 nx3 x8 l6 k4 nx4 = some r := hd
    unfold au_net_determine_b12 at hd
    refine Wp.sr <| Seg.op (OpT.lss rfl rfl) rfl <| Seg.nilT <| Wp.seq ?_
    refine Wp.cond (b := decide ((k4:Int) < (x8.length:Int))) rfl (fun hb8 => ?_) (fun hb8 => ?_)
    ·
     replace hd := brT hb8 hd
     replace hb8 := of_decide_eq_true hb8
     refine Wp.skip <| At.then_n <| Wp.seq <| Wp.block <| Wp.seq ?_
     obtain ⟨x9, hx9, hd⟩ := bnd_some hd
     have hx9_ := idx_bd hx9
     refine Wp.region ?_
     obtain ⟨_, ⟨_, _, rfl, rfl, ⟨_, _, rfl, rfl, rfl⟩⟩, hc6⟩ := SlD.get (hv8.mono hl7) hx9
     refine Seg.op (OpT.ixSl u78 ti80 rfl (hv8.mono hl7).sl rfl (idx_bd hx9)) rfl <| Seg.op (OpT.ldHA (vs := [(w64 (word x9.1 0)), (w64 (word x9.1 1)), (w64 (word x9.1 2)), (w64 (word x9.1 3)), (.int .i64 x9.2.1), (.int .i64 x9.2.2)]) u80 rfl ti80 rfl rfl (fun j u hj => (hc6 j u hj))) rfl <| Seg.alloc (cs := #[(w64 (word (fun _ => false) 0)), (w64 (word (fun _ => false) 1)), (w64 (word (fun _ => false) 2)), (w64 (word (fun _ => false) 3)), (.int .i64 0), (.int .i64 0)]) ti80 (by simp only [zw]; rfl) rfl fun B4 => Seg.stBlkW (i := 0) (cs' := #[(w64 (word x9.1 0)), (w64 (word x9.1 1)), (w64 (word x9.1 2)), (w64 (word x9.1 3)), (.int .i64 x9.2.1), (.int .i64 x9.2.2)]) rfl rfl ti80 rfl rfl (onesA (ones_cons rfl (ones_cons rfl (ones_cons rfl (ones_cons rfl (ones_cons rfl (ones_cons rfl (ones_nil)))))))) rfl ?_
     refine Seg.own (O := .blk B4 (.cells #[(w64 (word x9.1 0)), (w64 (word x9.1 1)), (w64 (word x9.1 2)), (w64 (word x9.1 3)), (.int .i64 x9.2.1), (.int .i64 x9.2.2)] 80 (0, 0)) :: .row v17 3 1 l6.length xs8 :: .blk B3 (.cells #[(w64 (word x5 0)), (w64 (word x5 1)), (w64 (word x5 2)), (w64 (word x5 3))] 40 (0, 0)) :: .row v13 93 5 l4.length xs6 :: .row v11 30 2 l2.length xs4 :: mapR (mkS u9) (meI u3) B2 m4 :: .row v12 66 1 l3.length xs5 :: .blk B0 (.cells #[v1, v2, (.int .i64 a0.2.2)] 61 (0, 0)) :: O) ?_ rfl
     refine Seg.nilT <| Wp.sr <| Seg.op (OpT.fld (o' := 0) fl80_0 rfl rfl) rfl <| Seg.op (OpT.ldBlkX (i := 0) (vs := [(w64 (word x9.1 0)), (w64 (word x9.1 1)), (w64 (word x9.1 2)), (w64 (word x9.1 3))]) u40 rfl ti40 rfl rfl rfl) rfl <| Seg.op (OpT.move rfl) rfl <| Seg.op (OpT.call ent39 rfl (@has_i _ _ x9.1 ((lst x5 : Nat) : Int) (by omega) (by omega))) rfl <| Seg.nilT ?_
     refine Wp.cond (b := x9.1 (((lst x5 : Nat) : Int)).toNat) rfl (fun hb9 => ?_) (fun hb9 => ?_)
     ·
      replace hd := brT hb9 hd
      obtain ⟨ha4, hd⟩ := chk_some hd
      refine Wp.region <| Seg.op (OpT.move rfl) rfl <| Seg.op (OpT.fld (o' := 4) fl80_1 rfl rfl) rfl <| Seg.op (OpT.ldBlk (i := 0) (v := (.int .i64 x9.2.1)) u3 rfl rfl rfl rfl) rfl <| Seg.buildD1 (c := cI64) (y := x9.2.1) (cs := [(.int .i64 x9.2.1)]) u66 ti3 rfl rfl rfl rfl (rfl) rfl fun v18 xs9 hq9 => Seg.appD (i := 2) (j := 0) hq8 hq9 u66 ti3 rfl (by decide) rfl rfl rfl rfl (by decide) ha4 rfl fun v19 xs10 hq10 => Seg.drop (i := 0) <| Seg.op (OpT.assign rfl) rfl ?_
      refine Seg.nil <| At.blk_n <| At.then_n <| Wp.region <| Seg.op (OpT.add rfl rfl (fits64 (by omega))) rfl <| Seg.op (OpT.move rfl) rfl <| Seg.nil <| At.permK [1, 2, 3, 4, 5, 6, 7] 8 rfl rfl rfl ?_
      refine At.nextF (Hp.le.refl _) ⟨(l6 ++ ([x9.2.1] : List Int)), (k4 + 1), v19, xs10, rfl, rfl, (by rw [← hn4]; exact hd), hq10⟩ (Sub.of rfl)
     replace hd := brF hb9 hd
     refine Wp.skip <| At.blk_n <| At.then_n <| Wp.region <| Seg.op (OpT.add rfl rfl (fits64 (by omega))) rfl <| Seg.op (OpT.move rfl) rfl <| Seg.nil <| At.permK [1, 2, 3, 4, 5, 6, 7] 8 rfl rfl rfl ?_
     refine At.nextF (Hp.le.refl _) ⟨l6, (k4 + 1), v17, xs8, rfl, rfl, (by rw [← hn4]; exact hd), hq8⟩ (Sub.of rfl)
    replace hd := brF hb8 hd
    replace hb8 := of_decide_eq_false hb8
    refine Wp.exit <| At.then_x <| At.then_x <| At.blk_hit <| At.blk_n <| At.then_n <| Wp.region <| Seg.op (OpT.add rfl rfl (fits64 (by omega))) rfl ?_
    refine Seg.op (OpT.move rfl) rfl <| Seg.nil ?_
    refine At.nextF hl7 ⟨l6, (k3 + 1), v17, xs8, rfl, rfl, (by rw [← hn3]; exact hd), hq8⟩ (Sub.of rfl)
   replace hd := brF hb6 hd
   replace hb6 := of_decide_eq_false hb6
   refine Wp.exit <| At.then_x <| At.then_x <| At.blk_hit <| At.then_n <| Wp.seq <| Wp.sr <| Seg.op (OpT.move rfl) rfl ?_
   refine Seg.rowLe (i := 0) rfl fun hb10 => ?_
   refine Seg.op (OpT.lenRow (i := 0) u66 rfl rfl) rfl <| Seg.op (OpT.eql rfl rfl) rfl <| Seg.nilT ?_
   refine Wp.cond (b := decide ((l5.length:Int) = 0)) rfl (fun hb11 => ?_) (fun hb11 => ?_)
   ·
    replace hd := brT hb11 hd
    replace hb11 := of_decide_eq_true hb11
    refine Wp.exit <| At.then_x <| At.blk_hit <| At.then_n <| Wp.region <| Seg.op (OpT.add rfl rfl (fits64 (by omega))) rfl <| Seg.op (OpT.move rfl) rfl <| Seg.nil ?_
    refine At.permK [2, 3, 4, 5, 6] 7 rfl rfl rfl ?_
    refine At.nextF hl6 ⟨l3, l4, m4, (k2 + 1), v12, xs5, v13, xs6, rfl, rfl, (by rw [← hn2]; exact hd), (hq5.mono hl6), (hq6.mono hl6)⟩ (Sub.of rfl)
   replace hd := brF hb11 hd
   replace hb11 := of_decide_eq_false hb11
   refine Wp.skip <| At.then_n <| Wp.seq ?_
   obtain ⟨x10, hx10, hd⟩ := bnd_some hd
   refine Wp.region <| Seg.op (OpT.move rfl) rfl <| Seg.op (OpT.move rfl) rfl <| Seg.permK [6, 0, 1, 2, 3, 4, 5] 7 rfl rfl rfl <| Seg.opS (OpS.call ent37 rfl (au_net_closure_w (hv1.mono (((((hl1.trans hl2).trans hl3).trans hl4).trans hl5).trans hl6)) (hv2.mono (((((hl1.trans hl2).trans hl3).trans hl4).trans hl5).trans hl6)) hq7 hx10)) rfl ?_
   rintro _ H8 _ hl8 ⟨⟨v20, rfl, hv9⟩, rfl⟩
   refine Seg.op (OpT.assign rfl) rfl <| Seg.nilT <| Wp.seq ?_
   obtain ⟨x11, hx11, hd⟩ := bnd_some hd
   refine Wp.region <| Seg.op (OpT.move rfl) rfl <| Seg.op (OpT.call ent41 rfl (au_key_w hv9 (hG.mono ((((((hl1.trans hl2).trans hl3).trans hl4).trans hl5).trans hl6).trans hl8)) hx11)) rfl <| Seg.op (OpT.assign rfl) rfl <| Seg.nilT <| Wp.seq <| Wp.seq ?_
   obtain ⟨ha5, hd⟩ := chk_some hd
   refine Wp.region <| Seg.op (OpT.move rfl) rfl <| Seg.op (OpT.move rfl) rfl <| Seg.op (OpT.lookupOk (K := (mkS u9)) (M := (meI u3)) (i := 4) (k := x11) (z := 0) u72 ti3 (show F64 0 by decide) rfl rfl ha5 rfl) rfl <| Seg.op (OpT.move rfl) rfl <| Seg.op (OpT.extract rfl rfl) rfl <| Seg.op (OpT.extract rfl rfl) rfl <| Seg.op (OpT.assign rfl) rfl ?_
   refine Seg.op (OpT.assign rfl) rfl <| Seg.nilT <| Wp.sr <| Seg.op (OpT.move rfl) rfl <| Seg.op (OpT.not rfl) rfl <| Seg.nilT ?_
   refine Wp.joinT (fun LL HH OO => ∃ (l7 : List (List Int)), ∃ (m11 : List (Str × Int)), ∃ (v21 : Value), ∃ (xs11 : List Value), [(0, (ptr B0 0)), (2, (.int .i64 a2)), (7, v5), (8, v21), (9, (.map (some B2))), (10, v11), (11, (.int .i64 (k1:Int))), (12, v13), (14, (ptr B3 0)), (22, (sv x11)), (50, v5), (51, (.int .i64 (((partsD x1).length : Nat) : Int))), (52, (.int .i64 (k2:Int)))] = LL ∧ .blk B0 (.cells #[v1, v2, (.int .i64 a0.2.2)] 61 (0, 0)) :: .blk B3 (.cells #[(w64 (word x5 0)), (w64 (word x5 1)), (w64 (word x5 2)), (w64 (word x5 3))] 40 (0, 0)) :: .row v13 93 5 l4.length xs6 :: .row v11 30 2 l2.length xs4 :: mapR (mkS u9) (meI u3) B2 m11 :: .row v21 66 1 l7.length xs11 :: O = OO ∧ au_net_determine_j13 fu l4 k2 nx2 x5 x11 l7 m11 = some r ∧ LayL (cL cI64) HH l7 xs11) ?_ ?_
   ·
    refine Wp.cond (b := !((fmGet m4 x11).isSome)) rfl (fun hb12 => ?_) (fun hb12 => ?_)
    ·
     replace hd := brT hb12 hd
     refine Wp.seq ?_
     obtain ⟨ha6, hd⟩ := chk_some hd
     obtain ⟨ha7, hd⟩ := chk_some hd
     obtain ⟨ha8, hd⟩ := chk_some hd
     refine Wp.region <| Seg.op (OpT.move rfl) rfl <| Seg.op (OpT.move rfl) rfl <| Seg.op (OpT.move rfl) rfl ?_
     refine Seg.rowLe (i := 5) rfl fun hb13 => ?_
     refine Seg.op (OpT.lenRow (i := 5) u58 rfl rfl) rfl <| Seg.mapUpdate (K := (mkS u9)) (M := (meI u3)) (k := x11) (v := (l3.length:Int)) 4 u72 rfl rfl rfl ha6 ha7 ha8 rfl <| Seg.nilT ?_
     obtain ⟨ha9, hd⟩ := chk_some hd
     refine Wp.region <| Seg.op (OpT.move rfl) rfl <| Seg.op (OpT.move rfl) rfl <| Seg.buildD1 (c := (cL cI64)) (y := x10) (cs := [v20]) u58 ti66 rfl rfl rfl (cellsL hv9.one) (⟨_, rfl, hv9⟩) rfl fun v22 xs12 hq11 => Seg.appD (i := 6) (j := 0) (hq5.mono (hl6.trans hl8)) hq11 u58 ti66 rfl (by decide) rfl rfl rfl rfl (by decide) ha9 rfl fun v23 xs13 hq12 => Seg.drop (i := 0) <| Seg.op (OpT.assign rfl) rfl <| Seg.nil ?_
     refine At.joinF (Hp.le.refl _) ⟨(l3 ++ ([x10] : List (List Int))), (fmPut m4 x11 (l3.length:Int)), v23, xs13, rfl, rfl, hd, hq12⟩ (Sub.of rfl)
    replace hd := brF hb12 hd
    refine Wp.skip ?_
    refine At.joinF (Hp.le.refl _) ⟨l3, m4, v12, xs5, rfl, rfl, hd, (hq5.mono (hl6.trans hl8))⟩ (Sub.of rfl)
   intro L5 H9 O5 hl9 hI5
   obtain ⟨l7, m11, v21, xs11, rfl, rfl, hd, hq13⟩ := hI5
   unfold au_net_determine_j13 at hd
   obtain ⟨ha10, hd⟩ := chk_some hd
   obtain ⟨ha11, hd⟩ := chk_some hd
   refine Wp.region <| Seg.op (OpT.move rfl) rfl <| Seg.op (OpT.ldBlkW (i := 1) u40 rfl ti40 rfl rfl rfl) rfl <| Seg.op (OpT.move rfl) rfl <| Seg.op (OpT.move rfl) rfl <| Seg.op (OpT.lookup (K := (mkS u9)) (M := (meI u3)) (i := 4) (k := x11) (z := 0) u72 ti3 (show F64 0 by decide) rfl rfl ha10 rfl) rfl <| Seg.op (OpT.buildS (vs := [(0, (.agg #[(w64 (word x5 0)), (w64 (word x5 1)), (w64 (word x5 2)), (w64 (word x5 3))])), (1, (.int .i64 ((fmGet m11 x11).getD 0)))]) (cs := #[(w64 (word x5 0)), (w64 (word x5 1)), (w64 (word x5 2)), (w64 (word x5 3)), (.int .i64 ((fmGet m11 x11).getD 0))]) plf93 ti93 rfl rfl (vc_cons rfl (vc_cons rfl (vc_nil))) rfl) rfl <| Seg.buildD1 (c := (cP cBs cI64)) (y := (x5, (fmGet m11 x11).getD 0)) (cs := [(w64 (word x5 0)), (w64 (word x5 1)), (w64 (word x5 2)), (w64 (word x5 3)), (.int .i64 ((fmGet m11 x11).getD 0))]) u91 ti93 rfl rfl rfl rfl (⟨[(w64 (word x5 0)), (w64 (word x5 1)), (w64 (word x5 2)), (w64 (word x5 3))], [(.int .i64 ((fmGet m11 x11).getD 0))], rfl, rfl, rfl⟩) rfl fun v24 xs14 hq14 => ?_
   refine Seg.appD (i := 3) (j := 0) (hq6.mono ((hl6.trans hl8).trans hl9)) hq14 u91 ti93 rfl (by decide) rfl rfl rfl rfl (by decide) ha11 rfl fun v25 xs15 hq15 => Seg.drop (i := 0) <| Seg.op (OpT.assign rfl) rfl <| Seg.nil <| At.blk_n <| At.then_n <| Wp.region <| Seg.op (OpT.add rfl rfl (fits64 (by omega))) rfl ?_
   refine Seg.op (OpT.move rfl) rfl <| Seg.nil <| At.permK [2, 3, 4, 5, 0] 6 rfl rfl rfl ?_
   refine At.nextF ((hl6.trans hl8).trans hl9) ⟨l7, (l4 ++ ([(x5, (fmGet m11 x11).getD 0)] : List (BSet × Int))), m11, (k2 + 1), v21, xs11, v25, xs15, rfl, rfl, (by rw [← hn2]; exact hd), hq13, hq15⟩ (Sub.of rfl)
  replace hd := brF hb4 hd
  replace hb4 := of_decide_eq_false hb4
  refine Wp.exit <| At.then_x <| At.then_x <| At.blk_hit <| At.then_n <| Wp.seq ?_
  obtain ⟨x12, hx12, hd⟩ := bnd_some hd
  have hx12_ := idx_bd hx12
  obtain ⟨x13, hx13, hd⟩ := bnd_some hd
  refine Wp.region <| Seg.op (OpT.move rfl) rfl <| Seg.op (OpT.move rfl) rfl ?_
  obtain ⟨_, ⟨v26, rfl, hv10⟩, hc7, hc7_⟩ := LayL.get hq5 (idx_some hx12).2
  refine Seg.op (OpT.ixRow (j := 3) u58 ti66 rfl rfl rfl (idx_bd hx12)) rfl <| Seg.op (OpT.ldRow (i := 3) (k := k1 * 1 + 0) u66 rfl rfl rfl (hc7 0 _ rfl)) rfl <| Seg.op (OpT.move rfl) rfl <| Seg.op (OpT.call ent42 rfl (slices_Contains_w hv10 hx13)) rfl <| Seg.op (OpT.buildS (vs := [(0, (.bool x13))]) (cs := #[(.bool x13), (.slice none 0 0)]) plf30 ti30 rfl rfl (vc_cons rfl (vc_nil)) rfl) rfl <| Seg.alloc (cs := #[(.bool false), (.slice none 0 0)]) ti30 rfl rfl fun B5 => Seg.stBlkW (i := 0) (cs' := #[(.bool x13), (.slice none 0 0)]) rfl rfl ti30 rfl rfl (onesA (ones_cons rfl (ones_cons rfl (ones_nil)))) rfl ?_
  refine Seg.own (O := .blk B5 (.cells #[(.bool x13), (.slice none 0 0)] 30 (0, 0)) :: .row v13 93 5 l4.length xs6 :: .row v11 30 2 l2.length xs4 :: mapR (mkS u9) (meI u3) B2 m4 :: .row v12 66 1 l3.length xs5 :: .blk B0 (.cells #[v1, v2, (.int .i64 a0.2.2)] 61 (0, 0)) :: O) ?_ rfl
  refine Seg.nilT <| Wp.seq <| Wp.sr <| Seg.op (OpT.move rfl) rfl ?_
  refine Seg.rowLe (i := 1) rfl fun hb14 => ?_
  refine Seg.op (OpT.lenRow (i := 1) u91 rfl rfl) rfl <| Seg.op (OpT.move rfl) rfl <| Seg.nilT <| Wp.block <| Wp.nilRow 27 3 <| Wp.loopF (fun m LL HH OO => ∃ (l8 : List (Int × Int × Int)), ∃ (k5 : Nat), ∃ (v27 : Value), ∃ (xs16 : List Value), [(0, (ptr B0 0)), (2, (.int .i64 a2)), (7, v5), (8, v12), (9, (.map (some B2))), (10, v11), (11, (.int .i64 (k1:Int))), (25, (ptr B5 0)), (133, v13), (134, (.int .i64 (l4.length:Int))), (135, (.int .i64 (k5:Int)))] = LL ∧ .row v27 27 3 l8.length xs16 :: .blk B5 (.cells #[(.bool x13), v27] 30 (0, 0)) :: .row v13 93 5 l4.length xs6 :: .row v11 30 2 l2.length xs4 :: mapR (mkS u9) (meI u3) B2 m4 :: .row v12 66 1 l3.length xs5 :: .blk B0 (.cells #[v1, v2, (.int .i64 a0.2.2)] 61 (0, 0)) :: O = OO ∧ loopK m (fun p nx => au_net_determine_b14 fu l2 k1 nx1 l3 l4 m4 x13 p.1 p.2 nx) (l8, k5) = some r ∧ LayL (cP cU8 (cP cU8 cI64)) HH l8 xs16) fu ⟨([] : List (Int × Int × Int)), 0, (.slice none 0 0), [], rfl, rfl, hd, (LayL.nil (c := (cP cU8 (cP cU8 cI64))) (H := H5))⟩ (Sub.of rfl) ?_
  intro m12 L6 H10 O6 hl10 hI6
  obtain ⟨l8, k5, v27, xs16, rfl, rfl, hd, hq16⟩ := hI6
  replace hd := loopK_some hd; obtain ⟨m13, rfl, hd⟩ := hd
  obtain ⟨nx5, hn5⟩ : ∃ f, f = loopK m13 (fun p nx => au_net_determine_b14 fu l2 k1 nx1 l3 l4 m4 x13 p.1 p.2 nx) := ⟨_, rfl⟩
  rw [← hn5] at hd
  replace hd : au_net_determine_b14 fu l2 k1 nx1 l3 l4 m4 x13 l8 k5 nx5 = some r := hd
  unfold au_net_determine_b14 at hd
  refine Wp.sr <| Seg.op (OpT.lss rfl rfl) rfl <| Seg.nilT <| Wp.seq ?_
  refine Wp.cond (b := decide ((k5:Int) < (l4.length:Int))) rfl (fun hb15 => ?_) (fun hb15 => ?_)
  ·
   replace hd := brT hb15 hd
   replace hb15 := of_decide_eq_true hb15
   refine Wp.skip <| At.then_n <| Wp.seq <| Wp.block <| Wp.seq ?_
   obtain ⟨x14, hx14, hd⟩ := bnd_some hd
   have hx14_ := idx_bd hx14
   refine Wp.region ?_
   obtain ⟨_, ⟨_, _, rfl, rfl, rfl⟩, hc8, hc8_⟩ := LayL.get (hq6.mono hl10) (idx_some hx14).2
   refine Seg.op (OpT.ixRow (j := 2) u91 ti93 rfl rfl rfl (idx_bd hx14)) rfl <| Seg.op (OpT.ldRowA (i := 2) (vs := [(w64 (word x14.1 0)), (w64 (word x14.1 1)), (w64 (word x14.1 2)), (w64 (word x14.1 3)), (.int .i64 x14.2)]) u93 rfl ti93 (by simp) rfl rfl hc8) rfl <| Seg.alloc (cs := #[(w64 (word (fun _ => false) 0)), (w64 (word (fun _ => false) 1)), (w64 (word (fun _ => false) 2)), (w64 (word (fun _ => false) 3)), (.int .i64 0)]) ti93 (by simp only [zw]; rfl) rfl fun B6 => Seg.stBlkW (i := 0) (cs' := #[(w64 (word x14.1 0)), (w64 (word x14.1 1)), (w64 (word x14.1 2)), (w64 (word x14.1 3)), (.int .i64 x14.2)]) rfl rfl ti93 rfl rfl (onesA (ones_cons rfl (ones_cons rfl (ones_cons rfl (ones_cons rfl (ones_cons rfl (ones_nil))))))) rfl ?_
   refine Seg.own (O := .blk B6 (.cells #[(w64 (word x14.1 0)), (w64 (word x14.1 1)), (w64 (word x14.1 2)), (w64 (word x14.1 3)), (.int .i64 x14.2)] 93 (0, 0)) :: .row v27 27 3 l8.length xs16 :: .blk B5 (.cells #[(.bool x13), v27] 30 (0, 0)) :: .row v13 93 5 l4.length xs6 :: .row v11 30 2 l2.length xs4 :: mapR (mkS u9) (meI u3) B2 m4 :: .row v12 66 1 l3.length xs5 :: .blk B0 (.cells #[v1, v2, (.int .i64 a0.2.2)] 61 (0, 0)) :: O) ?_ rfl
   refine Seg.nilT <| Wp.sr <| Seg.op (OpT.fld (o' := 0) fl93_0 rfl rfl) rfl <| Seg.op (OpT.ldBlkX (i := 0) (vs := [(w64 (word x14.1 0)), (w64 (word x14.1 1)), (w64 (word x14.1 2)), (w64 (word x14.1 3))]) u40 rfl ti40 rfl rfl rfl) rfl <| Seg.opS (OpS.call ent43 rfl (@ranges_i _ _ x14.1)) rfl ?_
   rintro _ H11 _ hl11 ⟨⟨v28, rfl, hv11⟩, rfl⟩
   have hb16 := hv11.le
   refine Seg.op (OpT.len u95 rfl hv11.sl) rfl <| Seg.op (OpT.move rfl) rfl <| Seg.nilT <| Wp.block <| Wp.loopF (fun m LL HH OO => ∃ (l9 : List (Int × Int × Int)), ∃ (k6 : Nat), ∃ (v29 : Value), ∃ (xs17 : List Value), [(0, (ptr B0 0)), (2, (.int .i64 a2)), (7, v5), (8, v12), (9, (.map (some B2))), (10, v11), (11, (.int .i64 (k1:Int))), (25, (ptr B5 0)), (27, (ptr B6 0)), (133, v13), (134, (.int .i64 (l4.length:Int))), (135, (.int .i64 (k5:Int))), (141, v28), (142, (.int .i64 (((rgD x14.1).length : Nat) : Int))), (143, (.int .i64 (k6:Int)))] = LL ∧ .blk B6 (.cells #[(w64 (word x14.1 0)), (w64 (word x14.1 1)), (w64 (word x14.1 2)), (w64 (word x14.1 3)), (.int .i64 x14.2)] 93 (0, 0)) :: .row v29 27 3 l9.length xs17 :: .blk B5 (.cells #[(.bool x13), v29] 30 (0, 0)) :: .row v13 93 5 l4.length xs6 :: .row v11 30 2 l2.length xs4 :: mapR (mkS u9) (meI u3) B2 m4 :: .row v12 66 1 l3.length xs5 :: .blk B0 (.cells #[v1, v2, (.int .i64 a0.2.2)] 61 (0, 0)) :: O = OO ∧ loopK m (fun p nx => au_net_determine_b15 fu k5 nx5 x14 p.1 p.2 nx) (l9, k6) = some r ∧ LayL (cP cU8 (cP cU8 cI64)) HH l9 xs17) fu ⟨l8, 0, v27, xs16, rfl, rfl, hd, (hq16.mono hl11)⟩ (Sub.of rfl) ?_
   intro m14 L7 H12 O7 hl12 hI7
   obtain ⟨l9, k6, v29, xs17, rfl, rfl, hd, hq17⟩ := hI7
   replace hd := loopK_some hd; obtain ⟨m15, rfl, hd⟩ := hd
   obtain ⟨nx6, hn6⟩ : ∃ f, f = loopK m15 (fun p nx => au_net_determine_b15 fu k5 nx5 x14 p.1 p.2 nx) := ⟨_, rfl⟩
   rw [← hn6] at hd
   replace hd : au_net_determine_b15 fu k5 nx5 x14 l9 k6 nx6 = some r := hd
   unfold au_net_determine_b15 at hd
   refine Wp.sr <| Seg.op (OpT.lss rfl rfl) rfl <| Seg.nilT <| Wp.seq ?_
   refine Wp.cond (b := decide ((k6:Int) < (((rgD x14.1).length : Nat) : Int))) rfl (fun hb17 => ?_) (fun hb17 => ?_)
   ·
    replace hd := brT hb17 hd
    replace hb17 := of_decide_eq_true hb17
    refine Wp.skip <| At.then_n <| Wp.seq <| Wp.block <| Wp.seq ?_
    obtain ⟨x15, hx15, hd⟩ := bnd_some hd
    have hx15_ := idx_bd hx15
    refine Wp.region ?_
    obtain ⟨_, ⟨_, _, rfl, ⟨rfl, hr1, hr2⟩, ⟨rfl, hr3, hr4⟩⟩, hc9⟩ := SlD.get (hv11.mono hl12) hx15
    refine Seg.op (OpT.ixSl u95 ti97 rfl (hv11.mono hl12).sl rfl (idx_bd hx15)) rfl <| Seg.op (OpT.ldHA (vs := [(.int .u8 x15.1), (.int .u8 x15.2)]) u97 rfl ti97 rfl rfl (fun j u hj => (hc9 j u hj))) rfl <| Seg.alloc (cs := #[(.int .u8 0), (.int .u8 0)]) ti97 rfl rfl fun B7 => Seg.stBlkW (i := 0) (cs' := #[(.int .u8 x15.1), (.int .u8 x15.2)]) rfl rfl ti97 rfl rfl (onesA (ones_cons rfl (ones_cons rfl (ones_nil)))) rfl ?_
    refine Seg.own (O := .blk B7 (.cells #[(.int .u8 x15.1), (.int .u8 x15.2)] 97 (0, 0)) :: .blk B6 (.cells #[(w64 (word x14.1 0)), (w64 (word x14.1 1)), (w64 (word x14.1 2)), (w64 (word x14.1 3)), (.int .i64 x14.2)] 93 (0, 0)) :: .row v29 27 3 l9.length xs17 :: .blk B5 (.cells #[(.bool x13), v29] 30 (0, 0)) :: .row v13 93 5 l4.length xs6 :: .row v11 30 2 l2.length xs4 :: mapR (mkS u9) (meI u3) B2 m4 :: .row v12 66 1 l3.length xs5 :: .blk B0 (.cells #[v1, v2, (.int .i64 a0.2.2)] 61 (0, 0)) :: O) ?_ rfl
    refine Seg.nilT ?_
    obtain ⟨ha12, hd⟩ := chk_some hd
    refine Wp.region <| Seg.op (OpT.fld (o' := 1) fl30_1 rfl rfl) rfl <| Seg.op (OpT.ldBlk (i := 3) (v := v29) u28 rfl rfl rfl rfl) rfl <| Seg.op (OpT.ixArr (off' := 0) u97 ti5 rfl rfl (by decide) rfl) rfl <| Seg.op (OpT.ldBlk (i := 0) (v := (.int .u8 x15.1)) u5 rfl rfl rfl rfl) rfl <| Seg.op (OpT.ixArr (off' := 1) u97 ti5 rfl rfl (by decide) rfl) rfl <| Seg.op (OpT.ldBlk (i := 0) (v := (.int .u8 x15.2)) u5 rfl rfl rfl rfl) rfl <| Seg.op (OpT.fld (o' := 4) fl93_1 rfl rfl) rfl ?_
    refine Seg.op (OpT.ldBlk (i := 1) (v := (.int .i64 x14.2)) u3 rfl rfl rfl rfl) rfl <| Seg.op (OpT.buildS (vs := [(0, (.int .u8 x15.1)), (1, (.int .u8 x15.2)), (2, (.int .i64 x14.2))]) (cs := #[(.int .u8 x15.1), (.int .u8 x15.2), (.int .i64 x14.2)]) plf27 ti27 rfl rfl (vc_cons rfl (vc_cons rfl (vc_cons rfl (vc_nil)))) rfl) rfl <| Seg.buildD1 (c := (cP cU8 (cP cU8 cI64))) (y := (x15.1, x15.2, x14.2)) (cs := [(.int .u8 x15.1), (.int .u8 x15.2), (.int .i64 x14.2)]) u28 ti27 rfl rfl rfl rfl (⟨[(.int .u8 x15.1)], [(.int .u8 x15.2), (.int .i64 x14.2)], rfl, ⟨rfl, (show (0 : Int) ≤ x15.1 by omega), (show x15.1 ≤ (255 : Int) by omega)⟩, ⟨[(.int .u8 x15.2)], [(.int .i64 x14.2)], rfl, ⟨rfl, (show (0 : Int) ≤ x15.2 by omega), (show x15.2 ≤ (255 : Int) by omega)⟩, rfl⟩⟩) rfl fun v30 xs18 hq18 => Seg.appD (i := 3) (j := 0) hq17 hq18 u28 ti27 rfl (by decide) rfl rfl rfl rfl (by decide) ha12 rfl fun v31 xs19 hq19 => Seg.drop (i := 0) <| Seg.op (OpT.fld (o' := 1) fl30_1 rfl rfl) rfl <| Seg.rowOne (i := 2) rfl fun ho1 => Seg.stBlk1 (i := 3) rfl rfl ho1 ti28 rfl (Nat.le_of_ble_eq_true rfl) ?_
    refine Seg.own (O := .blk B7 (.cells #[(.int .u8 x15.1), (.int .u8 x15.2)] 97 (0, 0)) :: .blk B6 (.cells #[(w64 (word x14.1 0)), (w64 (word x14.1 1)), (w64 (word x14.1 2)), (w64 (word x14.1 3)), (.int .i64 x14.2)] 93 (0, 0)) :: .row v31 27 3 (l9 ++ ([(x15.1, x15.2, x14.2)] : List (Int × Int × Int))).length xs19 :: .blk B5 (.cells #[(.bool x13), v31] 30 (0, 0)) :: .row v13 93 5 l4.length xs6 :: .row v11 30 2 l2.length xs4 :: mapR (mkS u9) (meI u3) B2 m4 :: .row v12 66 1 l3.length xs5 :: .blk B0 (.cells #[v1, v2, (.int .i64 a0.2.2)] 61 (0, 0)) :: O) ?_ rfl
    refine Seg.nil <| At.blk_n <| At.then_n <| Wp.region <| Seg.op (OpT.add rfl rfl (fits64 (by omega))) rfl <| Seg.op (OpT.move rfl) rfl <| Seg.nil <| At.permK [1, 2, 3, 4, 5, 6, 7, 8] 9 rfl rfl rfl ?_
    refine At.nextF (Hp.le.refl _) ⟨(l9 ++ ([(x15.1, x15.2, x14.2)] : List (Int × Int × Int))), (k6 + 1), v31, xs19, rfl, rfl, (by rw [← hn6]; exact hd), hq19⟩ (Sub.of rfl)
   replace hd := brF hb17 hd
   replace hb17 := of_decide_eq_false hb17
   refine Wp.exit <| At.then_x <| At.then_x <| At.blk_hit <| At.blk_n <| At.then_n <| Wp.region <| Seg.op (OpT.add rfl rfl (fits64 (by omega))) rfl ?_
   refine Seg.op (OpT.move rfl) rfl <| Seg.nil <| At.permK [1, 2, 3, 4, 5, 6, 7] 8 rfl rfl rfl ?_
   refine At.nextF (hl11.trans hl12) ⟨l9, (k5 + 1), v29, xs17, rfl, rfl, (by rw [← hn5]; exact hd), hq17⟩ (Sub.of rfl)
  replace hd := brF hb15 hd
  replace hb15 := of_decide_eq_false hb15
  refine Wp.exit <| At.then_x <| At.then_x <| At.blk_hit <| At.then_n <| Wp.seq ?_
  obtain ⟨ha13, hd⟩ := chk_some hd
  obtain ⟨ha14, hd⟩ := chk_some hd
  refine Wp.region <| Seg.op (OpT.fld (o' := 1) fl30_1 rfl rfl) rfl <| Seg.op (OpT.ldBlk (i := 1) (v := v27) u28 rfl rfl rfl rfl) rfl <| Seg.opS (OpS.call ent44 rfl (sortFT hq16 ha13 ha14)) rfl ?_
  rintro _ H13 _ hl13 ⟨xs20, rfl, hq20, rfl⟩
  refine Seg.nilT ?_
  obtain ⟨ha15, hd⟩ := chk_some hd
  refine Wp.region <| Seg.op (OpT.move rfl) rfl <| Seg.op (OpT.ldBlkW (i := 1) u30 rfl ti30 rfl rfl rfl) rfl ?_
  refine Seg.rowLe (i := 0) rfl fun hb18 => ?_
  refine Seg.freeze (i := 0) rfl fun H14 hl14 hs1 => ?_
  have hv12 := SlD.of (c := (cP cU8 (cP cU8 cI64))) hs1 rfl (hq20.mono hl14) hb18
  refine Seg.buildD1 (c := (cP cB (cL (cP cU8 (cP cU8 cI64))))) (y := (x13, sortF cmpLo l8)) (cs := [(.bool x13), v27]) u22 ti30 rfl rfl rfl rfl (⟨[(.bool x13)], [v27], rfl, rfl, ⟨_, rfl, hv12⟩⟩) rfl fun v32 xs21 hq21 => Seg.appD (i := 3) (j := 0) (hq4.mono (((hl5.trans hl10).trans hl13).trans hl14)) hq21 u22 ti30 rfl (by decide) rfl rfl rfl rfl (by decide) ha15 rfl fun v33 xs22 hq22 => Seg.drop (i := 0) <| Seg.op (OpT.assign rfl) rfl <| Seg.nil <| At.blk_n <| At.then_n <| Wp.region ?_
  refine Seg.op (OpT.move rfl) rfl <| Seg.op (OpT.add rfl rfl (fits64 (by omega))) rfl <| Seg.op (OpT.assign rfl) rfl <| Seg.nil <| At.permK [2, 3, 4, 5] 6 rfl rfl rfl ?_
  refine At.nextF (((hl5.trans hl10).trans hl13).trans hl14) ⟨l3, (l2 ++ ([(x13, sortF cmpLo l8)] : List (Bool × (List (Int × Int × Int))))), m4, (k1 + 1), v12, xs5, v33, xs22, rfl, rfl, (by rw [← hn1]; exact hd), (hq5.mono ((hl10.trans hl13).trans hl14)), hq22⟩ (Sub.of rfl)
 replace hd := brF hb2 hd
 replace hb2 := of_decide_eq_false hb2
 refine Wp.exit <| At.then_x <| At.then_x <| At.blk_hit <| At.then_n <| Wp.sr <| Seg.op (OpT.move rfl) rfl <| Seg.op (OpT.assign rfl) rfl ?_
 refine Seg.nilT <| Wp.ret ?_
 refine At.rowLe (i := 0) rfl fun hb19 => ?_
 refine At.freeze (i := 0) rfl fun H15 hl15 hs2 => ?_
 have hv13 := SlD.of (c := (cP cB (cL (cP cU8 (cP cU8 cI64))))) hs2 rfl (hq4.mono hl15) hb19
 obtain rfl := Option.some.inj hd
 exact At.res1 rfl (RV.tmp (v := v11) rfl) (fun w hs => ⟨_, _, _, rfl, ((((hl1.trans hl2).trans hl3).trans hl4).trans hl15), (hs.permK [2] 3 rfl rfl rfl), ⟨⟨v11, rfl, hv13⟩, rfl⟩⟩)

set_option maxRecDepth 100000 in
set_option maxHeartbeats 4000000 in
theorem rx_check_w {fu : Nat} : ∀ {H : Hp} {O : List Res} {a0 : Rx} {a1 : Int} {v1 : Value} {r : Int} (hv1 : SlD cRx H a0.subs v1) (hd : rx_check fu a0 a1 = some r),
    TriV Tryd.prog 34 [(.agg #[(.int .i64 a0.kind), (w64 (word a0.set 0)), (w64 (word a0.set 1)), (w64 (word a0.set 2)), (w64 (word a0.set 3)), v1]), (.int .i64 a1)] H O (.int .i64 r) := by
 induction fu with
 | zero => intros; rename_i hd; exact absurd hd (by simp [rx_check])
 | succ fu ih =>
 intro H O a0 a1 v1 r hv1 hd
 replace hd : rx_check_b0 fu (rx_check fu) a0 a1 = some r := hd
 generalize rx_check fu = slf at hd ih
 intro w hs
 refine wp_of Tryd.func34 rfl rfl rfl ?_ hs
 clear hs w
 unfold rx_check_b0 at hd
 refine Wp.sr <| Seg.box (cs := #[(.int .i64 a0.kind), (w64 (word a0.set 0)), (w64 (word a0.set 1)), (w64 (word a0.set 2)), (w64 (word a0.set 3)), v1]) rfl rfl rfl fun B2 => Seg.op (OpT.assign rfl) rfl <| Seg.nilT <| Wp.seq <| Wp.sr <| Seg.op (OpT.move rfl) rfl <| Seg.op (OpT.gtr rfl rfl) rfl ?_
 refine Seg.nilT ?_
 refine Wp.cond (b := decide (16 < a1)) rfl (fun hb1 => ?_) (fun hb1 => ?_)
 ·
  replace hd := brT hb1 hd
  replace hb1 := of_decide_eq_true hb1
  refine Wp.sr <| Seg.op (OpT.assign rfl) rfl <| Seg.nilT <| Wp.ret <| At.then_r ?_
  obtain rfl := Option.some.inj hd
  exact At.res1 rfl (RV.tmp (v := (.int .i64 9)) rfl) (fun w hs => ⟨rfl, (hs.dropN 1).weaken (Hp.le.refl _)⟩)
 replace hd := brF hb1 hd
 replace hb1 := of_decide_eq_false hb1
 refine Wp.skip <| At.then_n <| Wp.seq <| Wp.seq ?_
 rcases Bool.eq_false_or_eq_true (decide (a0.kind < 0)) with hg1 | hg1
 ·
  replace hd := brT hg1 hd
  have hg1_ := of_decide_eq_true hg1
  refine Wp.region <| Seg.op (OpT.fld (o' := 0) fl43_0 rfl rfl) rfl <| Seg.op (OpT.ldBlk (i := 0) (v := (.int .i64 a0.kind)) u3 rfl rfl rfl rfl) rfl <| Seg.op (OpT.asB (b := decide (a0.kind < 0)) (c := true) (OpT.lss rfl rfl) hg1) rfl <| Seg.op (OpT.move rfl) rfl <| Seg.skipG rfl rfl rfl rfl <| Seg.skipG rfl rfl rfl rfl <| Seg.skipG rfl rfl rfl rfl ?_
  refine Seg.op (OpT.pickT rfl rfl) rfl <| Seg.op (OpT.move rfl) rfl <| Seg.skipG rfl rfl rfl rfl <| Seg.skipG rfl rfl rfl rfl <| Seg.skipG rfl rfl rfl rfl <| Seg.skipG rfl rfl rfl rfl <| Seg.skipU rfl rfl rfl <| Seg.skipU rfl rfl rfl ?_
  refine Seg.skipU rfl rfl rfl <| Seg.skipU rfl rfl rfl <| Seg.skipG rfl rfl rfl rfl <| Seg.op (OpT.pickT rfl rfl) rfl <| Seg.nilT <| Wp.condT rfl <| Wp.sr <| Seg.op (OpT.assign rfl) rfl ?_
  refine Seg.nilT <| Wp.ret <| At.then_r ?_
  obtain rfl := Option.some.inj hd
  exact At.res1 rfl (RV.tmp (v := (.int .i64 11)) rfl) (fun w hs => ⟨rfl, (hs.dropN 1).weaken (Hp.le.refl _)⟩)
 replace hd := brF hg1 hd
 have hg1_ := of_decide_eq_false hg1
 rcases Bool.eq_false_or_eq_true (decide (5 < a0.kind)) with hg2 | hg2
 ·
  replace hd := brT hg2 hd
  have hg2_ := of_decide_eq_true hg2
  refine Wp.region <| Seg.op (OpT.fld (o' := 0) fl43_0 rfl rfl) rfl <| Seg.op (OpT.ldBlk (i := 0) (v := (.int .i64 a0.kind)) u3 rfl rfl rfl rfl) rfl <| Seg.op (OpT.asB (b := decide (a0.kind < 0)) (c := false) (OpT.lss rfl rfl) hg1) rfl <| Seg.op (OpT.move rfl) rfl <| Seg.opG rfl rfl (OpT.fld (o' := 0) fl43_0 rfl rfl) rfl <| Seg.opG rfl rfl (OpT.ldBlk (i := 0) (v := (.int .i64 a0.kind)) u3 rfl rfl rfl rfl) rfl <| Seg.opG rfl rfl (OpT.asB (b := decide (5 < a0.kind)) (c := true) (OpT.gtr rfl rfl) hg2) rfl ?_
  refine Seg.op (OpT.pickF rfl rfl) rfl <| Seg.op (OpT.move rfl) rfl <| Seg.skipG rfl rfl rfl rfl <| Seg.skipG rfl rfl rfl rfl <| Seg.skipG rfl rfl rfl rfl <| Seg.skipG rfl rfl rfl rfl <| Seg.skipU rfl rfl rfl <| Seg.skipU rfl rfl rfl ?_
  refine Seg.skipU rfl rfl rfl <| Seg.skipU rfl rfl rfl <| Seg.skipG rfl rfl rfl rfl <| Seg.op (OpT.pickT rfl rfl) rfl <| Seg.nilT <| Wp.condT rfl <| Wp.sr <| Seg.op (OpT.assign rfl) rfl ?_
  refine Seg.nilT <| Wp.ret <| At.then_r ?_
  obtain rfl := Option.some.inj hd
  exact At.res1 rfl (RV.tmp (v := (.int .i64 11)) rfl) (fun w hs => ⟨rfl, (hs.dropN 1).weaken (Hp.le.refl _)⟩)
 replace hd := brF hg2 hd
 have hg2_ := of_decide_eq_false hg2
 rcases Bool.eq_false_or_eq_true (decide (a0.kind ≠ 2)) with hg3 | hg3
 ·
  replace hd := brT hg3 hd
  have hg3_ := of_decide_eq_true hg3
  refine Wp.region <| Seg.op (OpT.fld (o' := 0) fl43_0 rfl rfl) rfl <| Seg.op (OpT.ldBlk (i := 0) (v := (.int .i64 a0.kind)) u3 rfl rfl rfl rfl) rfl <| Seg.op (OpT.asB (b := decide (a0.kind < 0)) (c := false) (OpT.lss rfl rfl) hg1) rfl <| Seg.op (OpT.move rfl) rfl <| Seg.opG rfl rfl (OpT.fld (o' := 0) fl43_0 rfl rfl) rfl <| Seg.opG rfl rfl (OpT.ldBlk (i := 0) (v := (.int .i64 a0.kind)) u3 rfl rfl rfl rfl) rfl <| Seg.opG rfl rfl (OpT.asB (b := decide (5 < a0.kind)) (c := false) (OpT.gtr rfl rfl) hg2) rfl ?_
  refine Seg.op (OpT.pickF rfl rfl) rfl <| Seg.op (OpT.move rfl) rfl <| Seg.opG rfl rfl (OpT.fld (o' := 0) fl43_0 rfl rfl) rfl <| Seg.opG rfl rfl (OpT.ldBlk (i := 0) (v := (.int .i64 a0.kind)) u3 rfl rfl rfl rfl) rfl <| Seg.opG rfl rfl (OpT.asB (b := decide (a0.kind ≠ 2)) (c := true) (OpT.neq rfl rfl) hg3) rfl <| Seg.opG rfl rfl (OpT.move rfl) rfl <| Seg.opG rfl rfl (OpT.fld (o' := 1) fl43_1 rfl rfl) rfl <| Seg.opG rfl rfl (OpT.ldBlkX (i := 0) (vs := [(w64 (word a0.set 0)), (w64 (word a0.set 1)), (w64 (word a0.set 2)), (w64 (word a0.set 3))]) u40 rfl ti40 rfl rfl rfl) rfl ?_
  refine Seg.opG rfl rfl (OpT.cast (v' := (.agg #[(w64 (word (fun _ => false) 0)), (w64 (word (fun _ => false) 1)), (w64 (word (fun _ => false) 2)), (w64 (word (fun _ => false) 3))])) (OpT.buildA2 (vs := []) (cs := #[.int .u64 0, .int .u64 0, .int .u64 0, .int .u64 0]) u40 ti40 ti38 rfl rfl (vc_nil) rfl) bs0) rfl <| Seg.opG rfl rfl (OpT.neBs (p := a0.set) (q := (fun _ => false)) eqg40 u40 u38 ti38 rfl rfl) rfl <| Seg.opG rfl rfl (OpT.pickT rfl rfl) rfl <| Seg.op (OpT.pickF rfl rfl) rfl <| Seg.nilT ?_
  refine Wp.cond (b := !eqS a0.set (fun _ => false)) rfl (fun hb2 => ?_) (fun hb2 => ?_)
  ·
   replace hd := brT hb2 hd
   refine Wp.sr <| Seg.op (OpT.assign rfl) rfl <| Seg.nilT <| Wp.ret <| At.then_r ?_
   obtain rfl := Option.some.inj hd
   exact At.res1 rfl (RV.tmp (v := (.int .i64 11)) rfl) (fun w hs => ⟨rfl, (hs.dropN 1).weaken (Hp.le.refl _)⟩)
  replace hd := brF hb2 hd
  refine Wp.skip <| At.then_n <| Wp.sr <| Seg.op (OpT.fld (o' := 5) fl43_2 rfl rfl) rfl <| Seg.op (OpT.ldBlk (i := 0) (v := v1) u41 rfl rfl rfl rfl) rfl ?_
  have hb3 := hv1.le
  refine Seg.op (OpT.len u41 rfl hv1.sl) rfl <| Seg.op (OpT.assign rfl) rfl <| Seg.nilT <| Wp.seq <| Wp.sr <| Seg.op (OpT.fld (o' := 0) fl43_0 rfl rfl) rfl <| Seg.op (OpT.ldBlk (i := 0) (v := (.int .i64 a0.kind)) u3 rfl rfl rfl rfl) rfl <| Seg.nilT ?_
  refine Wp.joinT (fun LL HH OO => [(1, (.int .i64 a1)), (2, (ptr B2 0))] = LL ∧ .blk B2 (.cells #[(.int .i64 a0.kind), (w64 (word a0.set 0)), (w64 (word a0.set 1)), (w64 (word a0.set 2)), (w64 (word a0.set 3)), v1] 43 (0, 0)) :: O = OO ∧ rx_check_j2 fu a0 a1 slf = some r) ?_ ?_
  ·
   refine Wp.block <| Wp.seq <| Wp.sr <| Seg.op (OpT.eql rfl rfl) rfl <| Seg.op (OpT.assign rfl) rfl <| Seg.nilT ?_
   refine Wp.joinT (fun LL HH OO => ∃ (b1 : Bool), [(1, (.int .i64 a1)), (2, (ptr B2 0)), (5, (.int .i64 (a0.subs.length:Int))), (34, (.int .i64 a0.kind)), (37, (.bool b1))] = LL ∧ .blk B2 (.cells #[(.int .i64 a0.kind), (w64 (word a0.set 0)), (w64 (word a0.set 1)), (w64 (word a0.set 2)), (w64 (word a0.set 3)), v1] 43 (0, 0)) :: O = OO ∧ rx_check_j4 fu a0 a1 slf b1 = some r) ?_ ?_
   ·
    refine Wp.cond (b := decide (a0.kind = 3)) rfl (fun hb4 => ?_) (fun hb4 => ?_)
    ·
     replace hd := brT hb4 hd
     replace hb4 := of_decide_eq_true hb4
     refine Wp.skip ?_
     refine At.joinF (Hp.le.refl _) ⟨(decide (a0.kind = 3)), rfl, rfl, hd⟩ (Sub.of rfl)
    replace hd := brF hb4 hd
    replace hb4 := of_decide_eq_false hb4
    refine Wp.region <| Seg.op (OpT.eql rfl rfl) rfl <| Seg.op (OpT.assign rfl) rfl <| Seg.nil ?_
    refine At.joinF (Hp.le.refl _) ⟨(decide (a0.kind = 4)), rfl, rfl, hd⟩ (Sub.of rfl)
   intro L1 H1 O1 hl1 hI1
   obtain ⟨b1, rfl, rfl, hd⟩ := hI1
   unfold rx_check_j4 at hd
   refine Wp.cond (b := b1) rfl (fun hb5 => ?_) (fun hb5 => ?_)
   ·
    replace hd := brT hb5 hd
    refine Wp.sr <| Seg.op (OpT.move rfl) rfl <| Seg.op (OpT.lss rfl rfl) rfl <| Seg.nilT ?_
    refine Wp.cond (b := decide ((a0.subs.length:Int) < 2)) rfl (fun hb6 => ?_) (fun hb6 => ?_)
    ·
     replace hd := brT hb6 hd
     replace hb6 := of_decide_eq_true hb6
     refine Wp.sr <| Seg.op (OpT.assign rfl) rfl <| Seg.nilT <| Wp.ret <| At.blk_r <| At.then_r ?_
     obtain rfl := Option.some.inj hd
     exact At.res1 rfl (RV.tmp (v := (.int .i64 2)) rfl) (fun w hs => ⟨rfl, (hs.dropN 1).weaken hl1⟩)
    replace hd := brF hb6 hd
    replace hb6 := of_decide_eq_false hb6
    refine Wp.skip <| At.blk_n ?_
    refine At.joinF hl1 ⟨rfl, rfl, hd⟩ (Sub.of rfl)
   replace hd := brF hb5 hd
   refine Wp.sr <| Seg.op (OpT.eql rfl rfl) rfl <| Seg.op (OpT.assign rfl) rfl <| Seg.nilT ?_
   refine Wp.cond (b := decide (a0.kind = 5)) rfl (fun hb7 => ?_) (fun hb7 => ?_)
   ·
    replace hd := brT hb7 hd
    replace hb7 := of_decide_eq_true hb7
    refine Wp.sr <| Seg.op (OpT.move rfl) rfl <| Seg.op (OpT.neq rfl rfl) rfl <| Seg.nilT ?_
    refine Wp.cond (b := decide ((a0.subs.length:Int) ≠ 1)) rfl (fun hb8 => ?_) (fun hb8 => ?_)
    ·
     replace hd := brT hb8 hd
     replace hb8 := of_decide_eq_true hb8
     refine Wp.sr <| Seg.op (OpT.assign rfl) rfl <| Seg.nilT <| Wp.ret <| At.blk_r <| At.then_r ?_
     obtain rfl := Option.some.inj hd
     exact At.res1 rfl (RV.tmp (v := (.int .i64 2)) rfl) (fun w hs => ⟨rfl, (hs.dropN 1).weaken hl1⟩)
    replace hd := brF hb8 hd
    replace hb8 := of_decide_eq_false hb8
    refine Wp.skip <| At.blk_n ?_
    refine At.joinF hl1 ⟨rfl, rfl, hd⟩ (Sub.of rfl)
   replace hd := brF hb7 hd
   replace hb7 := of_decide_eq_false hb7
   refine Wp.sr <| Seg.op (OpT.move rfl) rfl <| Seg.op (OpT.neq rfl rfl) rfl <| Seg.nilT ?_
   refine Wp.cond (b := decide ((a0.subs.length:Int) ≠ 0)) rfl (fun hb9 => ?_) (fun hb9 => ?_)
   ·
    replace hd := brT hb9 hd
    replace hb9 := of_decide_eq_true hb9
    refine Wp.sr <| Seg.op (OpT.assign rfl) rfl <| Seg.nilT <| Wp.ret <| At.blk_r <| At.then_r ?_
    obtain rfl := Option.some.inj hd
    exact At.res1 rfl (RV.tmp (v := (.int .i64 2)) rfl) (fun w hs => ⟨rfl, (hs.dropN 1).weaken hl1⟩)
   replace hd := brF hb9 hd
   replace hb9 := of_decide_eq_false hb9
   refine Wp.skip <| At.blk_n ?_
   refine At.joinF hl1 ⟨rfl, rfl, hd⟩ (Sub.of rfl)
  intro L2 H2 O2 hl2 hI2
  obtain ⟨rfl, rfl, hd⟩ := hI2
  unfold rx_check_j2 at hd
  refine Wp.seq <| Wp.sr <| Seg.op (OpT.fld (o' := 5) fl43_2 rfl rfl) rfl <| Seg.op (OpT.ldBlk (i := 0) (v := v1) u41 rfl rfl rfl rfl) rfl ?_
  have hb10 := hv1.le
  refine Seg.op (OpT.len u41 rfl (hv1.mono hl2).sl) rfl <| Seg.op (OpT.move rfl) rfl <| Seg.nilT <| Wp.block <| Wp.loopF (fun m LL HH OO => ∃ (k1 : Nat), [(1, (.int .i64 a1)), (47, v1), (48, (.int .i64 (a0.subs.length:Int))), (49, (.int .i64 (k1:Int)))] = LL ∧ .blk B2 (.cells #[(.int .i64 a0.kind), (w64 (word a0.set 0)), (w64 (word a0.set 1)), (w64 (word a0.set 2)), (w64 (word a0.set 3)), v1] 43 (0, 0)) :: O = OO ∧ loopK m (rx_check_b3 fu a0 a1 slf) k1 = some r) fu ⟨0, rfl, rfl, hd⟩ (Sub.of rfl) ?_
  intro m1 L3 H3 O3 hl3 hI3
  obtain ⟨k1, rfl, rfl, hd⟩ := hI3
  replace hd := loopK_some hd; obtain ⟨m2, rfl, hd⟩ := hd
  obtain ⟨nx1, hn1⟩ : ∃ f, f = loopK m2 (rx_check_b3 fu a0 a1 slf) := ⟨_, rfl⟩
  rw [← hn1] at hd
  replace hd : rx_check_b3 fu a0 a1 slf k1 nx1 = some r := hd
  unfold rx_check_b3 at hd
  refine Wp.sr <| Seg.op (OpT.lss rfl rfl) rfl <| Seg.nilT <| Wp.seq ?_
  refine Wp.cond (b := decide ((k1:Int) < (a0.subs.length:Int))) rfl (fun hb11 => ?_) (fun hb11 => ?_)
  ·
   replace hd := brT hb11 hd
   replace hb11 := of_decide_eq_true hb11
   refine Wp.skip <| At.then_n <| Wp.seq <| Wp.block <| Wp.seq ?_
   obtain ⟨x1, hx1, hd⟩ := bnd_some hd
   have hx1_ := idx_bd hx1
   refine Wp.region ?_
   obtain ⟨_, hz1, hc1⟩ := SlD.get (hv1.mono (hl2.trans hl3)) hx1
   obtain ⟨v2, rfl, hv2⟩ := layRx.1 hz1
   refine Seg.op (OpT.ixSl u41 ti43 rfl (hv1.mono (hl2.trans hl3)).sl rfl (idx_bd hx1)) rfl <| Seg.op (OpT.ldHA (vs := [(.int .i64 x1.kind), (w64 (word x1.set 0)), (w64 (word x1.set 1)), (w64 (word x1.set 2)), (w64 (word x1.set 3)), v2]) u43 rfl ti43 rfl rfl (fun j u hj => (hc1 j u hj))) rfl <| Seg.alloc (cs := #[(.int .i64 0), (w64 (word (fun _ => false) 0)), (w64 (word (fun _ => false) 1)), (w64 (word (fun _ => false) 2)), (w64 (word (fun _ => false) 3)), (.slice none 0 0)]) ti43 (by simp only [zw]; rfl) rfl fun B3 => Seg.stBlkW (i := 0) (cs' := #[(.int .i64 x1.kind), (w64 (word x1.set 0)), (w64 (word x1.set 1)), (w64 (word x1.set 2)), (w64 (word x1.set 3)), v2]) rfl rfl ti43 rfl rfl (onesA (ones_cons rfl (ones_cons rfl (ones_cons rfl (ones_cons rfl (ones_cons rfl (ones_cons hv2.one (ones_nil)))))))) rfl ?_
   refine Seg.own (O := .blk B3 (.cells #[(.int .i64 x1.kind), (w64 (word x1.set 0)), (w64 (word x1.set 1)), (w64 (word x1.set 2)), (w64 (word x1.set 3)), v2] 43 (0, 0)) :: .blk B2 (.cells #[(.int .i64 a0.kind), (w64 (word a0.set 0)), (w64 (word a0.set 1)), (w64 (word a0.set 2)), (w64 (word a0.set 3)), v1] 43 (0, 0)) :: O) ?_ rfl
   refine Seg.nilT <| Wp.seq ?_
   obtain ⟨ha1, hd⟩ := chk_some hd
   obtain ⟨x2, hx2, hd⟩ := bnd_some hd
   refine Wp.region <| Seg.op (OpT.ldBlkW (i := 0) u43 rfl ti43 rfl rfl rfl) rfl <| Seg.op (OpT.move rfl) rfl <| Seg.op (OpT.add rfl rfl (fits64 ha1)) rfl <| Seg.op (OpT.call ent34 rfl (ih hv2 hx2)) rfl <| Seg.op (OpT.assign rfl) rfl <| Seg.nilT <| Wp.sr ?_
   refine Seg.op (OpT.move rfl) rfl <| Seg.op (OpT.neq rfl rfl) rfl <| Seg.nilT ?_
   refine Wp.cond (b := decide (x2 ≠ 0)) rfl (fun hb12 => ?_) (fun hb12 => ?_)
   ·
    replace hd := brT hb12 hd
    replace hb12 := of_decide_eq_true hb12
    refine Wp.sr <| Seg.op (OpT.move rfl) rfl <| Seg.op (OpT.assign rfl) rfl <| Seg.nilT <| Wp.ret <| At.blk_r <| At.then_r <| At.then_r ?_
    refine At.blk_r <| At.then_r ?_
    obtain rfl := Option.some.inj hd
    exact At.res1 rfl (RV.tmp (v := (.int .i64 x2)) rfl) (fun w hs => ⟨rfl, (hs.dropN 2).weaken (hl2.trans hl3)⟩)
   replace hd := brF hb12 hd
   replace hb12 := of_decide_eq_false hb12
   refine Wp.skip <| At.blk_n <| At.then_n <| Wp.region <| Seg.op (OpT.add rfl rfl (fits64 (by omega))) rfl <| Seg.op (OpT.move rfl) rfl <| Seg.nil <| At.permK [1] 2 rfl rfl rfl ?_
   refine At.nextF (Hp.le.refl _) ⟨(k1 + 1), rfl, rfl, (by rw [← hn1]; exact hd)⟩ (Sub.of rfl)
  replace hd := brF hb11 hd
  replace hb11 := of_decide_eq_false hb11
  refine Wp.exit <| At.then_x <| At.then_x <| At.blk_hit <| At.then_n <| Wp.sr <| Seg.op (OpT.assign rfl) rfl <| Seg.nilT ?_
  refine Wp.ret ?_
  obtain rfl := Option.some.inj hd
  exact At.res1 rfl (RV.tmp (v := (.int .i64 0)) rfl) (fun w hs => ⟨rfl, (hs.dropN 1).weaken (hl2.trans hl3)⟩)
 replace hd := brF hg3 hd
 have hg3_ := of_decide_eq_false hg3
 refine Wp.region <| Seg.op (OpT.fld (o' := 0) fl43_0 rfl rfl) rfl <| Seg.op (OpT.ldBlk (i := 0) (v := (.int .i64 a0.kind)) u3 rfl rfl rfl rfl) rfl <| Seg.op (OpT.asB (b := decide (a0.kind < 0)) (c := false) (OpT.lss rfl rfl) hg1) rfl <| Seg.op (OpT.move rfl) rfl <| Seg.opG rfl rfl (OpT.fld (o' := 0) fl43_0 rfl rfl) rfl <| Seg.opG rfl rfl (OpT.ldBlk (i := 0) (v := (.int .i64 a0.kind)) u3 rfl rfl rfl rfl) rfl <| Seg.opG rfl rfl (OpT.asB (b := decide (5 < a0.kind)) (c := false) (OpT.gtr rfl rfl) hg2) rfl ?_
 refine Seg.op (OpT.pickF rfl rfl) rfl <| Seg.op (OpT.move rfl) rfl <| Seg.opG rfl rfl (OpT.fld (o' := 0) fl43_0 rfl rfl) rfl <| Seg.opG rfl rfl (OpT.ldBlk (i := 0) (v := (.int .i64 a0.kind)) u3 rfl rfl rfl rfl) rfl <| Seg.opG rfl rfl (OpT.asB (b := decide (a0.kind ≠ 2)) (c := false) (OpT.neq rfl rfl) hg3) rfl <| Seg.opG rfl rfl (OpT.move rfl) rfl <| Seg.skipG rfl rfl rfl rfl <| Seg.skipG rfl rfl rfl rfl ?_
 refine Seg.skipG rfl rfl rfl rfl <| Seg.skipG rfl rfl rfl rfl <| Seg.opG rfl rfl (OpT.pickF rfl rfl) rfl <| Seg.op (OpT.pickF rfl rfl) rfl <| Seg.nilT <| Wp.condF rfl <| Wp.skip <| At.then_n ?_
 refine Wp.sr <| Seg.op (OpT.fld (o' := 5) fl43_2 rfl rfl) rfl <| Seg.op (OpT.ldBlk (i := 0) (v := v1) u41 rfl rfl rfl rfl) rfl ?_
 have hb13 := hv1.le
 refine Seg.op (OpT.len u41 rfl hv1.sl) rfl <| Seg.op (OpT.assign rfl) rfl <| Seg.nilT <| Wp.seq <| Wp.sr <| Seg.op (OpT.fld (o' := 0) fl43_0 rfl rfl) rfl <| Seg.op (OpT.ldBlk (i := 0) (v := (.int .i64 a0.kind)) u3 rfl rfl rfl rfl) rfl <| Seg.nilT ?_
 refine Wp.joinT (fun LL HH OO => [(1, (.int .i64 a1)), (2, (ptr B2 0))] = LL ∧ .blk B2 (.cells #[(.int .i64 a0.kind), (w64 (word a0.set 0)), (w64 (word a0.set 1)), (w64 (word a0.set 2)), (w64 (word a0.set 3)), v1] 43 (0, 0)) :: O = OO ∧ rx_check_j6 fu a0 a1 slf = some r) ?_ ?_
 ·
  refine Wp.block <| Wp.seq <| Wp.sr <| Seg.op (OpT.eql rfl rfl) rfl <| Seg.op (OpT.assign rfl) rfl <| Seg.nilT ?_
  refine Wp.joinT (fun LL HH OO => ∃ (b2 : Bool), [(1, (.int .i64 a1)), (2, (ptr B2 0)), (5, (.int .i64 (a0.subs.length:Int))), (34, (.int .i64 a0.kind)), (37, (.bool b2))] = LL ∧ .blk B2 (.cells #[(.int .i64 a0.kind), (w64 (word a0.set 0)), (w64 (word a0.set 1)), (w64 (word a0.set 2)), (w64 (word a0.set 3)), v1] 43 (0, 0)) :: O = OO ∧ rx_check_j8 fu a0 a1 slf b2 = some r) ?_ ?_
  ·
   refine Wp.cond (b := decide (a0.kind = 3)) rfl (fun hb14 => ?_) (fun hb14 => ?_)
   ·
    replace hd := brT hb14 hd
    replace hb14 := of_decide_eq_true hb14
    refine Wp.skip ?_
    refine At.joinF (Hp.le.refl _) ⟨(decide (a0.kind = 3)), rfl, rfl, hd⟩ (Sub.of rfl)
   replace hd := brF hb14 hd
   replace hb14 := of_decide_eq_false hb14
   refine Wp.region <| Seg.op (OpT.eql rfl rfl) rfl <| Seg.op (OpT.assign rfl) rfl <| Seg.nil ?_
   refine At.joinF (Hp.le.refl _) ⟨(decide (a0.kind = 4)), rfl, rfl, hd⟩ (Sub.of rfl)
  intro L4 H4 O4 hl4 hI4
  obtain ⟨b2, rfl, rfl, hd⟩ := hI4
  unfold rx_check_j8 at hd
  refine Wp.cond (b := b2) rfl (fun hb15 => ?_) (fun hb15 => ?_)
  ·
   replace hd := brT hb15 hd
   refine Wp.sr <| Seg.op (OpT.move rfl) rfl <| Seg.op (OpT.lss rfl rfl) rfl <| Seg.nilT ?_
   refine Wp.cond (b := decide ((a0.subs.length:Int) < 2)) rfl (fun hb16 => ?_) (fun hb16 => ?_)
   ·
    replace hd := brT hb16 hd
    replace hb16 := of_decide_eq_true hb16
    refine Wp.sr <| Seg.op (OpT.assign rfl) rfl <| Seg.nilT <| Wp.ret <| At.blk_r <| At.then_r ?_
    obtain rfl := Option.some.inj hd
    exact At.res1 rfl (RV.tmp (v := (.int .i64 2)) rfl) (fun w hs => ⟨rfl, (hs.dropN 1).weaken hl4⟩)
   replace hd := brF hb16 hd
   replace hb16 := of_decide_eq_false hb16
   refine Wp.skip <| At.blk_n ?_
   refine At.joinF hl4 ⟨rfl, rfl, hd⟩ (Sub.of rfl)
  replace hd := brF hb15 hd
  refine Wp.sr <| Seg.op (OpT.eql rfl rfl) rfl <| Seg.op (OpT.assign rfl) rfl <| Seg.nilT ?_
  refine Wp.cond (b := decide (a0.kind = 5)) rfl (fun hb17 => ?_) (fun hb17 => ?_)
  ·
   replace hd := brT hb17 hd
   replace hb17 := of_decide_eq_true hb17
   refine Wp.sr <| Seg.op (OpT.move rfl) rfl <| Seg.op (OpT.neq rfl rfl) rfl <| Seg.nilT ?_
   refine Wp.cond (b := decide ((a0.subs.length:Int) ≠ 1)) rfl (fun hb18 => ?_) (fun hb18 => ?_)
   ·
    replace hd := brT hb18 hd
    replace hb18 := of_decide_eq_true hb18
    refine Wp.sr <| Seg.op (OpT.assign rfl) rfl <| Seg.nilT <| Wp.ret <| At.blk_r <| At.then_r ?_
    obtain rfl := Option.some.inj hd
    exact At.res1 rfl (RV.tmp (v := (.int .i64 2)) rfl) (fun w hs => ⟨rfl, (hs.dropN 1).weaken hl4⟩)
   replace hd := brF hb18 hd
   replace hb18 := of_decide_eq_false hb18
   refine Wp.skip <| At.blk_n ?_
   refine At.joinF hl4 ⟨rfl, rfl, hd⟩ (Sub.of rfl)
  replace hd := brF hb17 hd
  replace hb17 := of_decide_eq_false hb17
  refine Wp.sr <| Seg.op (OpT.move rfl) rfl <| Seg.op (OpT.neq rfl rfl) rfl <| Seg.nilT ?_
  refine Wp.cond (b := decide ((a0.subs.length:Int) ≠ 0)) rfl (fun hb19 => ?_) (fun hb19 => ?_)
  ·
   replace hd := brT hb19 hd
   replace hb19 := of_decide_eq_true hb19
   refine Wp.sr <| Seg.op (OpT.assign rfl) rfl <| Seg.nilT <| Wp.ret <| At.blk_r <| At.then_r ?_
   obtain rfl := Option.some.inj hd
   exact At.res1 rfl (RV.tmp (v := (.int .i64 2)) rfl) (fun w hs => ⟨rfl, (hs.dropN 1).weaken hl4⟩)
  replace hd := brF hb19 hd
  replace hb19 := of_decide_eq_false hb19
  refine Wp.skip <| At.blk_n ?_
  refine At.joinF hl4 ⟨rfl, rfl, hd⟩ (Sub.of rfl)
 intro L5 H5 O5 hl5 hI5
 obtain ⟨rfl, rfl, hd⟩ := hI5
 unfold rx_check_j6 at hd
 refine Wp.seq <| Wp.sr <| Seg.op (OpT.fld (o' := 5) fl43_2 rfl rfl) rfl <| Seg.op (OpT.ldBlk (i := 0) (v := v1) u41 rfl rfl rfl rfl) rfl ?_
 have hb20 := hv1.le
 refine Seg.op (OpT.len u41 rfl (hv1.mono hl5).sl) rfl <| Seg.op (OpT.move rfl) rfl <| Seg.nilT <| Wp.block <| Wp.loopF (fun m LL HH OO => ∃ (k2 : Nat), [(1, (.int .i64 a1)), (47, v1), (48, (.int .i64 (a0.subs.length:Int))), (49, (.int .i64 (k2:Int)))] = LL ∧ .blk B2 (.cells #[(.int .i64 a0.kind), (w64 (word a0.set 0)), (w64 (word a0.set 1)), (w64 (word a0.set 2)), (w64 (word a0.set 3)), v1] 43 (0, 0)) :: O = OO ∧ loopK m (rx_check_b7 fu a0 a1 slf) k2 = some r) fu ⟨0, rfl, rfl, hd⟩ (Sub.of rfl) ?_
 intro m3 L6 H6 O6 hl6 hI6
 obtain ⟨k2, rfl, rfl, hd⟩ := hI6
 replace hd := loopK_some hd; obtain ⟨m4, rfl, hd⟩ := hd
 obtain ⟨nx2, hn2⟩ : ∃ f, f = loopK m4 (rx_check_b7 fu a0 a1 slf) := ⟨_, rfl⟩
 rw [← hn2] at hd
 replace hd : rx_check_b7 fu a0 a1 slf k2 nx2 = some r := hd
 unfold rx_check_b7 at hd
 refine Wp.sr <| Seg.op (OpT.lss rfl rfl) rfl <| Seg.nilT <| Wp.seq ?_
 refine Wp.cond (b := decide ((k2:Int) < (a0.subs.length:Int))) rfl (fun hb21 => ?_) (fun hb21 => ?_)
 ·
  replace hd := brT hb21 hd
  replace hb21 := of_decide_eq_true hb21
  refine Wp.skip <| At.then_n <| Wp.seq <| Wp.block <| Wp.seq ?_
  obtain ⟨x3, hx3, hd⟩ := bnd_some hd
  have hx3_ := idx_bd hx3
  refine Wp.region ?_
  obtain ⟨_, hz2, hc2⟩ := SlD.get (hv1.mono (hl5.trans hl6)) hx3
  obtain ⟨v3, rfl, hv3⟩ := layRx.1 hz2
  refine Seg.op (OpT.ixSl u41 ti43 rfl (hv1.mono (hl5.trans hl6)).sl rfl (idx_bd hx3)) rfl <| Seg.op (OpT.ldHA (vs := [(.int .i64 x3.kind), (w64 (word x3.set 0)), (w64 (word x3.set 1)), (w64 (word x3.set 2)), (w64 (word x3.set 3)), v3]) u43 rfl ti43 rfl rfl (fun j u hj => (hc2 j u hj))) rfl <| Seg.alloc (cs := #[(.int .i64 0), (w64 (word (fun _ => false) 0)), (w64 (word (fun _ => false) 1)), (w64 (word (fun _ => false) 2)), (w64 (word (fun _ => false) 3)), (.slice none 0 0)]) ti43 (by simp only [zw]; rfl) rfl fun B4 => Seg.stBlkW (i := 0) (cs' := #[(.int .i64 x3.kind), (w64 (word x3.set 0)), (w64 (word x3.set 1)), (w64 (word x3.set 2)), (w64 (word x3.set 3)), v3]) rfl rfl ti43 rfl rfl (onesA (ones_cons rfl (ones_cons rfl (ones_cons rfl (ones_cons rfl (ones_cons rfl (ones_cons hv3.one (ones_nil)))))))) rfl ?_
  refine Seg.own (O := .blk B4 (.cells #[(.int .i64 x3.kind), (w64 (word x3.set 0)), (w64 (word x3.set 1)), (w64 (word x3.set 2)), (w64 (word x3.set 3)), v3] 43 (0, 0)) :: .blk B2 (.cells #[(.int .i64 a0.kind), (w64 (word a0.set 0)), (w64 (word a0.set 1)), (w64 (word a0.set 2)), (w64 (word a0.set 3)), v1] 43 (0, 0)) :: O) ?_ rfl
  refine Seg.nilT <| Wp.seq ?_
  obtain ⟨ha2, hd⟩ := chk_some hd
  obtain ⟨x4, hx4, hd⟩ := bnd_some hd
  refine Wp.region <| Seg.op (OpT.ldBlkW (i := 0) u43 rfl ti43 rfl rfl rfl) rfl <| Seg.op (OpT.move rfl) rfl <| Seg.op (OpT.add rfl rfl (fits64 ha2)) rfl <| Seg.op (OpT.call ent34 rfl (ih hv3 hx4)) rfl <| Seg.op (OpT.assign rfl) rfl <| Seg.nilT <| Wp.sr ?_
  refine Seg.op (OpT.move rfl) rfl <| Seg.op (OpT.neq rfl rfl) rfl <| Seg.nilT ?_
  refine Wp.cond (b := decide (x4 ≠ 0)) rfl (fun hb22 => ?_) (fun hb22 => ?_)
  ·
   replace hd := brT hb22 hd
   replace hb22 := of_decide_eq_true hb22
   refine Wp.sr <| Seg.op (OpT.move rfl) rfl <| Seg.op (OpT.assign rfl) rfl <| Seg.nilT <| Wp.ret <| At.blk_r <| At.then_r <| At.then_r ?_
   refine At.blk_r <| At.then_r ?_
   obtain rfl := Option.some.inj hd
   exact At.res1 rfl (RV.tmp (v := (.int .i64 x4)) rfl) (fun w hs => ⟨rfl, (hs.dropN 2).weaken (hl5.trans hl6)⟩)
  replace hd := brF hb22 hd
  replace hb22 := of_decide_eq_false hb22
  refine Wp.skip <| At.blk_n <| At.then_n <| Wp.region <| Seg.op (OpT.add rfl rfl (fits64 (by omega))) rfl <| Seg.op (OpT.move rfl) rfl <| Seg.nil <| At.permK [1] 2 rfl rfl rfl ?_
  refine At.nextF (Hp.le.refl _) ⟨(k2 + 1), rfl, rfl, (by rw [← hn2]; exact hd)⟩ (Sub.of rfl)
 replace hd := brF hb21 hd
 replace hb21 := of_decide_eq_false hb21
 refine Wp.exit <| At.then_x <| At.then_x <| At.blk_hit <| At.then_n <| Wp.sr <| Seg.op (OpT.assign rfl) rfl <| Seg.nilT ?_
 refine Wp.ret ?_
 obtain rfl := Option.some.inj hd
 exact At.res1 rfl (RV.tmp (v := (.int .i64 0)) rfl) (fun w hs => ⟨rfl, (hs.dropN 1).weaken (hl5.trans hl6)⟩)

set_option maxRecDepth 100000 in
set_option maxHeartbeats 4000000 in
theorem rx_Check_w {fu : Nat} {a0 : Rx} {v1 : Value} {r : Int} (hv1 : SlD cRx H a0.subs v1) (hd : rx_Check fu a0 = some r) :
    TriV Tryd.prog 25 [(.agg #[(.int .i64 a0.kind), (w64 (word a0.set 0)), (w64 (word a0.set 1)), (w64 (word a0.set 2)), (w64 (word a0.set 3)), v1])] H O (.int .i64 r) := by
 intro w hs
 refine wp_of Tryd.func25 rfl rfl rfl ?_ hs
 clear hs w
 unfold rx_Check at hd
 refine Wp.sr <| Seg.box (cs := #[(.int .i64 a0.kind), (w64 (word a0.set 0)), (w64 (word a0.set 1)), (w64 (word a0.set 2)), (w64 (word a0.set 3)), v1]) rfl rfl rfl fun B2 => Seg.op (OpT.assign rfl) rfl <| Seg.nilT <| Wp.seq ?_
 obtain ⟨x1, hx1, hd⟩ := bnd_some hd
 refine Wp.region <| Seg.op (OpT.ldBlkW (i := 0) u43 rfl ti43 rfl rfl rfl) rfl <| Seg.op (OpT.call ent34 rfl (rx_check_w hv1 hx1)) rfl <| Seg.op (OpT.assign rfl) rfl <| Seg.nilT <| Wp.ret ?_
 obtain rfl := Option.some.inj hd
 exact At.res1 rfl (RV.tmp (v := (.int .i64 x1)) rfl) (fun w hs => ⟨rfl, (hs.dropN 1).weaken (Hp.le.refl _)⟩)

set_option maxRecDepth 100000 in
set_option maxHeartbeats 4000000 in
theorem au_net_add_w {fu : Nat} : ∀ {H : Hp} {O : List Res} {a0 : (List (List Int)) × (List (List (BSet × Int × Int))) × Int} {a1 : Rx} {a2 : Int} {a3 : Int} {u1 u2 : Value} {F1 : Fam Int} {G1 : Fam (BSet × Int × Int)} {B0 : Nat} {v1 : Value} {r : (List (List Int)) × (List (List (BSet × Int × Int))) × Int} (hNF : FamOk cI64 H a0.1 F1) (hNG : FamOk cAr H a0.2.1 G1) (hv1 : SlD cRx H a1.subs v1) (hd : au_net_add fu a0 a1 a2 a3 = some r),
    Tri Tryd.prog 27 [(ptr B0 0), (.agg #[(.int .i64 a1.kind), (w64 (word a1.set 0)), (w64 (word a1.set 1)), (w64 (word a1.set 2)), (w64 (word a1.set 3)), v1]), (.int .i64 a2), (.int .i64 a3)] H (.blk B0 (.cells #[u1, u2, (.int .i64 a0.2.2)] 61 (0, 0)) :: .row u1 66 1 (famV F1).length (famV F1) :: .row u2 78 1 (famV G1).length (famV G1) :: (famR 3 1 F1 ++ (famR 80 6 G1 ++ O))) (fun v H' O' => ∃ v1 v2 F G, .tuple #[] = v ∧ FamOk cI64 H' r.1 F ∧ FamOk cAr H' r.2.1 G ∧ net B0 v1 v2 r.2.2 F G O = O') := by
 induction fu with
 | zero => intros; rename_i hd; exact absurd hd (by simp [au_net_add])
 | succ fu ih =>
 intro H O a0 a1 a2 a3 u1 u2 F1 G1 B0 v1 r hNF hNG hv1 hd
 replace hd : au_net_add_b0 fu (au_net_add fu) a0 a1 a2 a3 = some r := hd
 generalize au_net_add fu = slf at hd ih
 intro w hs
 refine wp_of Tryd.func27 rfl rfl rfl ?_ hs
 clear hs w
 unfold au_net_add_b0 at hd
 refine Wp.sr <| Seg.box (cs := #[(.int .i64 a1.kind), (w64 (word a1.set 0)), (w64 (word a1.set 1)), (w64 (word a1.set 2)), (w64 (word a1.set 3)), v1]) rfl rfl rfl fun B2 => Seg.nilT <| Wp.sr <| Seg.op (OpT.fld (o' := 0) fl43_0 rfl rfl) rfl <| Seg.op (OpT.ldBlk (i := 0) (v := (.int .i64 a1.kind)) u3 rfl rfl rfl rfl) rfl <| Seg.nilT <| Wp.block ?_
 refine Wp.sr <| Seg.op (OpT.eql rfl rfl) rfl <| Seg.op (OpT.assign rfl) rfl <| Seg.nilT ?_
 refine Wp.cond (b := decide (a1.kind = 1)) rfl (fun hb1 => ?_) (fun hb1 => ?_)
 ·
  replace hd := brT hb1 hd
  replace hb1 := of_decide_eq_true hb1
  obtain ⟨x1, hx1, hd⟩ := bnd_some hd
  obtain ⟨v3, xs1, hf1, hL1, hi1⟩ := FamOk.get hNF hx1
  refine Wp.lend [.blk B2 (.cells #[(.int .i64 a1.kind), (w64 (word a1.set 0)), (w64 (word a1.set 1)), (w64 (word a1.set 2)), (w64 (word a1.set 3)), v1] 43 (0, 0)), .blk B0 (.cells #[u1, u2, (.int .i64 a0.2.2)] 61 (0, 0)), .row u1 66 1 (famV F1).length (famV F1), .row u2 78 1 (famV G1).length (famV G1)] hf1 ?_
  obtain ⟨ha1, hd⟩ := chk_some hd
  obtain ⟨_, ⟨rfl, _⟩, hc1, hc1_⟩ := LayL.get (FamOk.row hNF) (idx_some hi1).2
  obtain ⟨_, ⟨rfl, _⟩, hc2, hc2_⟩ := LayL.get (FamOk.row hNF) (idx_some hi1).2
  refine Wp.emp <| SegO.runK 6 [an0, an0, an0, ⟨[3], [], []⟩, an0, an0, an0, an0, ⟨[3], [], []⟩, an0, ⟨[4], [], []⟩, ⟨[4], [], []⟩, an0, ⟨[0], [0], [13]⟩, ⟨[0, 1], [1], [14]⟩, ⟨[4], [], []⟩, ⟨[4], [4], [14]⟩] follows rfl (by kernel_rfl) <| SegO.op (val := fun p1 => (ptr B0 0)) rfl rfl (fun _ => rfl) (fun _ p1 _ hx hf hy => OpT.move rfl) rfl <| SegO.op (val := fun p1 => (ptr B0 0)) rfl rfl (fun _ => rfl) (fun _ p1 _ hx hf hy => OpT.nilCheck rfl) rfl <| SegO.op (val := fun p1 => (ptr B0 0)) rfl rfl (fun _ => rfl) (fun _ p1 _ hx hf hy => OpT.fld (o' := 0) fl61_0 rfl rfl) rfl <| SegO.op (val := fun p1 => u1) rfl rfl (fun _ => rfl) (fun _ p1 _ hx hf hy => OpT.ldBlk (i := 3) (v := u1) u58 rfl rfl (hy 3 _ rfl rfl) rfl) rfl <| SegO.op (val := fun p1 => (.int .i64 a2)) rfl rfl (fun _ => rfl) (fun _ p1 _ hx hf hy => OpT.move rfl) rfl <| SegO.op (val := fun p1 => (ptr B0 0)) rfl rfl (fun _ => rfl) (fun _ p1 _ hx hf hy => OpT.move rfl) rfl ?_
  refine SegO.op (val := fun p1 => (ptr B0 0)) rfl rfl (fun _ => rfl) (fun _ p1 _ hx hf hy => OpT.nilCheck rfl) rfl <| SegO.op (val := fun p1 => (ptr B0 0)) rfl rfl (fun _ => rfl) (fun _ p1 _ hx hf hy => OpT.fld (o' := 0) fl61_0 rfl rfl) rfl <| SegO.op (val := fun p1 => u1) rfl rfl (fun _ => rfl) (fun _ p1 _ hx hf hy => OpT.ldBlk (i := 3) (v := u1) u58 rfl rfl (hy 3 _ rfl rfl) rfl) rfl <| SegO.op (val := fun p1 => (.int .i64 a2)) rfl rfl (fun _ => rfl) (fun _ p1 _ hx hf hy => OpT.move rfl) rfl <| SegO.op (val := fun p1 => (elemPtr u1 ((Int.toNat a2) * 1))) rfl rfl (fun _ => rfl) (fun _ p1 _ hx hf hy => OpT.ixRow (j := 4) u58 ti66 rfl (hy 4 _ rfl rfl) rfl (idx_bd hi1)) rfl <| SegO.op (val := fun p1 => v3) rfl rfl (fun _ => rfl) (fun _ p1 _ hx hf hy => OpT.ldRow (i := 4) (k := (Int.toNat a2) * 1 + 0) u66 rfl rfl (hy 4 _ rfl rfl) (hc1 0 _ rfl)) rfl <| SegO.op (val := fun p1 => (.int .i64 a3)) rfl rfl (fun _ => rfl) (fun _ p1 _ hx hf hy => OpT.move rfl) rfl <| SegO.op1s (res := fun p1 => .row (p1 13) 3 1 1 [(.int .i64 a3)]) 0 rfl rfl rfl (fun _ => rfl) (fun _ p1 _ hx hf hy => OpS.buildR1 (v := (.int .i64 a3)) (cs := [(.int .i64 a3)]) 0 u66 ti3 rfl rfl rfl rfl rfl (hy 0 _ rfl rfl)) rfl (fun _ => ⟨_, _, _, _, rfl⟩) ?_
  refine SegO.op1s (res := fun p1 => .row (p1 14) 3 1 (x1.length + 1) (xs1 ++ [(.int .i64 a3)])) 1 rfl rfl rfl (fun _ => rfl) (fun _ p1 _ hx hf hy => OpS.appR 1 0 u66 ti3 rfl rfl rfl rfl (hy 1 _ rfl rfl) (hy 0 _ rfl rfl) (ones_cons rfl (ones_nil)) rfl ha1) rfl (fun _ => ⟨_, _, _, _, rfl⟩) <| SegO.op (val := fun p1 => (elemPtr u1 ((Int.toNat a2) * 1))) rfl rfl (fun _ => rfl) (fun _ p1 _ hx hf hy => OpT.ixRow (j := 4) u58 ti66 rfl (hy 4 _ rfl rfl) rfl (idx_bd hi1)) rfl <| SegO.op1n (res := fun p1 => .row u1 66 1 (famV F1).length (spl (famV F1) ((Int.toNat a2) * 1 + 0) [(p1 14)])) 4 rfl rfl rfl (fun _ => rfl) (fun _ p1 _ hx hf hy => OpS.stRowR (k := (Int.toNat a2) * 1 + 0) (vs := [(p1 14)]) rfl rfl (cellsL (hf 14 rfl rfl)) ti66 rfl rfl (ones_cons (hf 14 rfl rfl) (ones_nil)) (hy 4 _ rfl rfl) (by have h1 : _ = _ * 1 := (FamOk.row hNF).len; have h2 := idx_bd hi1; simp only [List.length_cons, List.length_nil]; omega)) <| SegO.done fun H1 p1 hl1 hF1 => At.sub (L' := []) (Sub.of rfl) ?_
  refine At.own (O := .row (p1 13) 3 1 ([a3] : List Int).length [(.int .i64 a3)] :: .row (p1 14) 3 1 (x1 ++ ([a3] : List Int)).length (xs1 ++ [(.int .i64 a3)]) :: .blk B2 (.cells #[(.int .i64 a1.kind), (w64 (word a1.set 0)), (w64 (word a1.set 1)), (w64 (word a1.set 2)), (w64 (word a1.set 3)), v1] 43 (0, 0)) :: .blk B0 (.cells #[u1, u2, (.int .i64 a0.2.2)] 61 (0, 0)) :: .row u1 66 1 ((famV F1).set (Int.toNat a2) (p1 14)).length (spl (famV F1) ((Int.toNat a2) * 1 + 0) [(p1 14)]) :: .row u2 78 1 (famV G1).length (famV G1) :: (famR 3 1 (List.eraseIdx F1 (Int.toNat a2)) ++ (famR 80 6 G1 ++ O))) ?_ (by first | rfl | (simp only [List.length_append, List.length_set]; rfl) | simp)
  have hq1 : LayL cI64 H1 (x1 ++ ([a3] : List Int)) (xs1 ++ [(.int .i64 a3)]) := (LayL.app (hL1.mono hl1) (LayL.sing (c := cI64) (a := a3) (cs := [(.int .i64 a3)]) rfl))
  refine At.rowOne (i := 1) rfl fun ho1 => ?_
  refine At.own (O := .row (p1 13) 3 1 ([a3] : List Int).length [(.int .i64 a3)] :: .row (p1 14) 3 1 (x1 ++ ([a3] : List Int)).length (xs1 ++ [(.int .i64 a3)]) :: .blk B2 (.cells #[(.int .i64 a1.kind), (w64 (word a1.set 0)), (w64 (word a1.set 1)), (w64 (word a1.set 2)), (w64 (word a1.set 3)), v1] 43 (0, 0)) :: .blk B0 (.cells #[u1, u2, (.int .i64 a0.2.2)] 61 (0, 0)) :: .row u1 66 1 (famV (List.set F1 (Int.toNat a2) ((p1 14), x1 ++ ([a3] : List Int), xs1 ++ [(.int .i64 a3)]))).length (famV (List.set F1 (Int.toNat a2) ((p1 14), x1 ++ ([a3] : List Int), xs1 ++ [(.int .i64 a3)]))) :: .row u2 78 1 (famV G1).length (famV G1) :: (famR 3 1 (List.eraseIdx F1 (Int.toNat a2)) ++ (famR 80 6 G1 ++ O))) ?_ (by rw [show spl (famV F1) ((Int.toNat a2) * 1 + 0) [(p1 14)] = famV (List.set F1 (Int.toNat a2) ((p1 14), x1 ++ ([a3] : List Int), xs1 ++ [(.int .i64 a3)])) from famSpl _ _ _ hf1, show (famV F1).set (Int.toNat a2) (p1 14) = famV (List.set F1 (Int.toNat a2) ((p1 14), x1 ++ ([a3] : List Int), xs1 ++ [(.int .i64 a3)])) from famSet _ _ _])
  refine At.permK [1, 2, 3, 4, 5] 6 rfl rfl rfl <| At.unlend [.blk B2 (.cells #[(.int .i64 a1.kind), (w64 (word a1.set 0)), (w64 (word a1.set 1)), (w64 (word a1.set 2)), (w64 (word a1.set 3)), v1] 43 (0, 0)), .blk B0 (.cells #[u1, u2, (.int .i64 a0.2.2)] 61 (0, 0)), .row u1 66 1 (famV (List.set F1 (Int.toNat a2) ((p1 14), x1 ++ ([a3] : List Int), xs1 ++ [(.int .i64 a3)]))).length (famV (List.set F1 (Int.toNat a2) ((p1 14), x1 ++ ([a3] : List Int), xs1 ++ [(.int .i64 a3)]))), .row u2 78 1 (famV G1).length (famV G1)] ((p1 14), x1 ++ ([a3] : List Int), xs1 ++ [(.int .i64 a3)]) hf1 ?_
  have hN1 : FamOk cI64 H1 (List.set a0.1 (Int.toNat a2) (x1 ++ ([a3] : List Int))) (List.set F1 (Int.toNat a2) ((p1 14), x1 ++ ([a3] : List Int), xs1 ++ [(.int .i64 a3)])) := FamOk.set (hNF.mono hl1) hq1 ho1
  refine At.blk_n ?_
  obtain rfl := Option.some.inj hd
  exact At.res0n rfl (fun w hs => ⟨_, _, _, rfl, hl1, (hs.dropN 1), u1, u2, (List.set F1 (Int.toNat a2) ((p1 14), x1 ++ ([a3] : List Int), xs1 ++ [(.int .i64 a3)])), G1, rfl, hN1, (hNG.mono hl1), rfl⟩)
 replace hd := brF hb1 hd
 replace hb1 := of_decide_eq_false hb1
 refine Wp.sr <| Seg.op (OpT.eql rfl rfl) rfl <| Seg.op (OpT.assign rfl) rfl <| Seg.nilT ?_
 refine Wp.cond (b := decide (a1.kind = 2)) rfl (fun hb2 => ?_) (fun hb2 => ?_)
 ·
  replace hd := brT hb2 hd
  replace hb2 := of_decide_eq_true hb2
  refine Wp.seq ?_
  obtain ⟨x2, hx2, hd⟩ := bnd_some hd
  obtain ⟨v4, xs2, hf2, hL2, hi2⟩ := FamOk.get hNG hx2
  refine Wp.lend2 [.blk B2 (.cells #[(.int .i64 a1.kind), (w64 (word a1.set 0)), (w64 (word a1.set 1)), (w64 (word a1.set 2)), (w64 (word a1.set 3)), v1] 43 (0, 0)), .blk B0 (.cells #[u1, u2, (.int .i64 a0.2.2)] 61 (0, 0)), .row u1 66 1 (famV F1).length (famV F1), .row u2 78 1 (famV G1).length (famV G1)] hf2 ?_
  obtain ⟨ha2, hd⟩ := chk_some hd
  obtain ⟨_, ⟨rfl, _⟩, hc3, hc3_⟩ := LayL.get (FamOk.row hNG) (idx_some hi2).2
  obtain ⟨_, ⟨rfl, _⟩, hc4, hc4_⟩ := LayL.get (FamOk.row hNG) (idx_some hi2).2
  refine Wp.emp <| SegO.runK 6 [an0, an0, an0, ⟨[3], [], []⟩, an0, an0, an0, an0, ⟨[3], [], []⟩, an0, ⟨[5], [], []⟩, ⟨[5], [], []⟩, an0, ⟨[2], [], []⟩, an0, an0, an0, an0, ⟨[3], [], []⟩, an0, ⟨[0], [0], [20]⟩, ⟨[0, 1], [1], [21]⟩, ⟨[5], [], []⟩, ⟨[5], [5], [21]⟩] follows rfl (by kernel_rfl) <| SegO.op (val := fun p2 => (ptr B0 0)) rfl rfl (fun _ => rfl) (fun _ p2 _ hx hf hy => OpT.move rfl) rfl <| SegO.op (val := fun p2 => (ptr B0 0)) rfl rfl (fun _ => rfl) (fun _ p2 _ hx hf hy => OpT.nilCheck rfl) rfl <| SegO.op (val := fun p2 => (ptr B0 1)) rfl rfl (fun _ => rfl) (fun _ p2 _ hx hf hy => OpT.fld (o' := 1) fl61_1 rfl rfl) rfl <| SegO.op (val := fun p2 => u2) rfl rfl (fun _ => rfl) (fun _ p2 _ hx hf hy => OpT.ldBlk (i := 3) (v := u2) u59 rfl rfl (hy 3 _ rfl rfl) rfl) rfl <| SegO.op (val := fun p2 => (.int .i64 a2)) rfl rfl (fun _ => rfl) (fun _ p2 _ hx hf hy => OpT.move rfl) rfl <| SegO.op (val := fun p2 => (ptr B0 0)) rfl rfl (fun _ => rfl) (fun _ p2 _ hx hf hy => OpT.move rfl) rfl ?_
  refine SegO.op (val := fun p2 => (ptr B0 0)) rfl rfl (fun _ => rfl) (fun _ p2 _ hx hf hy => OpT.nilCheck rfl) rfl <| SegO.op (val := fun p2 => (ptr B0 1)) rfl rfl (fun _ => rfl) (fun _ p2 _ hx hf hy => OpT.fld (o' := 1) fl61_1 rfl rfl) rfl <| SegO.op (val := fun p2 => u2) rfl rfl (fun _ => rfl) (fun _ p2 _ hx hf hy => OpT.ldBlk (i := 3) (v := u2) u59 rfl rfl (hy 3 _ rfl rfl) rfl) rfl <| SegO.op (val := fun p2 => (.int .i64 a2)) rfl rfl (fun _ => rfl) (fun _ p2 _ hx hf hy => OpT.move rfl) rfl <| SegO.op (val := fun p2 => (elemPtr u2 ((Int.toNat a2) * 1))) rfl rfl (fun _ => rfl) (fun _ p2 _ hx hf hy => OpT.ixRow (j := 5) u59 ti78 rfl (hy 5 _ rfl rfl) rfl (idx_bd hi2)) rfl <| SegO.op (val := fun p2 => v4) rfl rfl (fun _ => rfl) (fun _ p2 _ hx hf hy => OpT.ldRow (i := 5) (k := (Int.toNat a2) * 1 + 0) u78 rfl rfl (hy 5 _ rfl rfl) (hc3 0 _ rfl)) rfl <| SegO.op (val := fun p2 => (ptr B2 1)) rfl rfl (fun _ => rfl) (fun _ p2 _ hx hf hy => OpT.fld (o' := 1) fl43_1 rfl rfl) rfl <| SegO.op (val := fun p2 => (.agg #[(w64 (word a1.set 0)), (w64 (word a1.set 1)), (w64 (word a1.set 2)), (w64 (word a1.set 3))])) rfl rfl (fun _ => rfl) (fun _ p2 _ hx hf hy => OpT.ldBlkX (i := 2) (vs := [(w64 (word a1.set 0)), (w64 (word a1.set 1)), (w64 (word a1.set 2)), (w64 (word a1.set 3))]) u40 rfl ti40 rfl (hy 2 _ rfl rfl) rfl) rfl ?_
  refine SegO.op (val := fun p2 => (.int .i64 a3)) rfl rfl (fun _ => rfl) (fun _ p2 _ hx hf hy => OpT.move rfl) rfl <| SegO.op (val := fun p2 => (ptr B0 0)) rfl rfl (fun _ => rfl) (fun _ p2 _ hx hf hy => OpT.move rfl) rfl <| SegO.op (val := fun p2 => (ptr B0 0)) rfl rfl (fun _ => rfl) (fun _ p2 _ hx hf hy => OpT.nilCheck rfl) rfl <| SegO.op (val := fun p2 => (ptr B0 2)) rfl rfl (fun _ => rfl) (fun _ p2 _ hx hf hy => OpT.fld (o' := 2) fl61_2 rfl rfl) rfl <| SegO.op (val := fun p2 => (.int .i64 a0.2.2)) rfl rfl (fun _ => rfl) (fun _ p2 _ hx hf hy => OpT.ldBlk (i := 3) (v := (.int .i64 a0.2.2)) u3 rfl rfl (hy 3 _ rfl rfl) rfl) rfl <| SegO.op (val := fun p2 => (.agg #[(w64 (word a1.set 0)), (w64 (word a1.set 1)), (w64 (word a1.set 2)), (w64 (word a1.set 3)), (.int .i64 a3), (.int .i64 a0.2.2)])) rfl rfl (fun _ => rfl) (fun _ p2 _ hx hf hy => OpT.buildS (vs := [(0, (.agg #[(w64 (word a1.set 0)), (w64 (word a1.set 1)), (w64 (word a1.set 2)), (w64 (word a1.set 3))])), (1, (.int .i64 a3)), (2, (.int .i64 a0.2.2))]) (cs := #[(w64 (word a1.set 0)), (w64 (word a1.set 1)), (w64 (word a1.set 2)), (w64 (word a1.set 3)), (.int .i64 a3), (.int .i64 a0.2.2)]) plf80 ti80 rfl rfl (vc_cons rfl (vc_cons rfl (vc_cons rfl (vc_nil)))) rfl) rfl <| SegO.op1s (res := fun p2 => .row (p2 20) 80 6 1 [(w64 (word a1.set 0)), (w64 (word a1.set 1)), (w64 (word a1.set 2)), (w64 (word a1.set 3)), (.int .i64 a3), (.int .i64 a0.2.2)]) 0 rfl rfl rfl (fun _ => rfl) (fun _ p2 _ hx hf hy => OpS.buildR1 (v := (.agg #[(w64 (word a1.set 0)), (w64 (word a1.set 1)), (w64 (word a1.set 2)), (w64 (word a1.set 3)), (.int .i64 a3), (.int .i64 a0.2.2)])) (cs := [(w64 (word a1.set 0)), (w64 (word a1.set 1)), (w64 (word a1.set 2)), (w64 (word a1.set 3)), (.int .i64 a3), (.int .i64 a0.2.2)]) 0 u78 ti80 rfl rfl rfl rfl rfl (hy 0 _ rfl rfl)) rfl (fun _ => ⟨_, _, _, _, rfl⟩) <| SegO.op1s (res := fun p2 => .row (p2 21) 80 6 (x2.length + 1) (xs2 ++ [(w64 (word a1.set 0)), (w64 (word a1.set 1)), (w64 (word a1.set 2)), (w64 (word a1.set 3)), (.int .i64 a3), (.int .i64 a0.2.2)])) 1 rfl rfl rfl (fun _ => rfl) (fun _ p2 _ hx hf hy => OpS.appR 1 0 u78 ti80 rfl rfl rfl rfl (hy 1 _ rfl rfl) (hy 0 _ rfl rfl) (ones_cons rfl (ones_cons rfl (ones_cons rfl (ones_cons rfl (ones_cons rfl (ones_cons rfl (ones_nil))))))) rfl ha2) rfl (fun _ => ⟨_, _, _, _, rfl⟩) ?_
  refine SegO.op (val := fun p2 => (elemPtr u2 ((Int.toNat a2) * 1))) rfl rfl (fun _ => rfl) (fun _ p2 _ hx hf hy => OpT.ixRow (j := 5) u59 ti78 rfl (hy 5 _ rfl rfl) rfl (idx_bd hi2)) rfl <| SegO.op1n (res := fun p2 => .row u2 78 1 (famV G1).length (spl (famV G1) ((Int.toNat a2) * 1 + 0) [(p2 21)])) 5 rfl rfl rfl (fun _ => rfl) (fun _ p2 _ hx hf hy => OpS.stRowR (k := (Int.toNat a2) * 1 + 0) (vs := [(p2 21)]) rfl rfl (cellsL (hf 21 rfl rfl)) ti78 rfl rfl (ones_cons (hf 21 rfl rfl) (ones_nil)) (hy 5 _ rfl rfl) (by have h1 : _ = _ * 1 := (FamOk.row hNG).len; have h2 := idx_bd hi2; simp only [List.length_cons, List.length_nil]; omega)) <| SegO.done fun H2 p2 hl2 hF2 => At.sub (L' := [(0, (ptr B0 0))]) (Sub.of rfl) ?_
  refine At.own (O := .row (p2 20) 80 6 ([(a1.set, a3, a0.2.2)] : List (BSet × Int × Int)).length [(w64 (word a1.set 0)), (w64 (word a1.set 1)), (w64 (word a1.set 2)), (w64 (word a1.set 3)), (.int .i64 a3), (.int .i64 a0.2.2)] :: .row (p2 21) 80 6 (x2 ++ ([(a1.set, a3, a0.2.2)] : List (BSet × Int × Int))).length (xs2 ++ [(w64 (word a1.set 0)), (w64 (word a1.set 1)), (w64 (word a1.set 2)), (w64 (word a1.set 3)), (.int .i64 a3), (.int .i64 a0.2.2)]) :: .blk B2 (.cells #[(.int .i64 a1.kind), (w64 (word a1.set 0)), (w64 (word a1.set 1)), (w64 (word a1.set 2)), (w64 (word a1.set 3)), v1] 43 (0, 0)) :: .blk B0 (.cells #[u1, u2, (.int .i64 a0.2.2)] 61 (0, 0)) :: .row u1 66 1 (famV F1).length (famV F1) :: .row u2 78 1 ((famV G1).set (Int.toNat a2) (p2 21)).length (spl (famV G1) ((Int.toNat a2) * 1 + 0) [(p2 21)]) :: (famR 3 1 F1 ++ (famR 80 6 (List.eraseIdx G1 (Int.toNat a2)) ++ O))) ?_ (by first | rfl | (simp only [List.length_append, List.length_set]; rfl) | simp)
  have hq2 : LayL (cP cBs (cP cI64 cI64)) H2 (x2 ++ ([(a1.set, a3, a0.2.2)] : List (BSet × Int × Int))) (xs2 ++ [(w64 (word a1.set 0)), (w64 (word a1.set 1)), (w64 (word a1.set 2)), (w64 (word a1.set 3)), (.int .i64 a3), (.int .i64 a0.2.2)]) := (LayL.app (hL2.mono hl2) (LayL.sing (c := (cP cBs (cP cI64 cI64))) (a := (a1.set, a3, a0.2.2)) (cs := [(w64 (word a1.set 0)), (w64 (word a1.set 1)), (w64 (word a1.set 2)), (w64 (word a1.set 3)), (.int .i64 a3), (.int .i64 a0.2.2)]) (⟨[(w64 (word a1.set 0)), (w64 (word a1.set 1)), (w64 (word a1.set 2)), (w64 (word a1.set 3))], [(.int .i64 a3), (.int .i64 a0.2.2)], rfl, rfl, ⟨[(.int .i64 a3)], [(.int .i64 a0.2.2)], rfl, rfl, rfl⟩⟩)))
  refine At.rowOne (i := 1) rfl fun ho2 => ?_
  refine At.own (O := .row (p2 20) 80 6 ([(a1.set, a3, a0.2.2)] : List (BSet × Int × Int)).length [(w64 (word a1.set 0)), (w64 (word a1.set 1)), (w64 (word a1.set 2)), (w64 (word a1.set 3)), (.int .i64 a3), (.int .i64 a0.2.2)] :: .row (p2 21) 80 6 (x2 ++ ([(a1.set, a3, a0.2.2)] : List (BSet × Int × Int))).length (xs2 ++ [(w64 (word a1.set 0)), (w64 (word a1.set 1)), (w64 (word a1.set 2)), (w64 (word a1.set 3)), (.int .i64 a3), (.int .i64 a0.2.2)]) :: .blk B2 (.cells #[(.int .i64 a1.kind), (w64 (word a1.set 0)), (w64 (word a1.set 1)), (w64 (word a1.set 2)), (w64 (word a1.set 3)), v1] 43 (0, 0)) :: .blk B0 (.cells #[u1, u2, (.int .i64 a0.2.2)] 61 (0, 0)) :: .row u1 66 1 (famV F1).length (famV F1) :: .row u2 78 1 (famV (List.set G1 (Int.toNat a2) ((p2 21), x2 ++ ([(a1.set, a3, a0.2.2)] : List (BSet × Int × Int)), xs2 ++ [(w64 (word a1.set 0)), (w64 (word a1.set 1)), (w64 (word a1.set 2)), (w64 (word a1.set 3)), (.int .i64 a3), (.int .i64 a0.2.2)]))).length (famV (List.set G1 (Int.toNat a2) ((p2 21), x2 ++ ([(a1.set, a3, a0.2.2)] : List (BSet × Int × Int)), xs2 ++ [(w64 (word a1.set 0)), (w64 (word a1.set 1)), (w64 (word a1.set 2)), (w64 (word a1.set 3)), (.int .i64 a3), (.int .i64 a0.2.2)]))) :: (famR 3 1 F1 ++ (famR 80 6 (List.eraseIdx G1 (Int.toNat a2)) ++ O))) ?_ (by rw [show spl (famV G1) ((Int.toNat a2) * 1 + 0) [(p2 21)] = famV (List.set G1 (Int.toNat a2) ((p2 21), x2 ++ ([(a1.set, a3, a0.2.2)] : List (BSet × Int × Int)), xs2 ++ [(w64 (word a1.set 0)), (w64 (word a1.set 1)), (w64 (word a1.set 2)), (w64 (word a1.set 3)), (.int .i64 a3), (.int .i64 a0.2.2)])) from famSpl _ _ _ hf2, show (famV G1).set (Int.toNat a2) (p2 21) = famV (List.set G1 (Int.toNat a2) ((p2 21), x2 ++ ([(a1.set, a3, a0.2.2)] : List (BSet × Int × Int)), xs2 ++ [(w64 (word a1.set 0)), (w64 (word a1.set 1)), (w64 (word a1.set 2)), (w64 (word a1.set 3)), (.int .i64 a3), (.int .i64 a0.2.2)])) from famSet _ _ _])
  refine At.permK [1, 2, 3, 4, 5] 6 rfl rfl rfl <| At.unlend2 [.blk B2 (.cells #[(.int .i64 a1.kind), (w64 (word a1.set 0)), (w64 (word a1.set 1)), (w64 (word a1.set 2)), (w64 (word a1.set 3)), v1] 43 (0, 0)), .blk B0 (.cells #[u1, u2, (.int .i64 a0.2.2)] 61 (0, 0)), .row u1 66 1 (famV F1).length (famV F1), .row u2 78 1 (famV (List.set G1 (Int.toNat a2) ((p2 21), x2 ++ ([(a1.set, a3, a0.2.2)] : List (BSet × Int × Int)), xs2 ++ [(w64 (word a1.set 0)), (w64 (word a1.set 1)), (w64 (word a1.set 2)), (w64 (word a1.set 3)), (.int .i64 a3), (.int .i64 a0.2.2)]))).length (famV (List.set G1 (Int.toNat a2) ((p2 21), x2 ++ ([(a1.set, a3, a0.2.2)] : List (BSet × Int × Int)), xs2 ++ [(w64 (word a1.set 0)), (w64 (word a1.set 1)), (w64 (word a1.set 2)), (w64 (word a1.set 3)), (.int .i64 a3), (.int .i64 a0.2.2)])))] ((p2 21), x2 ++ ([(a1.set, a3, a0.2.2)] : List (BSet × Int × Int)), xs2 ++ [(w64 (word a1.set 0)), (w64 (word a1.set 1)), (w64 (word a1.set 2)), (w64 (word a1.set 3)), (.int .i64 a3), (.int .i64 a0.2.2)]) hf2 ?_
  have hN2 : FamOk cAr H2 (List.set a0.2.1 (Int.toNat a2) (x2 ++ ([(a1.set, a3, a0.2.2)] : List (BSet × Int × Int)))) (List.set G1 (Int.toNat a2) ((p2 21), x2 ++ ([(a1.set, a3, a0.2.2)] : List (BSet × Int × Int)), xs2 ++ [(w64 (word a1.set 0)), (w64 (word a1.set 1)), (w64 (word a1.set 2)), (w64 (word a1.set 3)), (.int .i64 a3), (.int .i64 a0.2.2)])) := FamOk.set (hNG.mono hl2) hq2 ho2
  refine At.then_n ?_
  obtain ⟨ha3, hd⟩ := chk_some hd
  refine Wp.region <| Seg.op (OpT.move rfl) rfl <| Seg.op (OpT.nilCheck rfl) rfl <| Seg.op (OpT.fld (o' := 2) fl61_2 rfl rfl) rfl <| Seg.op (OpT.ldBlk (i := 1) (v := (.int .i64 a0.2.2)) u3 rfl rfl rfl rfl) rfl <| Seg.op (OpT.add rfl rfl (fits64 ha3)) rfl <| Seg.op (OpT.nilCheck rfl) rfl <| Seg.op (OpT.fld (o' := 2) fl61_2 rfl rfl) rfl ?_
  refine Seg.stBlk1 (i := 1) rfl rfl rfl ti3 rfl (Nat.le_of_ble_eq_true rfl) ?_
  refine Seg.own (O := .blk B2 (.cells #[(.int .i64 a1.kind), (w64 (word a1.set 0)), (w64 (word a1.set 1)), (w64 (word a1.set 2)), (w64 (word a1.set 3)), v1] 43 (0, 0)) :: .blk B0 (.cells #[u1, u2, (.int .i64 (a0.2.2 + 1))] 61 (0, 0)) :: .row u1 66 1 (famV F1).length (famV F1) :: .row u2 78 1 (famV (List.set G1 (Int.toNat a2) ((p2 21), x2 ++ ([(a1.set, a3, a0.2.2)] : List (BSet × Int × Int)), xs2 ++ [(w64 (word a1.set 0)), (w64 (word a1.set 1)), (w64 (word a1.set 2)), (w64 (word a1.set 3)), (.int .i64 a3), (.int .i64 a0.2.2)]))).length (famV (List.set G1 (Int.toNat a2) ((p2 21), x2 ++ ([(a1.set, a3, a0.2.2)] : List (BSet × Int × Int)), xs2 ++ [(w64 (word a1.set 0)), (w64 (word a1.set 1)), (w64 (word a1.set 2)), (w64 (word a1.set 3)), (.int .i64 a3), (.int .i64 a0.2.2)]))) :: (famR 3 1 F1 ++ (famR 80 6 (List.set G1 (Int.toNat a2) ((p2 21), x2 ++ ([(a1.set, a3, a0.2.2)] : List (BSet × Int × Int)), xs2 ++ [(w64 (word a1.set 0)), (w64 (word a1.set 1)), (w64 (word a1.set 2)), (w64 (word a1.set 3)), (.int .i64 a3), (.int .i64 a0.2.2)])) ++ O))) ?_ rfl
  refine Seg.nil <| At.blk_n ?_
  obtain rfl := Option.some.inj hd
  exact At.res0n rfl (fun w hs => ⟨_, _, _, rfl, hl2, (hs.dropN 1), u1, u2, F1, (List.set G1 (Int.toNat a2) ((p2 21), x2 ++ ([(a1.set, a3, a0.2.2)] : List (BSet × Int × Int)), xs2 ++ [(w64 (word a1.set 0)), (w64 (word a1.set 1)), (w64 (word a1.set 2)), (w64 (word a1.set 3)), (.int .i64 a3), (.int .i64 a0.2.2)])), rfl, (hNF.mono hl2), hN2, rfl⟩)
 replace hd := brF hb2 hd
 replace hb2 := of_decide_eq_false hb2
 refine Wp.sr <| Seg.op (OpT.eql rfl rfl) rfl <| Seg.op (OpT.assign rfl) rfl <| Seg.nilT ?_
 refine Wp.cond (b := decide (a1.kind = 4)) rfl (fun hb3 => ?_) (fun hb3 => ?_)
 ·
  replace hd := brT hb3 hd
  replace hb3 := of_decide_eq_true hb3
  refine Wp.sr <| Seg.op (OpT.fld (o' := 5) fl43_2 rfl rfl) rfl <| Seg.op (OpT.ldBlk (i := 0) (v := v1) u41 rfl rfl rfl rfl) rfl ?_
  have hb4 := hv1.le
  refine Seg.op (OpT.len u41 rfl hv1.sl) rfl <| Seg.op (OpT.move rfl) rfl <| Seg.nilT <| Wp.block <| Wp.loopF (fun m LL HH OO => ∃ (d1 : List (List Int)), ∃ (e1 : List (List (BSet × Int × Int))), ∃ (k1 : Nat), ∃ (i1 : Int), ∃ (F2 : Fam Int), ∃ (G2 : Fam (BSet × Int × Int)), ∃ (v5 : Value), ∃ (v6 : Value), [(0, (ptr B0 0)), (2, (.int .i64 a2)), (3, (.int .i64 a3)), (70, v1), (71, (.int .i64 (a1.subs.length:Int))), (72, (.int .i64 (k1:Int)))] = LL ∧ .blk B2 (.cells #[(.int .i64 a1.kind), (w64 (word a1.set 0)), (w64 (word a1.set 1)), (w64 (word a1.set 2)), (w64 (word a1.set 3)), v1] 43 (0, 0)) :: .blk B0 (.cells #[v5, v6, (.int .i64 i1)] 61 (0, 0)) :: .row v5 66 1 (famV F2).length (famV F2) :: .row v6 78 1 (famV G2).length (famV G2) :: (famR 3 1 F2 ++ (famR 80 6 G2 ++ O)) = OO ∧ loopK m (fun p nx => au_net_add_b1 fu a1 a2 a3 slf p.1 p.2.1 p.2.2.1 p.2.2.2 nx) (d1, e1, k1, i1) = some r ∧ FamOk cI64 HH d1 F2 ∧ FamOk cAr HH e1 G2) fu ⟨a0.1, a0.2.1, 0, a0.2.2, F1, G1, u1, u2, rfl, rfl, hd, hNF, hNG⟩ (Sub.of rfl) ?_
  intro m1 L1 H3 O1 hl3 hI1
  obtain ⟨d1, e1, k1, i1, F2, G2, v5, v6, rfl, rfl, hd, hN3, hN4⟩ := hI1
  replace hd := loopK_some hd; obtain ⟨m2, rfl, hd⟩ := hd
  obtain ⟨nx1, hn1⟩ : ∃ f, f = loopK m2 (fun p nx => au_net_add_b1 fu a1 a2 a3 slf p.1 p.2.1 p.2.2.1 p.2.2.2 nx) := ⟨_, rfl⟩
  rw [← hn1] at hd
  replace hd : au_net_add_b1 fu a1 a2 a3 slf d1 e1 k1 i1 nx1 = some r := hd
  unfold au_net_add_b1 at hd
  refine Wp.sr <| Seg.op (OpT.lss rfl rfl) rfl <| Seg.nilT <| Wp.seq ?_
  refine Wp.cond (b := decide ((k1:Int) < (a1.subs.length:Int))) rfl (fun hb5 => ?_) (fun hb5 => ?_)
  ·
   replace hd := brT hb5 hd
   replace hb5 := of_decide_eq_true hb5
   refine Wp.skip <| At.then_n <| Wp.seq <| Wp.block <| Wp.seq ?_
   obtain ⟨x3, hx3, hd⟩ := bnd_some hd
   have hx3_ := idx_bd hx3
   refine Wp.region ?_
   obtain ⟨_, hz1, hc5⟩ := SlD.get (hv1.mono hl3) hx3
   obtain ⟨v7, rfl, hv2⟩ := layRx.1 hz1
   refine Seg.op (OpT.ixSl u41 ti43 rfl (hv1.mono hl3).sl rfl (idx_bd hx3)) rfl <| Seg.op (OpT.ldHA (vs := [(.int .i64 x3.kind), (w64 (word x3.set 0)), (w64 (word x3.set 1)), (w64 (word x3.set 2)), (w64 (word x3.set 3)), v7]) u43 rfl ti43 rfl rfl (fun j u hj => (hc5 j u hj))) rfl <| Seg.alloc (cs := #[(.int .i64 0), (w64 (word (fun _ => false) 0)), (w64 (word (fun _ => false) 1)), (w64 (word (fun _ => false) 2)), (w64 (word (fun _ => false) 3)), (.slice none 0 0)]) ti43 (by simp only [zw]; rfl) rfl fun B3 => Seg.stBlkW (i := 0) (cs' := #[(.int .i64 x3.kind), (w64 (word x3.set 0)), (w64 (word x3.set 1)), (w64 (word x3.set 2)), (w64 (word x3.set 3)), v7]) rfl rfl ti43 rfl rfl (onesA (ones_cons rfl (ones_cons rfl (ones_cons rfl (ones_cons rfl (ones_cons rfl (ones_cons hv2.one (ones_nil)))))))) rfl ?_
   refine Seg.own (O := .blk B3 (.cells #[(.int .i64 x3.kind), (w64 (word x3.set 0)), (w64 (word x3.set 1)), (w64 (word x3.set 2)), (w64 (word x3.set 3)), v7] 43 (0, 0)) :: .blk B2 (.cells #[(.int .i64 a1.kind), (w64 (word a1.set 0)), (w64 (word a1.set 1)), (w64 (word a1.set 2)), (w64 (word a1.set 3)), v1] 43 (0, 0)) :: .blk B0 (.cells #[v5, v6, (.int .i64 i1)] 61 (0, 0)) :: .row v5 66 1 (famV F2).length (famV F2) :: .row v6 78 1 (famV G2).length (famV G2) :: (famR 3 1 F2 ++ (famR 80 6 G2 ++ O))) ?_ rfl
   refine Seg.nilT ?_
   obtain ⟨x4, hx4, hd⟩ := bnd_some hd
   refine Wp.region <| Seg.op (OpT.move rfl) rfl <| Seg.op (OpT.ldBlkW (i := 0) u43 rfl ti43 rfl rfl rfl) rfl <| Seg.op (OpT.move rfl) rfl <| Seg.op (OpT.move rfl) rfl <| Seg.netOut [.blk B3 (.cells #[(.int .i64 x3.kind), (w64 (word x3.set 0)), (w64 (word x3.set 1)), (w64 (word x3.set 2)), (w64 (word x3.set 3)), v7] 43 (0, 0)), .blk B2 (.cells #[(.int .i64 a1.kind), (w64 (word a1.set 0)), (w64 (word a1.set 1)), (w64 (word a1.set 2)), (w64 (word a1.set 3)), v1] 43 (0, 0))] <| Seg.opS (OpS.call ent27 rfl (ih (a0 := (d1, e1, i1)) hN3 hN4 hv2 hx4)) rfl ?_
   rintro _ H4 _ hl4 ⟨v8, v9, F3, G3, rfl, hN5, hN6, rfl⟩
   refine Seg.netIn [.blk B3 (.cells #[(.int .i64 x3.kind), (w64 (word x3.set 0)), (w64 (word x3.set 1)), (w64 (word x3.set 2)), (w64 (word x3.set 3)), v7] 43 (0, 0)), .blk B2 (.cells #[(.int .i64 a1.kind), (w64 (word a1.set 0)), (w64 (word a1.set 1)), (w64 (word a1.set 2)), (w64 (word a1.set 3)), v1] 43 (0, 0))] ?_
   refine Seg.own (O := .blk B3 (.cells #[(.int .i64 x3.kind), (w64 (word x3.set 0)), (w64 (word x3.set 1)), (w64 (word x3.set 2)), (w64 (word x3.set 3)), v7] 43 (0, 0)) :: .blk B2 (.cells #[(.int .i64 a1.kind), (w64 (word a1.set 0)), (w64 (word a1.set 1)), (w64 (word a1.set 2)), (w64 (word a1.set 3)), v1] 43 (0, 0)) :: .blk B0 (.cells #[v8, v9, (.int .i64 x4.2.2)] 61 (0, 0)) :: .row v8 66 1 (famV F3).length (famV F3) :: .row v9 78 1 (famV G3).length (famV G3) :: (famR 3 1 F3 ++ (famR 80 6 G3 ++ O))) ?_ rfl
   refine Seg.nil <| At.blk_n <| At.then_n <| Wp.region <| Seg.op (OpT.add rfl rfl (fits64 (by omega))) rfl <| Seg.op (OpT.move rfl) rfl <| Seg.nil <| At.permK [1, 2, 3, 4] 5 rfl rfl rfl ?_
   refine At.nextF hl4 ⟨x4.1, x4.2.1, (k1 + 1), x4.2.2, F3, G3, v8, v9, rfl, rfl, (by rw [← hn1]; exact hd), hN5, hN6⟩ (Sub.of rfl)
  replace hd := brF hb5 hd
  replace hb5 := of_decide_eq_false hb5
  refine Wp.exit <| At.then_x <| At.then_x <| At.blk_hit <| At.blk_n ?_
  obtain rfl := Option.some.inj hd
  exact At.res0n rfl (fun w hs => ⟨_, _, _, rfl, hl3, (hs.dropN 1), v5, v6, F2, G2, rfl, hN3, hN4, rfl⟩)
 replace hd := brF hb3 hd
 replace hb3 := of_decide_eq_false hb3
 refine Wp.sr <| Seg.op (OpT.eql rfl rfl) rfl <| Seg.op (OpT.assign rfl) rfl <| Seg.nilT ?_
 refine Wp.cond (b := decide (a1.kind = 3)) rfl (fun hb6 => ?_) (fun hb6 => ?_)
 ·
  replace hd := brT hb6 hd
  replace hb6 := of_decide_eq_true hb6
  refine Wp.sr <| Seg.op (OpT.move rfl) rfl <| Seg.op (OpT.assign rfl) rfl <| Seg.nilT <| Wp.sr <| Seg.op (OpT.fld (o' := 5) fl43_2 rfl rfl) rfl <| Seg.op (OpT.ldBlk (i := 0) (v := v1) u41 rfl rfl rfl rfl) rfl ?_
  have hb7 := hv1.le
  refine Seg.op (OpT.len u41 rfl hv1.sl) rfl <| Seg.op (OpT.move rfl) rfl <| Seg.nilT <| Wp.block <| Wp.loopF (fun m LL HH OO => ∃ (d2 : List (List Int)), ∃ (e2 : List (List (BSet × Int × Int))), ∃ (i2 : Int), ∃ (k2 : Nat), ∃ (i3 : Int), ∃ (F4 : Fam Int), ∃ (G4 : Fam (BSet × Int × Int)), ∃ (v10 : Value), ∃ (v11 : Value), [(0, (ptr B0 0)), (3, (.int .i64 a3)), (5, (ptr B2 0)), (10, (.int .i64 i2)), (86, v1), (87, (.int .i64 (a1.subs.length:Int))), (88, (.int .i64 (k2:Int)))] = LL ∧ .blk B2 (.cells #[(.int .i64 a1.kind), (w64 (word a1.set 0)), (w64 (word a1.set 1)), (w64 (word a1.set 2)), (w64 (word a1.set 3)), v1] 43 (0, 0)) :: .blk B0 (.cells #[v10, v11, (.int .i64 i3)] 61 (0, 0)) :: .row v10 66 1 (famV F4).length (famV F4) :: .row v11 78 1 (famV G4).length (famV G4) :: (famR 3 1 F4 ++ (famR 80 6 G4 ++ O)) = OO ∧ loopK m (fun p nx => au_net_add_b4 fu a1 a3 slf p.1 p.2.1 p.2.2.1 p.2.2.2.1 p.2.2.2.2 nx) (d2, e2, i2, k2, i3) = some r ∧ FamOk cI64 HH d2 F4 ∧ FamOk cAr HH e2 G4) fu ⟨a0.1, a0.2.1, a2, 0, a0.2.2, F1, G1, u1, u2, rfl, rfl, hd, hNF, hNG⟩ (Sub.of rfl) ?_
  intro m3 L2 H5 O2 hl5 hI2
  obtain ⟨d2, e2, i2, k2, i3, F4, G4, v10, v11, rfl, rfl, hd, hN7, hN8⟩ := hI2
  replace hd := loopK_some hd; obtain ⟨m4, rfl, hd⟩ := hd
  obtain ⟨nx2, hn2⟩ : ∃ f, f = loopK m4 (fun p nx => au_net_add_b4 fu a1 a3 slf p.1 p.2.1 p.2.2.1 p.2.2.2.1 p.2.2.2.2 nx) := ⟨_, rfl⟩
  rw [← hn2] at hd
  replace hd : au_net_add_b4 fu a1 a3 slf d2 e2 i2 k2 i3 nx2 = some r := hd
  unfold au_net_add_b4 at hd
  refine Wp.sr <| Seg.op (OpT.lss rfl rfl) rfl <| Seg.nilT <| Wp.seq ?_
  refine Wp.cond (b := decide ((k2:Int) < (a1.subs.length:Int))) rfl (fun hb8 => ?_) (fun hb8 => ?_)
  ·
   replace hd := brT hb8 hd
   replace hb8 := of_decide_eq_true hb8
   refine Wp.skip <| At.then_n <| Wp.seq <| Wp.block <| Wp.seq ?_
   obtain ⟨x5, hx5, hd⟩ := bnd_some hd
   have hx5_ := idx_bd hx5
   refine Wp.region <| Seg.op (OpT.move rfl) rfl ?_
   obtain ⟨_, hz2, hc6⟩ := SlD.get (hv1.mono hl5) hx5
   obtain ⟨v12, rfl, hv3⟩ := layRx.1 hz2
   refine Seg.op (OpT.ixSl u41 ti43 rfl (hv1.mono hl5).sl rfl (idx_bd hx5)) rfl <| Seg.op (OpT.ldHA (vs := [(.int .i64 x5.kind), (w64 (word x5.set 0)), (w64 (word x5.set 1)), (w64 (word x5.set 2)), (w64 (word x5.set 3)), v12]) u43 rfl ti43 rfl rfl (fun j u hj => (hc6 j u hj))) rfl <| Seg.alloc (cs := #[(.int .i64 0), (w64 (word (fun _ => false) 0)), (w64 (word (fun _ => false) 1)), (w64 (word (fun _ => false) 2)), (w64 (word (fun _ => false) 3)), (.slice none 0 0)]) ti43 (by simp only [zw]; rfl) rfl fun B4 => Seg.op (OpT.assign rfl) rfl <| Seg.stBlkW (i := 0) (cs' := #[(.int .i64 x5.kind), (w64 (word x5.set 0)), (w64 (word x5.set 1)), (w64 (word x5.set 2)), (w64 (word x5.set 3)), v12]) rfl rfl ti43 rfl rfl (onesA (ones_cons rfl (ones_cons rfl (ones_cons rfl (ones_cons rfl (ones_cons rfl (ones_cons hv3.one (ones_nil)))))))) rfl ?_
   refine Seg.own (O := .blk B4 (.cells #[(.int .i64 x5.kind), (w64 (word x5.set 0)), (w64 (word x5.set 1)), (w64 (word x5.set 2)), (w64 (word x5.set 3)), v12] 43 (0, 0)) :: .blk B2 (.cells #[(.int .i64 a1.kind), (w64 (word a1.set 0)), (w64 (word a1.set 1)), (w64 (word a1.set 2)), (w64 (word a1.set 3)), v1] 43 (0, 0)) :: .blk B0 (.cells #[v10, v11, (.int .i64 i3)] 61 (0, 0)) :: .row v10 66 1 (famV F4).length (famV F4) :: .row v11 78 1 (famV G4).length (famV G4) :: (famR 3 1 F4 ++ (famR 80 6 G4 ++ O))) ?_ rfl
   refine Seg.nilT <| Wp.sr <| Seg.op (OpT.move rfl) rfl <| Seg.op (OpT.assign rfl) rfl <| Seg.nilT <| Wp.seq <| Wp.sr <| Seg.op (OpT.move rfl) rfl ?_
   refine Seg.op (OpT.add rfl rfl (fits64 (by omega))) rfl <| Seg.op (OpT.fld (o' := 5) fl43_2 rfl rfl) rfl <| Seg.op (OpT.ldBlk (i := 1) (v := v1) u41 rfl rfl rfl rfl) rfl ?_
   have hb9 := hv1.le
   refine Seg.op (OpT.len u41 rfl (hv1.mono hl5).sl) rfl <| Seg.op (OpT.lss rfl rfl) rfl <| Seg.nilT ?_
   refine Wp.joinT (fun LL HH OO => ∃ (d3 : List (List Int)), ∃ (e3 : List (List (BSet × Int × Int))), ∃ (i4 : Int), ∃ (F5 : Fam Int), ∃ (G5 : Fam (BSet × Int × Int)), ∃ (v13 : Value), ∃ (v14 : Value), [(0, (ptr B0 0)), (3, (.int .i64 a3)), (5, (ptr B2 0)), (10, (.int .i64 i2)), (12, (ptr B4 0)), (13, (.int .i64 i4)), (86, v1), (87, (.int .i64 (a1.subs.length:Int))), (88, (.int .i64 (k2:Int)))] = LL ∧ .blk B4 (.cells #[(.int .i64 x5.kind), (w64 (word x5.set 0)), (w64 (word x5.set 1)), (w64 (word x5.set 2)), (w64 (word x5.set 3)), v12] 43 (0, 0)) :: .blk B2 (.cells #[(.int .i64 a1.kind), (w64 (word a1.set 0)), (w64 (word a1.set 1)), (w64 (word a1.set 2)), (w64 (word a1.set 3)), v1] 43 (0, 0)) :: .blk B0 (.cells #[v13, v14, (.int .i64 i3)] 61 (0, 0)) :: .row v13 66 1 (famV F5).length (famV F5) :: .row v14 78 1 (famV G5).length (famV G5) :: (famR 3 1 F5 ++ (famR 80 6 G5 ++ O)) = OO ∧ au_net_add_j5 fu slf i2 k2 i3 nx2 x5 d3 e3 i4 = some r ∧ FamOk cI64 HH d3 F5 ∧ FamOk cAr HH e3 G5) ?_ ?_
   ·
    refine Wp.cond (b := decide (((k2:Int) + 1) < (a1.subs.length:Int))) rfl (fun hb10 => ?_) (fun hb10 => ?_)
    ·
     replace hd := brT hb10 hd
     replace hb10 := of_decide_eq_true hb10
     obtain ⟨ha4, hd⟩ := chk_some hd
     obtain ⟨ha5, hd⟩ := chk_some hd
     refine Wp.region <| Seg.op (OpT.move rfl) rfl <| Seg.netOut [.blk B4 (.cells #[(.int .i64 x5.kind), (w64 (word x5.set 0)), (w64 (word x5.set 1)), (w64 (word x5.set 2)), (w64 (word x5.set 3)), v12] 43 (0, 0)), .blk B2 (.cells #[(.int .i64 a1.kind), (w64 (word a1.set 0)), (w64 (word a1.set 1)), (w64 (word a1.set 2)), (w64 (word a1.set 3)), v1] 43 (0, 0))] <| Seg.opS (OpS.call ent26 rfl (state_w hN7 hN8 ha4 ha5)) rfl ?_
     rintro _ H6 _ hl6 ⟨v15, v16, rfl, rfl⟩
     refine Seg.netIn [.blk B4 (.cells #[(.int .i64 x5.kind), (w64 (word x5.set 0)), (w64 (word x5.set 1)), (w64 (word x5.set 2)), (w64 (word x5.set 3)), v12] 43 (0, 0)), .blk B2 (.cells #[(.int .i64 a1.kind), (w64 (word a1.set 0)), (w64 (word a1.set 1)), (w64 (word a1.set 2)), (w64 (word a1.set 3)), v1] 43 (0, 0))] ?_
     have hN9 := FamOk.mono (FamOk.add hN7) hl6; have hN10 := FamOk.mono (FamOk.add hN8) hl6
     refine Seg.own (O := .blk B4 (.cells #[(.int .i64 x5.kind), (w64 (word x5.set 0)), (w64 (word x5.set 1)), (w64 (word x5.set 2)), (w64 (word x5.set 3)), v12] 43 (0, 0)) :: .blk B2 (.cells #[(.int .i64 a1.kind), (w64 (word a1.set 0)), (w64 (word a1.set 1)), (w64 (word a1.set 2)), (w64 (word a1.set 3)), v1] 43 (0, 0)) :: .blk B0 (.cells #[v15, v16, (.int .i64 i3)] 61 (0, 0)) :: .row v15 66 1 (famV (F4 ++ [(Value.slice none 0 0, [], [])])).length (famV (F4 ++ [(Value.slice none 0 0, [], [])])) :: .row v16 78 1 (famV (G4 ++ [(Value.slice none 0 0, [], [])])).length (famV (G4 ++ [(Value.slice none 0 0, [], [])])) :: (famR 3 1 (F4 ++ [(Value.slice none 0 0, [], [])]) ++ (famR 80 6 (G4 ++ [(Value.slice none 0 0, [], [])]) ++ O))) ?_ rfl
     refine Seg.op (OpT.assign rfl) rfl <| Seg.nil ?_
     refine At.joinF hl6 ⟨(d2 ++ [[]]), (e2 ++ [[]]), (e2.length:Int), (F4 ++ [(Value.slice none 0 0, [], [])]), (G4 ++ [(Value.slice none 0 0, [], [])]), v15, v16, rfl, rfl, hd, hN9, hN10⟩ (Sub.of rfl)
    replace hd := brF hb10 hd
    replace hb10 := of_decide_eq_false hb10
    refine Wp.skip ?_
    refine At.joinF (Hp.le.refl _) ⟨d2, e2, a3, F4, G4, v10, v11, rfl, rfl, hd, hN7, hN8⟩ (Sub.of rfl)
   intro L3 H7 O3 hl7 hI3
   obtain ⟨d3, e3, i4, F5, G5, v13, v14, rfl, rfl, hd, hN11, hN12⟩ := hI3
   unfold au_net_add_j5 at hd
   refine Wp.seq ?_
   obtain ⟨x6, hx6, hd⟩ := bnd_some hd
   refine Wp.region <| Seg.op (OpT.move rfl) rfl <| Seg.op (OpT.ldBlkW (i := 0) u43 rfl ti43 rfl rfl rfl) rfl <| Seg.op (OpT.move rfl) rfl <| Seg.op (OpT.move rfl) rfl <| Seg.netOut [.blk B4 (.cells #[(.int .i64 x5.kind), (w64 (word x5.set 0)), (w64 (word x5.set 1)), (w64 (word x5.set 2)), (w64 (word x5.set 3)), v12] 43 (0, 0)), .blk B2 (.cells #[(.int .i64 a1.kind), (w64 (word a1.set 0)), (w64 (word a1.set 1)), (w64 (word a1.set 2)), (w64 (word a1.set 3)), v1] 43 (0, 0))] <| Seg.opS (OpS.call ent27 rfl (ih (a0 := (d3, e3, i3)) hN11 hN12 (hv3.mono hl7) hx6)) rfl ?_
   rintro _ H8 _ hl8 ⟨v17, v18, F6, G6, rfl, hN13, hN14, rfl⟩
   refine Seg.netIn [.blk B4 (.cells #[(.int .i64 x5.kind), (w64 (word x5.set 0)), (w64 (word x5.set 1)), (w64 (word x5.set 2)), (w64 (word x5.set 3)), v12] 43 (0, 0)), .blk B2 (.cells #[(.int .i64 a1.kind), (w64 (word a1.set 0)), (w64 (word a1.set 1)), (w64 (word a1.set 2)), (w64 (word a1.set 3)), v1] 43 (0, 0))] ?_
   refine Seg.own (O := .blk B4 (.cells #[(.int .i64 x5.kind), (w64 (word x5.set 0)), (w64 (word x5.set 1)), (w64 (word x5.set 2)), (w64 (word x5.set 3)), v12] 43 (0, 0)) :: .blk B2 (.cells #[(.int .i64 a1.kind), (w64 (word a1.set 0)), (w64 (word a1.set 1)), (w64 (word a1.set 2)), (w64 (word a1.set 3)), v1] 43 (0, 0)) :: .blk B0 (.cells #[v17, v18, (.int .i64 x6.2.2)] 61 (0, 0)) :: .row v17 66 1 (famV F6).length (famV F6) :: .row v18 78 1 (famV G6).length (famV G6) :: (famR 3 1 F6 ++ (famR 80 6 G6 ++ O))) ?_ rfl
   refine Seg.nilT <| Wp.region <| Seg.op (OpT.move rfl) rfl <| Seg.op (OpT.assign rfl) rfl <| Seg.nil <| At.blk_n <| At.then_n <| Wp.region ?_
   refine Seg.op (OpT.add rfl rfl (fits64 (by omega))) rfl <| Seg.op (OpT.move rfl) rfl <| Seg.nil <| At.permK [1, 2, 3, 4] 5 rfl rfl rfl ?_
   refine At.nextF (hl7.trans hl8) ⟨x6.1, x6.2.1, i4, (k2 + 1), x6.2.2, F6, G6, v17, v18, rfl, rfl, (by rw [← hn2]; exact hd), hN13, hN14⟩ (Sub.of rfl)
  replace hd := brF hb8 hd
  replace hb8 := of_decide_eq_false hb8
  refine Wp.exit <| At.then_x <| At.then_x <| At.blk_hit <| At.blk_n ?_
  obtain rfl := Option.some.inj hd
  exact At.res0n rfl (fun w hs => ⟨_, _, _, rfl, hl5, (hs.dropN 1), v10, v11, F4, G4, rfl, hN7, hN8, rfl⟩)
 replace hd := brF hb6 hd
 replace hb6 := of_decide_eq_false hb6
 refine Wp.sr <| Seg.op (OpT.eql rfl rfl) rfl <| Seg.op (OpT.assign rfl) rfl <| Seg.nilT ?_
 refine Wp.cond (b := decide (a1.kind = 5)) rfl (fun hb11 => ?_) (fun hb11 => ?_)
 ·
  replace hd := brT hb11 hd
  replace hb11 := of_decide_eq_true hb11
  refine Wp.seq ?_
  obtain ⟨ha6, hd⟩ := chk_some hd
  obtain ⟨ha7, hd⟩ := chk_some hd
  refine Wp.region <| Seg.op (OpT.move rfl) rfl <| Seg.netOut [.blk B2 (.cells #[(.int .i64 a1.kind), (w64 (word a1.set 0)), (w64 (word a1.set 1)), (w64 (word a1.set 2)), (w64 (word a1.set 3)), v1] 43 (0, 0))] <| Seg.opS (OpS.call ent26 rfl (state_w hNF hNG ha6 ha7)) rfl ?_
  rintro _ H9 _ hl9 ⟨v19, v20, rfl, rfl⟩
  refine Seg.netIn [.blk B2 (.cells #[(.int .i64 a1.kind), (w64 (word a1.set 0)), (w64 (word a1.set 1)), (w64 (word a1.set 2)), (w64 (word a1.set 3)), v1] 43 (0, 0))] ?_
  have hN15 := FamOk.mono (FamOk.add hNF) hl9; have hN16 := FamOk.mono (FamOk.add hNG) hl9
  refine Seg.own (O := .blk B2 (.cells #[(.int .i64 a1.kind), (w64 (word a1.set 0)), (w64 (word a1.set 1)), (w64 (word a1.set 2)), (w64 (word a1.set 3)), v1] 43 (0, 0)) :: .blk B0 (.cells #[v19, v20, (.int .i64 a0.2.2)] 61 (0, 0)) :: .row v19 66 1 (famV (F1 ++ [(Value.slice none 0 0, [], [])])).length (famV (F1 ++ [(Value.slice none 0 0, [], [])])) :: .row v20 78 1 (famV (G1 ++ [(Value.slice none 0 0, [], [])])).length (famV (G1 ++ [(Value.slice none 0 0, [], [])])) :: (famR 3 1 (F1 ++ [(Value.slice none 0 0, [], [])]) ++ (famR 80 6 (G1 ++ [(Value.slice none 0 0, [], [])]) ++ O))) ?_ rfl
  refine Seg.op (OpT.assign rfl) rfl <| Seg.nilT <| Wp.seq ?_
  obtain ⟨x7, hx7, hd⟩ := bnd_some hd
  obtain ⟨v21, xs3, hf3, hL3, hi3⟩ := FamOk.get hN15 hx7
  refine Wp.lend [.blk B2 (.cells #[(.int .i64 a1.kind), (w64 (word a1.set 0)), (w64 (word a1.set 1)), (w64 (word a1.set 2)), (w64 (word a1.set 3)), v1] 43 (0, 0)), .blk B0 (.cells #[v19, v20, (.int .i64 a0.2.2)] 61 (0, 0)), .row v19 66 1 (famV (F1 ++ [(Value.slice none 0 0, [], [])])).length (famV (F1 ++ [(Value.slice none 0 0, [], [])])), .row v20 78 1 (famV (G1 ++ [(Value.slice none 0 0, [], [])])).length (famV (G1 ++ [(Value.slice none 0 0, [], [])]))] hf3 ?_
  obtain ⟨ha8, hd⟩ := chk_some hd
  obtain ⟨_, ⟨rfl, _⟩, hc7, hc7_⟩ := LayL.get (FamOk.row hN15) (idx_some hi3).2
  obtain ⟨_, ⟨rfl, _⟩, hc8, hc8_⟩ := LayL.get (FamOk.row hN15) (idx_some hi3).2
  refine Wp.emp <| SegO.runK 6 [an0, an0, an0, ⟨[3], [], []⟩, an0, an0, an0, an0, ⟨[3], [], []⟩, an0, ⟨[4], [], []⟩, ⟨[4], [], []⟩, an0, ⟨[0], [0], [13]⟩, ⟨[0, 1], [1], [14]⟩, ⟨[4], [], []⟩, ⟨[4], [4], [14]⟩] follows rfl (by kernel_rfl) <| SegO.op (val := fun p3 => (ptr B0 0)) rfl rfl (fun _ => rfl) (fun _ p3 _ hx hf hy => OpT.move rfl) rfl <| SegO.op (val := fun p3 => (ptr B0 0)) rfl rfl (fun _ => rfl) (fun _ p3 _ hx hf hy => OpT.nilCheck rfl) rfl <| SegO.op (val := fun p3 => (ptr B0 0)) rfl rfl (fun _ => rfl) (fun _ p3 _ hx hf hy => OpT.fld (o' := 0) fl61_0 rfl rfl) rfl <| SegO.op (val := fun p3 => v19) rfl rfl (fun _ => rfl) (fun _ p3 _ hx hf hy => OpT.ldBlk (i := 3) (v := v19) u58 rfl rfl (hy 3 _ rfl rfl) rfl) rfl <| SegO.op (val := fun p3 => (.int .i64 a2)) rfl rfl (fun _ => rfl) (fun _ p3 _ hx hf hy => OpT.move rfl) rfl <| SegO.op (val := fun p3 => (ptr B0 0)) rfl rfl (fun _ => rfl) (fun _ p3 _ hx hf hy => OpT.move rfl) rfl ?_
  refine SegO.op (val := fun p3 => (ptr B0 0)) rfl rfl (fun _ => rfl) (fun _ p3 _ hx hf hy => OpT.nilCheck rfl) rfl <| SegO.op (val := fun p3 => (ptr B0 0)) rfl rfl (fun _ => rfl) (fun _ p3 _ hx hf hy => OpT.fld (o' := 0) fl61_0 rfl rfl) rfl <| SegO.op (val := fun p3 => v19) rfl rfl (fun _ => rfl) (fun _ p3 _ hx hf hy => OpT.ldBlk (i := 3) (v := v19) u58 rfl rfl (hy 3 _ rfl rfl) rfl) rfl <| SegO.op (val := fun p3 => (.int .i64 a2)) rfl rfl (fun _ => rfl) (fun _ p3 _ hx hf hy => OpT.move rfl) rfl <| SegO.op (val := fun p3 => (elemPtr v19 ((Int.toNat a2) * 1))) rfl rfl (fun _ => rfl) (fun _ p3 _ hx hf hy => OpT.ixRow (j := 4) u58 ti66 rfl (hy 4 _ rfl rfl) rfl (idx_bd hi3)) rfl <| SegO.op (val := fun p3 => v21) rfl rfl (fun _ => rfl) (fun _ p3 _ hx hf hy => OpT.ldRow (i := 4) (k := (Int.toNat a2) * 1 + 0) u66 rfl rfl (hy 4 _ rfl rfl) (hc7 0 _ rfl)) rfl <| SegO.op (val := fun p3 => (.int .i64 (a0.2.1.length:Int))) rfl rfl (fun _ => rfl) (fun _ p3 _ hx hf hy => OpT.move rfl) rfl <| SegO.op1s (res := fun p3 => .row (p3 13) 3 1 1 [(.int .i64 (a0.2.1.length:Int))]) 0 rfl rfl rfl (fun _ => rfl) (fun _ p3 _ hx hf hy => OpS.buildR1 (v := (.int .i64 (a0.2.1.length:Int))) (cs := [(.int .i64 (a0.2.1.length:Int))]) 0 u66 ti3 rfl rfl rfl rfl rfl (hy 0 _ rfl rfl)) rfl (fun _ => ⟨_, _, _, _, rfl⟩) ?_
  refine SegO.op1s (res := fun p3 => .row (p3 14) 3 1 (x7.length + 1) (xs3 ++ [(.int .i64 (a0.2.1.length:Int))])) 1 rfl rfl rfl (fun _ => rfl) (fun _ p3 _ hx hf hy => OpS.appR 1 0 u66 ti3 rfl rfl rfl rfl (hy 1 _ rfl rfl) (hy 0 _ rfl rfl) (ones_cons rfl (ones_nil)) rfl ha8) rfl (fun _ => ⟨_, _, _, _, rfl⟩) <| SegO.op (val := fun p3 => (elemPtr v19 ((Int.toNat a2) * 1))) rfl rfl (fun _ => rfl) (fun _ p3 _ hx hf hy => OpT.ixRow (j := 4) u58 ti66 rfl (hy 4 _ rfl rfl) rfl (idx_bd hi3)) rfl <| SegO.op1n (res := fun p3 => .row v19 66 1 (famV (F1 ++ [(Value.slice none 0 0, [], [])])).length (spl (famV (F1 ++ [(Value.slice none 0 0, [], [])])) ((Int.toNat a2) * 1 + 0) [(p3 14)])) 4 rfl rfl rfl (fun _ => rfl) (fun _ p3 _ hx hf hy => OpS.stRowR (k := (Int.toNat a2) * 1 + 0) (vs := [(p3 14)]) rfl rfl (cellsL (hf 14 rfl rfl)) ti66 rfl rfl (ones_cons (hf 14 rfl rfl) (ones_nil)) (hy 4 _ rfl rfl) (by have h1 : _ = _ * 1 := (FamOk.row hN15).len; have h2 := idx_bd hi3; simp only [List.length_cons, List.length_nil]; omega)) <| SegO.done fun H10 p3 hl10 hF3 => At.sub (L' := [(0, (ptr B0 0)), (3, (.int .i64 a3)), (5, (ptr B2 0)), (14, (.int .i64 (a0.2.1.length:Int)))]) (Sub.of rfl) ?_
  refine At.own (O := .row (p3 13) 3 1 ([(a0.2.1.length:Int)] : List Int).length [(.int .i64 (a0.2.1.length:Int))] :: .row (p3 14) 3 1 (x7 ++ ([(a0.2.1.length:Int)] : List Int)).length (xs3 ++ [(.int .i64 (a0.2.1.length:Int))]) :: .blk B2 (.cells #[(.int .i64 a1.kind), (w64 (word a1.set 0)), (w64 (word a1.set 1)), (w64 (word a1.set 2)), (w64 (word a1.set 3)), v1] 43 (0, 0)) :: .blk B0 (.cells #[v19, v20, (.int .i64 a0.2.2)] 61 (0, 0)) :: .row v19 66 1 ((famV (F1 ++ [(Value.slice none 0 0, [], [])])).set (Int.toNat a2) (p3 14)).length (spl (famV (F1 ++ [(Value.slice none 0 0, [], [])])) ((Int.toNat a2) * 1 + 0) [(p3 14)]) :: .row v20 78 1 (famV (G1 ++ [(Value.slice none 0 0, [], [])])).length (famV (G1 ++ [(Value.slice none 0 0, [], [])])) :: (famR 3 1 (List.eraseIdx (F1 ++ [(Value.slice none 0 0, [], [])]) (Int.toNat a2)) ++ (famR 80 6 (G1 ++ [(Value.slice none 0 0, [], [])]) ++ O))) ?_ (by first | rfl | (simp only [List.length_append, List.length_set]; rfl) | simp)
  have hq3 : LayL cI64 H10 (x7 ++ ([(a0.2.1.length:Int)] : List Int)) (xs3 ++ [(.int .i64 (a0.2.1.length:Int))]) := (LayL.app (hL3.mono hl10) (LayL.sing (c := cI64) (a := (a0.2.1.length:Int)) (cs := [(.int .i64 (a0.2.1.length:Int))]) rfl))
  refine At.rowOne (i := 1) rfl fun ho3 => ?_
  refine At.own (O := .row (p3 13) 3 1 ([(a0.2.1.length:Int)] : List Int).length [(.int .i64 (a0.2.1.length:Int))] :: .row (p3 14) 3 1 (x7 ++ ([(a0.2.1.length:Int)] : List Int)).length (xs3 ++ [(.int .i64 (a0.2.1.length:Int))]) :: .blk B2 (.cells #[(.int .i64 a1.kind), (w64 (word a1.set 0)), (w64 (word a1.set 1)), (w64 (word a1.set 2)), (w64 (word a1.set 3)), v1] 43 (0, 0)) :: .blk B0 (.cells #[v19, v20, (.int .i64 a0.2.2)] 61 (0, 0)) :: .row v19 66 1 (famV (List.set (F1 ++ [(Value.slice none 0 0, [], [])]) (Int.toNat a2) ((p3 14), x7 ++ ([(a0.2.1.length:Int)] : List Int), xs3 ++ [(.int .i64 (a0.2.1.length:Int))]))).length (famV (List.set (F1 ++ [(Value.slice none 0 0, [], [])]) (Int.toNat a2) ((p3 14), x7 ++ ([(a0.2.1.length:Int)] : List Int), xs3 ++ [(.int .i64 (a0.2.1.length:Int))]))) :: .row v20 78 1 (famV (G1 ++ [(Value.slice none 0 0, [], [])])).length (famV (G1 ++ [(Value.slice none 0 0, [], [])])) :: (famR 3 1 (List.eraseIdx (F1 ++ [(Value.slice none 0 0, [], [])]) (Int.toNat a2)) ++ (famR 80 6 (G1 ++ [(Value.slice none 0 0, [], [])]) ++ O))) ?_ (by rw [show spl (famV (F1 ++ [(Value.slice none 0 0, [], [])])) ((Int.toNat a2) * 1 + 0) [(p3 14)] = famV (List.set (F1 ++ [(Value.slice none 0 0, [], [])]) (Int.toNat a2) ((p3 14), x7 ++ ([(a0.2.1.length:Int)] : List Int), xs3 ++ [(.int .i64 (a0.2.1.length:Int))])) from famSpl _ _ _ hf3, show (famV (F1 ++ [(Value.slice none 0 0, [], [])])).set (Int.toNat a2) (p3 14) = famV (List.set (F1 ++ [(Value.slice none 0 0, [], [])]) (Int.toNat a2) ((p3 14), x7 ++ ([(a0.2.1.length:Int)] : List Int), xs3 ++ [(.int .i64 (a0.2.1.length:Int))])) from famSet _ _ _])
  refine At.permK [1, 2, 3, 4, 5] 6 rfl rfl rfl <| At.unlend [.blk B2 (.cells #[(.int .i64 a1.kind), (w64 (word a1.set 0)), (w64 (word a1.set 1)), (w64 (word a1.set 2)), (w64 (word a1.set 3)), v1] 43 (0, 0)), .blk B0 (.cells #[v19, v20, (.int .i64 a0.2.2)] 61 (0, 0)), .row v19 66 1 (famV (List.set (F1 ++ [(Value.slice none 0 0, [], [])]) (Int.toNat a2) ((p3 14), x7 ++ ([(a0.2.1.length:Int)] : List Int), xs3 ++ [(.int .i64 (a0.2.1.length:Int))]))).length (famV (List.set (F1 ++ [(Value.slice none 0 0, [], [])]) (Int.toNat a2) ((p3 14), x7 ++ ([(a0.2.1.length:Int)] : List Int), xs3 ++ [(.int .i64 (a0.2.1.length:Int))]))), .row v20 78 1 (famV (G1 ++ [(Value.slice none 0 0, [], [])])).length (famV (G1 ++ [(Value.slice none 0 0, [], [])]))] ((p3 14), x7 ++ ([(a0.2.1.length:Int)] : List Int), xs3 ++ [(.int .i64 (a0.2.1.length:Int))]) hf3 ?_
  have hN17 : FamOk cI64 H10 (List.set (a0.1 ++ [[]]) (Int.toNat a2) (x7 ++ ([(a0.2.1.length:Int)] : List Int))) (List.set (F1 ++ [(Value.slice none 0 0, [], [])]) (Int.toNat a2) ((p3 14), x7 ++ ([(a0.2.1.length:Int)] : List Int), xs3 ++ [(.int .i64 (a0.2.1.length:Int))])) := FamOk.set (hN15.mono hl10) hq3 ho3
  refine At.then_n <| Wp.seq ?_
  obtain ⟨x8, hx8, hd⟩ := bnd_some hd
  obtain ⟨v22, xs4, hf4, hL4, hi4⟩ := FamOk.get hN17 hx8
  refine Wp.lend [.blk B2 (.cells #[(.int .i64 a1.kind), (w64 (word a1.set 0)), (w64 (word a1.set 1)), (w64 (word a1.set 2)), (w64 (word a1.set 3)), v1] 43 (0, 0)), .blk B0 (.cells #[v19, v20, (.int .i64 a0.2.2)] 61 (0, 0)), .row v19 66 1 (famV (List.set (F1 ++ [(Value.slice none 0 0, [], [])]) (Int.toNat a2) ((p3 14), x7 ++ ([(a0.2.1.length:Int)] : List Int), xs3 ++ [(.int .i64 (a0.2.1.length:Int))]))).length (famV (List.set (F1 ++ [(Value.slice none 0 0, [], [])]) (Int.toNat a2) ((p3 14), x7 ++ ([(a0.2.1.length:Int)] : List Int), xs3 ++ [(.int .i64 (a0.2.1.length:Int))]))), .row v20 78 1 (famV (G1 ++ [(Value.slice none 0 0, [], [])])).length (famV (G1 ++ [(Value.slice none 0 0, [], [])]))] hf4 ?_
  obtain ⟨ha9, hd⟩ := chk_some hd
  obtain ⟨_, ⟨rfl, _⟩, hc9, hc9_⟩ := LayL.get (FamOk.row hN17) (idx_some hi4).2
  obtain ⟨_, ⟨rfl, _⟩, hc10, hc10_⟩ := LayL.get (FamOk.row hN17) (idx_some hi4).2
  refine Wp.emp <| SegO.runK 6 [an0, an0, an0, ⟨[3], [], []⟩, an0, an0, an0, an0, ⟨[3], [], []⟩, an0, ⟨[4], [], []⟩, ⟨[4], [], []⟩, an0, ⟨[0], [0], [13]⟩, ⟨[0, 1], [1], [14]⟩, ⟨[4], [], []⟩, ⟨[4], [4], [14]⟩] follows rfl (by kernel_rfl) <| SegO.op (val := fun p4 => (ptr B0 0)) rfl rfl (fun _ => rfl) (fun _ p4 _ hx hf hy => OpT.move rfl) rfl <| SegO.op (val := fun p4 => (ptr B0 0)) rfl rfl (fun _ => rfl) (fun _ p4 _ hx hf hy => OpT.nilCheck rfl) rfl <| SegO.op (val := fun p4 => (ptr B0 0)) rfl rfl (fun _ => rfl) (fun _ p4 _ hx hf hy => OpT.fld (o' := 0) fl61_0 rfl rfl) rfl <| SegO.op (val := fun p4 => v19) rfl rfl (fun _ => rfl) (fun _ p4 _ hx hf hy => OpT.ldBlk (i := 3) (v := v19) u58 rfl rfl (hy 3 _ rfl rfl) rfl) rfl <| SegO.op (val := fun p4 => (.int .i64 (a0.2.1.length:Int))) rfl rfl (fun _ => rfl) (fun _ p4 _ hx hf hy => OpT.move rfl) rfl <| SegO.op (val := fun p4 => (ptr B0 0)) rfl rfl (fun _ => rfl) (fun _ p4 _ hx hf hy => OpT.move rfl) rfl ?_
  refine SegO.op (val := fun p4 => (ptr B0 0)) rfl rfl (fun _ => rfl) (fun _ p4 _ hx hf hy => OpT.nilCheck rfl) rfl <| SegO.op (val := fun p4 => (ptr B0 0)) rfl rfl (fun _ => rfl) (fun _ p4 _ hx hf hy => OpT.fld (o' := 0) fl61_0 rfl rfl) rfl <| SegO.op (val := fun p4 => v19) rfl rfl (fun _ => rfl) (fun _ p4 _ hx hf hy => OpT.ldBlk (i := 3) (v := v19) u58 rfl rfl (hy 3 _ rfl rfl) rfl) rfl <| SegO.op (val := fun p4 => (.int .i64 (a0.2.1.length:Int))) rfl rfl (fun _ => rfl) (fun _ p4 _ hx hf hy => OpT.move rfl) rfl <| SegO.op (val := fun p4 => (elemPtr v19 (a0.2.1.length * 1))) rfl rfl (fun _ => rfl) (fun _ p4 _ hx hf hy => OpT.ixRow (j := 4) u58 ti66 rfl (hy 4 _ rfl rfl) rfl (idx_bd hi4)) rfl <| SegO.op (val := fun p4 => v22) rfl rfl (fun _ => rfl) (fun _ p4 _ hx hf hy => OpT.ldRow (i := 4) (k := a0.2.1.length * 1 + 0) u66 rfl rfl (hy 4 _ rfl rfl) (hc9 0 _ rfl)) rfl <| SegO.op (val := fun p4 => (.int .i64 a3)) rfl rfl (fun _ => rfl) (fun _ p4 _ hx hf hy => OpT.move rfl) rfl <| SegO.op1s (res := fun p4 => .row (p4 13) 3 1 1 [(.int .i64 a3)]) 0 rfl rfl rfl (fun _ => rfl) (fun _ p4 _ hx hf hy => OpS.buildR1 (v := (.int .i64 a3)) (cs := [(.int .i64 a3)]) 0 u66 ti3 rfl rfl rfl rfl rfl (hy 0 _ rfl rfl)) rfl (fun _ => ⟨_, _, _, _, rfl⟩) ?_
  refine SegO.op1s (res := fun p4 => .row (p4 14) 3 1 (x8.length + 1) (xs4 ++ [(.int .i64 a3)])) 1 rfl rfl rfl (fun _ => rfl) (fun _ p4 _ hx hf hy => OpS.appR 1 0 u66 ti3 rfl rfl rfl rfl (hy 1 _ rfl rfl) (hy 0 _ rfl rfl) (ones_cons rfl (ones_nil)) rfl ha9) rfl (fun _ => ⟨_, _, _, _, rfl⟩) <| SegO.op (val := fun p4 => (elemPtr v19 (a0.2.1.length * 1))) rfl rfl (fun _ => rfl) (fun _ p4 _ hx hf hy => OpT.ixRow (j := 4) u58 ti66 rfl (hy 4 _ rfl rfl) rfl (idx_bd hi4)) rfl <| SegO.op1n (res := fun p4 => .row v19 66 1 (famV (List.set (F1 ++ [(Value.slice none 0 0, [], [])]) (Int.toNat a2) ((p3 14), x7 ++ ([(a0.2.1.length:Int)] : List Int), xs3 ++ [(.int .i64 (a0.2.1.length:Int))]))).length (spl (famV (List.set (F1 ++ [(Value.slice none 0 0, [], [])]) (Int.toNat a2) ((p3 14), x7 ++ ([(a0.2.1.length:Int)] : List Int), xs3 ++ [(.int .i64 (a0.2.1.length:Int))]))) (a0.2.1.length * 1 + 0) [(p4 14)])) 4 rfl rfl rfl (fun _ => rfl) (fun _ p4 _ hx hf hy => OpS.stRowR (k := a0.2.1.length * 1 + 0) (vs := [(p4 14)]) rfl rfl (cellsL (hf 14 rfl rfl)) ti66 rfl rfl (ones_cons (hf 14 rfl rfl) (ones_nil)) (hy 4 _ rfl rfl) (by have h1 : _ = _ * 1 := (FamOk.row hN17).len; have h2 := idx_bd hi4; simp only [List.length_cons, List.length_nil]; omega)) <| SegO.done fun H11 p4 hl11 hF4 => At.sub (L' := [(0, (ptr B0 0)), (5, (ptr B2 0)), (14, (.int .i64 (a0.2.1.length:Int)))]) (Sub.of rfl) ?_
  refine At.own (O := .row (p4 13) 3 1 ([a3] : List Int).length [(.int .i64 a3)] :: .row (p4 14) 3 1 (x8 ++ ([a3] : List Int)).length (xs4 ++ [(.int .i64 a3)]) :: .blk B2 (.cells #[(.int .i64 a1.kind), (w64 (word a1.set 0)), (w64 (word a1.set 1)), (w64 (word a1.set 2)), (w64 (word a1.set 3)), v1] 43 (0, 0)) :: .blk B0 (.cells #[v19, v20, (.int .i64 a0.2.2)] 61 (0, 0)) :: .row v19 66 1 ((famV (List.set (F1 ++ [(Value.slice none 0 0, [], [])]) (Int.toNat a2) ((p3 14), x7 ++ ([(a0.2.1.length:Int)] : List Int), xs3 ++ [(.int .i64 (a0.2.1.length:Int))]))).set a0.2.1.length (p4 14)).length (spl (famV (List.set (F1 ++ [(Value.slice none 0 0, [], [])]) (Int.toNat a2) ((p3 14), x7 ++ ([(a0.2.1.length:Int)] : List Int), xs3 ++ [(.int .i64 (a0.2.1.length:Int))]))) (a0.2.1.length * 1 + 0) [(p4 14)]) :: .row v20 78 1 (famV (G1 ++ [(Value.slice none 0 0, [], [])])).length (famV (G1 ++ [(Value.slice none 0 0, [], [])])) :: (famR 3 1 (List.eraseIdx (List.set (F1 ++ [(Value.slice none 0 0, [], [])]) (Int.toNat a2) ((p3 14), x7 ++ ([(a0.2.1.length:Int)] : List Int), xs3 ++ [(.int .i64 (a0.2.1.length:Int))])) a0.2.1.length) ++ (famR 80 6 (G1 ++ [(Value.slice none 0 0, [], [])]) ++ O))) ?_ (by first | rfl | (simp only [List.length_append, List.length_set]; rfl) | simp)
  have hq4 : LayL cI64 H11 (x8 ++ ([a3] : List Int)) (xs4 ++ [(.int .i64 a3)]) := (LayL.app (hL4.mono hl11) (LayL.sing (c := cI64) (a := a3) (cs := [(.int .i64 a3)]) rfl))
  refine At.rowOne (i := 1) rfl fun ho4 => ?_
  refine At.own (O := .row (p4 13) 3 1 ([a3] : List Int).length [(.int .i64 a3)] :: .row (p4 14) 3 1 (x8 ++ ([a3] : List Int)).length (xs4 ++ [(.int .i64 a3)]) :: .blk B2 (.cells #[(.int .i64 a1.kind), (w64 (word a1.set 0)), (w64 (word a1.set 1)), (w64 (word a1.set 2)), (w64 (word a1.set 3)), v1] 43 (0, 0)) :: .blk B0 (.cells #[v19, v20, (.int .i64 a0.2.2)] 61 (0, 0)) :: .row v19 66 1 (famV (List.set (List.set (F1 ++ [(Value.slice none 0 0, [], [])]) (Int.toNat a2) ((p3 14), x7 ++ ([(a0.2.1.length:Int)] : List Int), xs3 ++ [(.int .i64 (a0.2.1.length:Int))])) a0.2.1.length ((p4 14), x8 ++ ([a3] : List Int), xs4 ++ [(.int .i64 a3)]))).length (famV (List.set (List.set (F1 ++ [(Value.slice none 0 0, [], [])]) (Int.toNat a2) ((p3 14), x7 ++ ([(a0.2.1.length:Int)] : List Int), xs3 ++ [(.int .i64 (a0.2.1.length:Int))])) a0.2.1.length ((p4 14), x8 ++ ([a3] : List Int), xs4 ++ [(.int .i64 a3)]))) :: .row v20 78 1 (famV (G1 ++ [(Value.slice none 0 0, [], [])])).length (famV (G1 ++ [(Value.slice none 0 0, [], [])])) :: (famR 3 1 (List.eraseIdx (List.set (F1 ++ [(Value.slice none 0 0, [], [])]) (Int.toNat a2) ((p3 14), x7 ++ ([(a0.2.1.length:Int)] : List Int), xs3 ++ [(.int .i64 (a0.2.1.length:Int))])) a0.2.1.length) ++ (famR 80 6 (G1 ++ [(Value.slice none 0 0, [], [])]) ++ O))) ?_ (by rw [show spl (famV (List.set (F1 ++ [(Value.slice none 0 0, [], [])]) (Int.toNat a2) ((p3 14), x7 ++ ([(a0.2.1.length:Int)] : List Int), xs3 ++ [(.int .i64 (a0.2.1.length:Int))]))) (a0.2.1.length * 1 + 0) [(p4 14)] = famV (List.set (List.set (F1 ++ [(Value.slice none 0 0, [], [])]) (Int.toNat a2) ((p3 14), x7 ++ ([(a0.2.1.length:Int)] : List Int), xs3 ++ [(.int .i64 (a0.2.1.length:Int))])) a0.2.1.length ((p4 14), x8 ++ ([a3] : List Int), xs4 ++ [(.int .i64 a3)])) from famSpl _ _ _ hf4, show (famV (List.set (F1 ++ [(Value.slice none 0 0, [], [])]) (Int.toNat a2) ((p3 14), x7 ++ ([(a0.2.1.length:Int)] : List Int), xs3 ++ [(.int .i64 (a0.2.1.length:Int))]))).set a0.2.1.length (p4 14) = famV (List.set (List.set (F1 ++ [(Value.slice none 0 0, [], [])]) (Int.toNat a2) ((p3 14), x7 ++ ([(a0.2.1.length:Int)] : List Int), xs3 ++ [(.int .i64 (a0.2.1.length:Int))])) a0.2.1.length ((p4 14), x8 ++ ([a3] : List Int), xs4 ++ [(.int .i64 a3)])) from famSet _ _ _])
  refine At.permK [1, 2, 3, 4, 5] 6 rfl rfl rfl <| At.unlend [.blk B2 (.cells #[(.int .i64 a1.kind), (w64 (word a1.set 0)), (w64 (word a1.set 1)), (w64 (word a1.set 2)), (w64 (word a1.set 3)), v1] 43 (0, 0)), .blk B0 (.cells #[v19, v20, (.int .i64 a0.2.2)] 61 (0, 0)), .row v19 66 1 (famV (List.set (List.set (F1 ++ [(Value.slice none 0 0, [], [])]) (Int.toNat a2) ((p3 14), x7 ++ ([(a0.2.1.length:Int)] : List Int), xs3 ++ [(.int .i64 (a0.2.1.length:Int))])) a0.2.1.length ((p4 14), x8 ++ ([a3] : List Int), xs4 ++ [(.int .i64 a3)]))).length (famV (List.set (List.set (F1 ++ [(Value.slice none 0 0, [], [])]) (Int.toNat a2) ((p3 14), x7 ++ ([(a0.2.1.length:Int)] : List Int), xs3 ++ [(.int .i64 (a0.2.1.length:Int))])) a0.2.1.length ((p4 14), x8 ++ ([a3] : List Int), xs4 ++ [(.int .i64 a3)]))), .row v20 78 1 (famV (G1 ++ [(Value.slice none 0 0, [], [])])).length (famV (G1 ++ [(Value.slice none 0 0, [], [])]))] ((p4 14), x8 ++ ([a3] : List Int), xs4 ++ [(.int .i64 a3)]) hf4 ?_
  have hN18 : FamOk cI64 H11 (List.set (List.set (a0.1 ++ [[]]) (Int.toNat a2) (x7 ++ ([(a0.2.1.length:Int)] : List Int))) a0.2.1.length (x8 ++ ([a3] : List Int))) (List.set (List.set (F1 ++ [(Value.slice none 0 0, [], [])]) (Int.toNat a2) ((p3 14), x7 ++ ([(a0.2.1.length:Int)] : List Int), xs3 ++ [(.int .i64 (a0.2.1.length:Int))])) a0.2.1.length ((p4 14), x8 ++ ([a3] : List Int), xs4 ++ [(.int .i64 a3)])) := FamOk.set (hN17.mono hl11) hq4 ho4
  refine At.then_n ?_
  obtain ⟨x9, hx9, hd⟩ := bnd_some hd
  have hx9_ := idx_bd hx9
  obtain ⟨x10, hx10, hd⟩ := bnd_some hd
  refine Wp.region <| Seg.op (OpT.move rfl) rfl <| Seg.op (OpT.fld (o' := 5) fl43_2 rfl rfl) rfl <| Seg.op (OpT.ldBlk (i := 0) (v := v1) u41 rfl rfl rfl rfl) rfl ?_
  obtain ⟨_, hz3, hc11⟩ := SlD.get (hv1.mono ((hl9.trans hl10).trans hl11)) hx9
  obtain ⟨v23, rfl, hv4⟩ := layRx.1 hz3
  refine Seg.op (OpT.ixSl u41 ti43 rfl (hv1.mono ((hl9.trans hl10).trans hl11)).sl rfl (idx_bd hx9)) rfl <| Seg.op (OpT.ldHA (vs := [(.int .i64 x9.kind), (w64 (word x9.set 0)), (w64 (word x9.set 1)), (w64 (word x9.set 2)), (w64 (word x9.set 3)), v23]) u43 rfl ti43 rfl rfl (fun j u hj => (hc11 j u hj))) rfl <| Seg.op (OpT.move rfl) rfl <| Seg.op (OpT.move rfl) rfl <| Seg.netOut [.blk B2 (.cells #[(.int .i64 a1.kind), (w64 (word a1.set 0)), (w64 (word a1.set 1)), (w64 (word a1.set 2)), (w64 (word a1.set 3)), v1] 43 (0, 0))] <| Seg.opS (OpS.call ent27 rfl (ih (a0 := ((List.set (List.set (a0.1 ++ [[]]) (Int.toNat a2) (x7 ++ ([(a0.2.1.length:Int)] : List Int))) a0.2.1.length (x8 ++ ([a3] : List Int))), (a0.2.1 ++ [[]]), a0.2.2)) hN18 ((hN16.mono hl10).mono hl11) hv4 hx10)) rfl ?_
  rintro _ H12 _ hl12 ⟨v24, v25, F7, G7, rfl, hN19, hN20, rfl⟩
  refine Seg.netIn [.blk B2 (.cells #[(.int .i64 a1.kind), (w64 (word a1.set 0)), (w64 (word a1.set 1)), (w64 (word a1.set 2)), (w64 (word a1.set 3)), v1] 43 (0, 0))] ?_
  refine Seg.own (O := .blk B2 (.cells #[(.int .i64 a1.kind), (w64 (word a1.set 0)), (w64 (word a1.set 1)), (w64 (word a1.set 2)), (w64 (word a1.set 3)), v1] 43 (0, 0)) :: .blk B0 (.cells #[v24, v25, (.int .i64 x10.2.2)] 61 (0, 0)) :: .row v24 66 1 (famV F7).length (famV F7) :: .row v25 78 1 (famV G7).length (famV G7) :: (famR 3 1 F7 ++ (famR 80 6 G7 ++ O))) ?_ rfl
  refine Seg.nil <| At.blk_n ?_
  obtain rfl := Option.some.inj hd
  exact At.res0n rfl (fun w hs => ⟨_, _, _, rfl, (((hl9.trans hl10).trans hl11).trans hl12), (hs.dropN 1), v24, v25, F7, G7, rfl, hN19, hN20, rfl⟩)
 replace hd := brF hb11 hd
 replace hb11 := of_decide_eq_false hb11
 refine Wp.skip <| At.blk_n ?_
 obtain rfl := Option.some.inj hd
 exact At.res0n rfl (fun w hs => ⟨_, _, _, rfl, (Hp.le.refl _), (hs.dropN 1), u1, u2, F1, G1, rfl, hNF, hNG, rfl⟩)

set_option maxRecDepth 100000 in
set_option maxHeartbeats 4000000 in
theorem au_Of_w {fu : Nat} {a0 : Rx} {v1 : Value} {r : (List (Bool × (List (Int × Int × Int)))) × Int} (hv1 : SlD cRx H a0.subs v1) (hG : LaidH Tryd.prog H) (hd : au_Of fu a0 = some r) :
    Tri Tryd.prog 12 [(.agg #[(.int .i64 a0.kind), (w64 (word a0.set 0)), (w64 (word a0.set 1)), (w64 (word a0.set 2)), (w64 (word a0.set 3)), v1])] H O (fun v H' O' => (∃ v2 : Value, (.tuple #[(.agg #[v2]), (.int .i64 r.2)]) = v ∧ SlD (cP cB (cL (cP cU8 (cP cU8 cI64)))) H' r.1 v2) ∧ O = O') := by
 intro w hs
 refine wp_of Tryd.func12 rfl rfl rfl ?_ hs
 clear hs w
 unfold au_Of at hd
 refine Wp.sr <| Seg.box (cs := #[(.int .i64 a0.kind), (w64 (word a0.set 0)), (w64 (word a0.set 1)), (w64 (word a0.set 2)), (w64 (word a0.set 3)), v1]) rfl rfl rfl fun B2 => Seg.alloc (cs := #[(.slice none 0 0)]) ti32 rfl rfl fun B3 => Seg.op (OpT.assign rfl) rfl <| Seg.nilT <| Wp.seq <| Wp.seq ?_
 obtain ⟨x1, hx1, hd⟩ := bnd_some hd
 refine Wp.region <| Seg.op (OpT.ldBlkW (i := 1) u43 rfl ti43 rfl rfl rfl) rfl <| Seg.op (OpT.call ent25 rfl (rx_Check_w hv1 hx1)) rfl <| Seg.op (OpT.assign rfl) rfl <| Seg.nilT <| Wp.sr <| Seg.op (OpT.move rfl) rfl <| Seg.op (OpT.neq rfl rfl) rfl ?_
 refine Seg.nilT ?_
 refine Wp.cond (b := decide (x1 ≠ 0)) rfl (fun hb1 => ?_) (fun hb1 => ?_)
 ·
  replace hd := brT hb1 hd
  replace hb1 := of_decide_eq_true hb1
  refine Wp.sr <| Seg.op (OpT.buildS (vs := []) (cs := #[(.slice none 0 0)]) plf32 ti32 rfl rfl (vc_nil) rfl) rfl <| Seg.op (OpT.move rfl) rfl <| Seg.stBlkW (i := 0) (cs' := #[(.slice none 0 0)]) rfl rfl ti32 rfl rfl (onesA (ones_cons rfl (ones_nil))) rfl ?_
  refine Seg.own (O := .blk B3 (.cells #[(.slice none 0 0)] 32 (0, 0)) :: .blk B2 (.cells #[(.int .i64 a0.kind), (w64 (word a0.set 0)), (w64 (word a0.set 1)), (w64 (word a0.set 2)), (w64 (word a0.set 3)), v1] 43 (0, 0)) :: O) ?_ rfl
  refine Seg.op (OpT.assign rfl) rfl <| Seg.nilT <| Wp.ret <| At.then_r ?_
  obtain rfl := Option.some.inj hd
  exact At.res2 rfl (RV.cellA (i := 0) rfl u32 rfl ti32 rfl rfl) (RV.tmp (v := (.int .i64 x1)) rfl) (fun w hs => ⟨_, _, _, rfl, (Hp.le.refl _), (hs.dropN 2), ⟨⟨(.slice none 0 0), rfl, SlD.nil⟩, rfl⟩⟩)
 replace hd := brF hb1 hd
 replace hb1 := of_decide_eq_false hb1
 refine Wp.skip <| At.then_n <| Wp.sr <| Seg.op (OpT.buildS (vs := []) (cs := #[(.slice none 0 0), (.slice none 0 0), (.int .i64 0)]) plf61 ti61 rfl rfl (vc_nil) rfl) rfl <| Seg.box (cs := #[(.slice none 0 0), (.slice none 0 0), (.int .i64 0)]) rfl rfl rfl fun B4 => Seg.op (OpT.assign rfl) rfl <| Seg.nilT <| Wp.seq ?_
 obtain ⟨ha1, hd⟩ := chk_some hd
 obtain ⟨ha2, hd⟩ := chk_some hd
 obtain ⟨ha3, hd⟩ := chk_some hd
 obtain ⟨ha4, hd⟩ := chk_some hd
 refine Wp.region <| Seg.op (OpT.move rfl) rfl <| Seg.nilRow 78 1 <| Seg.nilRow 66 1 <| Seg.permK [3, 4, 2, 0, 1] 5 rfl rfl rfl ?_
 refine Seg.own (O := .blk B3 (.cells #[(.slice none 0 0)] 32 (0, 0)) :: .blk B2 (.cells #[(.int .i64 a0.kind), (w64 (word a0.set 0)), (w64 (word a0.set 1)), (w64 (word a0.set 2)), (w64 (word a0.set 3)), v1] 43 (0, 0)) :: .blk B4 (.cells #[(.slice none 0 0), (.slice none 0 0), (.int .i64 0)] 61 (0, 0)) :: .row (.slice none 0 0) 66 1 (famV ([] : Fam Int)).length (famV ([] : Fam Int)) :: .row (.slice none 0 0) 78 1 (famV ([] : Fam (BSet × Int × Int))).length (famV ([] : Fam (BSet × Int × Int))) :: (famR 3 1 ([] : Fam Int) ++ (famR 80 6 ([] : Fam (BSet × Int × Int)) ++ O))) ?_ rfl
 refine Seg.netOut [.blk B3 (.cells #[(.slice none 0 0)] 32 (0, 0)), .blk B2 (.cells #[(.int .i64 a0.kind), (w64 (word a0.set 0)), (w64 (word a0.set 1)), (w64 (word a0.set 2)), (w64 (word a0.set 3)), v1] 43 (0, 0))] <| Seg.opS (OpS.call ent26 rfl (state_w (FamOk.nil (c := cI64) (H := H)) (FamOk.nil (c := cAr) (H := H)) ha1 ha2)) rfl ?_
 rintro _ H1 _ hl1 ⟨v3, v4, rfl, rfl⟩
 refine Seg.netIn [.blk B3 (.cells #[(.slice none 0 0)] 32 (0, 0)), .blk B2 (.cells #[(.int .i64 a0.kind), (w64 (word a0.set 0)), (w64 (word a0.set 1)), (w64 (word a0.set 2)), (w64 (word a0.set 3)), v1] 43 (0, 0))] ?_
 have hN1 := FamOk.mono (FamOk.add (FamOk.nil (c := cI64) (H := H))) hl1; have hN2 := FamOk.mono (FamOk.add (FamOk.nil (c := cAr) (H := H))) hl1
 refine Seg.own (O := .blk B3 (.cells #[(.slice none 0 0)] 32 (0, 0)) :: .blk B2 (.cells #[(.int .i64 a0.kind), (w64 (word a0.set 0)), (w64 (word a0.set 1)), (w64 (word a0.set 2)), (w64 (word a0.set 3)), v1] 43 (0, 0)) :: .blk B4 (.cells #[v3, v4, (.int .i64 0)] 61 (0, 0)) :: .row v3 66 1 (famV (([] : Fam Int) ++ [(Value.slice none 0 0, [], [])])).length (famV (([] : Fam Int) ++ [(Value.slice none 0 0, [], [])])) :: .row v4 78 1 (famV (([] : Fam (BSet × Int × Int)) ++ [(Value.slice none 0 0, [], [])])).length (famV (([] : Fam (BSet × Int × Int)) ++ [(Value.slice none 0 0, [], [])])) :: (famR 3 1 (([] : Fam Int) ++ [(Value.slice none 0 0, [], [])]) ++ (famR 80 6 (([] : Fam (BSet × Int × Int)) ++ [(Value.slice none 0 0, [], [])]) ++ O))) ?_ rfl
 refine Seg.op (OpT.move rfl) rfl <| Seg.netOut [.blk B3 (.cells #[(.slice none 0 0)] 32 (0, 0)), .blk B2 (.cells #[(.int .i64 a0.kind), (w64 (word a0.set 0)), (w64 (word a0.set 1)), (w64 (word a0.set 2)), (w64 (word a0.set 3)), v1] 43 (0, 0))] <| Seg.opS (OpS.call ent26 rfl (state_w hN1 hN2 ha3 ha4)) rfl ?_
 rintro _ H2 _ hl2 ⟨v5, v6, rfl, rfl⟩
 refine Seg.netIn [.blk B3 (.cells #[(.slice none 0 0)] 32 (0, 0)), .blk B2 (.cells #[(.int .i64 a0.kind), (w64 (word a0.set 0)), (w64 (word a0.set 1)), (w64 (word a0.set 2)), (w64 (word a0.set 3)), v1] 43 (0, 0))] ?_
 have hN3 := FamOk.mono (FamOk.add hN1) hl2; have hN4 := FamOk.mono (FamOk.add hN2) hl2
 refine Seg.own (O := .blk B3 (.cells #[(.slice none 0 0)] 32 (0, 0)) :: .blk B2 (.cells #[(.int .i64 a0.kind), (w64 (word a0.set 0)), (w64 (word a0.set 1)), (w64 (word a0.set 2)), (w64 (word a0.set 3)), v1] 43 (0, 0)) :: .blk B4 (.cells #[v5, v6, (.int .i64 0)] 61 (0, 0)) :: .row v5 66 1 (famV ((([] : Fam Int) ++ [(Value.slice none 0 0, [], [])]) ++ [(Value.slice none 0 0, [], [])])).length (famV ((([] : Fam Int) ++ [(Value.slice none 0 0, [], [])]) ++ [(Value.slice none 0 0, [], [])])) :: .row v6 78 1 (famV ((([] : Fam (BSet × Int × Int)) ++ [(Value.slice none 0 0, [], [])]) ++ [(Value.slice none 0 0, [], [])])).length (famV ((([] : Fam (BSet × Int × Int)) ++ [(Value.slice none 0 0, [], [])]) ++ [(Value.slice none 0 0, [], [])])) :: (famR 3 1 ((([] : Fam Int) ++ [(Value.slice none 0 0, [], [])]) ++ [(Value.slice none 0 0, [], [])]) ++ (famR 80 6 ((([] : Fam (BSet × Int × Int)) ++ [(Value.slice none 0 0, [], [])]) ++ [(Value.slice none 0 0, [], [])]) ++ O))) ?_ rfl
 refine Seg.op (OpT.assign rfl) rfl <| Seg.op (OpT.assign rfl) rfl <| Seg.nilT <| Wp.seq ?_
 obtain ⟨x2, hx2, hd⟩ := bnd_some hd
 refine Wp.region <| Seg.op (OpT.move rfl) rfl <| Seg.op (OpT.ldBlkW (i := 1) u43 rfl ti43 rfl rfl rfl) rfl <| Seg.op (OpT.move rfl) rfl <| Seg.op (OpT.move rfl) rfl <| Seg.netOut [.blk B3 (.cells #[(.slice none 0 0)] 32 (0, 0)), .blk B2 (.cells #[(.int .i64 a0.kind), (w64 (word a0.set 0)), (w64 (word a0.set 1)), (w64 (word a0.set 2)), (w64 (word a0.set 3)), v1] 43 (0, 0))] <| Seg.opS (OpS.call ent27 rfl (au_net_add_w (a0 := (((([] : List (List Int)) ++ [[]]) ++ [[]]), ((([] : List (List (BSet × Int × Int))) ++ [[]]) ++ [[]]), 0)) hN3 hN4 (hv1.mono (hl1.trans hl2)) hx2)) rfl ?_
 rintro _ H3 _ hl3 ⟨v7, v8, F1, G1, rfl, hN5, hN6, rfl⟩
 refine Seg.netIn [.blk B3 (.cells #[(.slice none 0 0)] 32 (0, 0)), .blk B2 (.cells #[(.int .i64 a0.kind), (w64 (word a0.set 0)), (w64 (word a0.set 1)), (w64 (word a0.set 2)), (w64 (word a0.set 3)), v1] 43 (0, 0))] ?_
 refine Seg.own (O := .blk B3 (.cells #[(.slice none 0 0)] 32 (0, 0)) :: .blk B2 (.cells #[(.int .i64 a0.kind), (w64 (word a0.set 0)), (w64 (word a0.set 1)), (w64 (word a0.set 2)), (w64 (word a0.set 3)), v1] 43 (0, 0)) :: .blk B4 (.cells #[v7, v8, (.int .i64 x2.2.2)] 61 (0, 0)) :: .row v7 66 1 (famV F1).length (famV F1) :: .row v8 78 1 (famV G1).length (famV G1) :: (famR 3 1 F1 ++ (famR 80 6 G1 ++ O))) ?_ rfl
 refine Seg.nilT <| Wp.seq <| Wp.seq ?_
 obtain ⟨x3, hx3, hd⟩ := bnd_some hd
 refine Wp.region <| Seg.op (OpT.move rfl) rfl <| Seg.op (OpT.move rfl) rfl <| Seg.freezeFam (c := cI64) [.blk B3 (.cells #[(.slice none 0 0)] 32 (0, 0)), .blk B2 (.cells #[(.int .i64 a0.kind), (w64 (word a0.set 0)), (w64 (word a0.set 1)), (w64 (word a0.set 2)), (w64 (word a0.set 3)), v1] 43 (0, 0)), .blk B4 (.cells #[v7, v8, (.int .i64 x2.2.2)] 61 (0, 0)), .row v7 66 1 (famV F1).length (famV F1), .row v8 78 1 (famV G1).length (famV G1)] hN5 fun H4 hl4 hq1 => Seg.freezeFam (c := cAr) [.blk B3 (.cells #[(.slice none 0 0)] 32 (0, 0)), .blk B2 (.cells #[(.int .i64 a0.kind), (w64 (word a0.set 0)), (w64 (word a0.set 1)), (w64 (word a0.set 2)), (w64 (word a0.set 3)), v1] 43 (0, 0)), .blk B4 (.cells #[v7, v8, (.int .i64 x2.2.2)] 61 (0, 0)), .row v7 66 1 (famV F1).length (famV F1), .row v8 78 1 (famV G1).length (famV G1)] (FamOk.mono hN6 hl4) fun H5 hl5 hq2 => ?_
 refine Seg.own (O := .blk B3 (.cells #[(.slice none 0 0)] 32 (0, 0)) :: .blk B2 (.cells #[(.int .i64 a0.kind), (w64 (word a0.set 0)), (w64 (word a0.set 1)), (w64 (word a0.set 2)), (w64 (word a0.set 3)), v1] 43 (0, 0)) :: .blk B4 (.cells #[v7, v8, (.int .i64 x2.2.2)] 61 (0, 0)) :: .row v7 66 1 x2.1.length (famV F1) :: .row v8 78 1 x2.2.1.length (famV G1) :: O) ?_ (by rw [famV_len hN5, famV_len hN6] <;> rfl)
 refine Seg.rowLe (i := 3) rfl fun hb2 => ?_
 refine Seg.freeze (i := 3) rfl fun H6 hl6 hs1 => ?_
 have hv2 := SlD.of (c := (cL cI64)) hs1 rfl ((hq1.mono hl5).mono hl6) hb2
 refine Seg.rowLe (i := 3) rfl fun hb3 => ?_
 refine Seg.freeze (i := 3) rfl fun H7 hl7 hs2 => ?_
 have hv3 := SlD.of (c := (cL (cP cBs (cP cI64 cI64)))) hs2 rfl ((hq2.mono hl6).mono hl7) hb3
 refine Seg.op (OpT.call ent28 rfl (TriV.at 2 rfl (au_net_many_w (hv2.mono hl7) hv3 (hG.mono ((((((hl1.trans hl2).trans hl3).trans hl4).trans hl5).trans hl6).trans hl7)) hx3))) rfl <| Seg.nilT ?_
 refine Wp.cond (b := x3) rfl (fun hb4 => ?_) (fun hb4 => ?_)
 ·
  replace hd := brT hb4 hd
  refine Wp.sr <| Seg.op (OpT.buildS (vs := []) (cs := #[(.slice none 0 0)]) plf32 ti32 rfl rfl (vc_nil) rfl) rfl <| Seg.stBlkW (i := 0) (cs' := #[(.slice none 0 0)]) rfl rfl ti32 rfl rfl (onesA (ones_cons rfl (ones_nil))) rfl ?_
  refine Seg.own (O := .blk B3 (.cells #[(.slice none 0 0)] 32 (0, 0)) :: .blk B2 (.cells #[(.int .i64 a0.kind), (w64 (word a0.set 0)), (w64 (word a0.set 1)), (w64 (word a0.set 2)), (w64 (word a0.set 3)), v1] 43 (0, 0)) :: .blk B4 (.cells #[v7, v8, (.int .i64 x2.2.2)] 61 (0, 0)) :: O) ?_ rfl
  refine Seg.op (OpT.assign rfl) rfl <| Seg.nilT <| Wp.ret <| At.then_r ?_
  obtain rfl := Option.some.inj hd
  exact At.res2 rfl (RV.cellA (i := 0) rfl u32 rfl ti32 rfl rfl) (RV.tmp (v := (.int .i64 10)) rfl) (fun w hs => ⟨_, _, _, rfl, ((((((hl1.trans hl2).trans hl3).trans hl4).trans hl5).trans hl6).trans hl7), (hs.dropN 3), ⟨⟨(.slice none 0 0), rfl, SlD.nil⟩, rfl⟩⟩)
 replace hd := brF hb4 hd
 refine Wp.skip <| At.then_n <| Wp.seq ?_
 obtain ⟨x4, hx4, hd⟩ := bnd_some hd
 obtain ⟨x5, hx5, hd⟩ := bnd_some hd
 refine Wp.region <| Seg.op (OpT.move rfl) rfl <| Seg.op (OpT.move rfl) rfl <| Seg.op (OpT.move rfl) rfl <| Seg.opS (OpS.call ent29 rfl (Tri.atR 2 rfl (au_net_determine_w (hv2.mono hl7) hv3 (hG.mono ((((((hl1.trans hl2).trans hl3).trans hl4).trans hl5).trans hl6).trans hl7)) hx4))) rfl ?_
 rintro _ H8 _ hl8 ⟨⟨v9, rfl, hv4⟩, rfl⟩
 refine Seg.opS (OpS.call ent9 rfl (au_Minimal_w hv4 (hG.mono (((((((hl1.trans hl2).trans hl3).trans hl4).trans hl5).trans hl6).trans hl7).trans hl8)) hx5)) rfl ?_
 rintro _ H9 _ hl9 ⟨⟨v10, rfl, hv5⟩, rfl⟩
 refine Seg.op (OpT.move rfl) rfl <| Seg.op (OpT.extract rfl rfl) rfl <| Seg.op (OpT.extract rfl rfl) rfl <| Seg.alloc (cs := #[(.slice none 0 0)]) ti32 rfl rfl fun B5 => Seg.stBlkW (i := 0) (cs' := #[v10]) rfl rfl ti32 rfl rfl (onesA (ones_cons hv5.one (ones_nil))) rfl ?_
 refine Seg.own (O := .blk B5 (.cells #[v10] 32 (0, 0)) :: .blk B3 (.cells #[(.slice none 0 0)] 32 (0, 0)) :: .blk B2 (.cells #[(.int .i64 a0.kind), (w64 (word a0.set 0)), (w64 (word a0.set 1)), (w64 (word a0.set 2)), (w64 (word a0.set 3)), v1] 43 (0, 0)) :: .blk B4 (.cells #[v7, v8, (.int .i64 x2.2.2)] 61 (0, 0)) :: O) ?_ rfl
 refine Seg.op (OpT.assign rfl) rfl <| Seg.nilT <| Wp.seq <| Wp.sr <| Seg.op (OpT.fld (o' := 0) fl32_0 rfl rfl) rfl <| Seg.op (OpT.ldBlk (i := 0) (v := v10) u22 rfl rfl rfl rfl) rfl ?_
 have hb5 := hv5.le
 refine Seg.op (OpT.len u22 rfl hv5.sl) rfl <| Seg.op (OpT.gtr rfl rfl) rfl <| Seg.nilT ?_
 refine Wp.cond (b := decide (200 < (x5.1.length:Int))) rfl (fun hb6 => ?_) (fun hb6 => ?_)
 ·
  replace hd := brT hb6 hd
  replace hb6 := of_decide_eq_true hb6
  refine Wp.sr <| Seg.op (OpT.buildS (vs := []) (cs := #[(.slice none 0 0)]) plf32 ti32 rfl rfl (vc_nil) rfl) rfl <| Seg.stBlkW (i := 1) (cs' := #[(.slice none 0 0)]) rfl rfl ti32 rfl rfl (onesA (ones_cons rfl (ones_nil))) rfl ?_
  refine Seg.own (O := .blk B5 (.cells #[v10] 32 (0, 0)) :: .blk B3 (.cells #[(.slice none 0 0)] 32 (0, 0)) :: .blk B2 (.cells #[(.int .i64 a0.kind), (w64 (word a0.set 0)), (w64 (word a0.set 1)), (w64 (word a0.set 2)), (w64 (word a0.set 3)), v1] 43 (0, 0)) :: .blk B4 (.cells #[v7, v8, (.int .i64 x2.2.2)] 61 (0, 0)) :: O) ?_ rfl
  refine Seg.op (OpT.assign rfl) rfl <| Seg.nilT <| Wp.ret <| At.then_r ?_
  obtain rfl := Option.some.inj hd
  exact At.res2 rfl (RV.cellA (i := 1) rfl u32 rfl ti32 rfl rfl) (RV.tmp (v := (.int .i64 10)) rfl) (fun w hs => ⟨_, _, _, rfl, ((((((((hl1.trans hl2).trans hl3).trans hl4).trans hl5).trans hl6).trans hl7).trans hl8).trans hl9), (hs.dropN 4), ⟨⟨(.slice none 0 0), rfl, SlD.nil⟩, rfl⟩⟩)
 replace hd := brF hb6 hd
 replace hb6 := of_decide_eq_false hb6
 refine Wp.skip <| At.then_n <| Wp.sr <| Seg.op (OpT.ldBlkW (i := 0) u32 rfl ti32 rfl rfl rfl) rfl <| Seg.stBlkW (i := 1) (cs' := #[v10]) rfl rfl ti32 rfl rfl (onesA (ones_cons hv5.one (ones_nil))) rfl ?_
 refine Seg.own (O := .blk B5 (.cells #[v10] 32 (0, 0)) :: .blk B3 (.cells #[v10] 32 (0, 0)) :: .blk B2 (.cells #[(.int .i64 a0.kind), (w64 (word a0.set 0)), (w64 (word a0.set 1)), (w64 (word a0.set 2)), (w64 (word a0.set 3)), v1] 43 (0, 0)) :: .blk B4 (.cells #[v7, v8, (.int .i64 x2.2.2)] 61 (0, 0)) :: O) ?_ rfl
 refine Seg.op (OpT.assign rfl) rfl <| Seg.nilT <| Wp.ret ?_
 obtain rfl := Option.some.inj hd
 exact At.res2 rfl (RV.cellA (i := 1) rfl u32 rfl ti32 rfl rfl) (RV.tmp (v := (.int .i64 0)) rfl) (fun w hs => ⟨_, _, _, rfl, ((((((((hl1.trans hl2).trans hl3).trans hl4).trans hl5).trans hl6).trans hl7).trans hl8).trans hl9), (hs.dropN 4), ⟨⟨v10, rfl, hv5⟩, rfl⟩⟩)

set_option maxRecDepth 100000 in
set_option maxHeartbeats 4000000 in
theorem w05_letters_w {fu : Nat} {a0 : Int} {r : Rx} (hr1 : 0 ≤ a0) (hr2 : a0 ≤ 255) (hd : w05_letters fu a0 = some r) :
    Tri Tryd.prog 11 [(.int .u8 a0)] H O (fun v H' O' => (∃ v1 : Value, (.agg #[(.int .i64 r.kind), (w64 (word r.set 0)), (w64 (word r.set 1)), (w64 (word r.set 2)), (w64 (word r.set 3)), v1]) = v ∧ SlD cRx H' r.subs v1) ∧ O = O') := by
 intro w hs
 refine wp_of Tryd.func11 rfl rfl rfl ?_ hs
 clear hs w
 unfold w05_letters at hd
 refine Wp.sr <| Seg.alloc (cs := #[(.int .i64 0), (w64 (word (fun _ => false) 0)), (w64 (word (fun _ => false) 1)), (w64 (word (fun _ => false) 2)), (w64 (word (fun _ => false) 3)), (.slice none 0 0)]) ti43 (by simp only [zw]; rfl) rfl fun B2 => Seg.nilT <| Wp.sr <| Seg.op (OpT.buildS (vs := [(0, (.int .i64 2))]) (cs := #[(.int .i64 2), (w64 (word (fun _ => false) 0)), (w64 (word (fun _ => false) 1)), (w64 (word (fun _ => false) 2)), (w64 (word (fun _ => false) 3)), (.slice none 0 0)]) plf43 ti43 rfl rfl (vc_cons rfl (vc_nil)) (by simp only [zw]; rfl)) rfl <| Seg.alloc (cs := #[(.int .i64 0), (w64 (word (fun _ => false) 0)), (w64 (word (fun _ => false) 1)), (w64 (word (fun _ => false) 2)), (w64 (word (fun _ => false) 3)), (.slice none 0 0)]) ti43 (by simp only [zw]; rfl) rfl fun B3 => Seg.stBlkW (i := 0) (cs' := #[(.int .i64 2), (w64 (word (fun _ => false) 0)), (w64 (word (fun _ => false) 1)), (w64 (word (fun _ => false) 2)), (w64 (word (fun _ => false) 3)), (.slice none 0 0)]) rfl rfl ti43 rfl rfl (onesA (ones_cons rfl (ones_cons rfl (ones_cons rfl (ones_cons rfl (ones_cons rfl (ones_cons rfl (ones_nil)))))))) rfl ?_
 refine Seg.own (O := .blk B3 (.cells #[(.int .i64 2), (w64 (word (fun _ => false) 0)), (w64 (word (fun _ => false) 1)), (w64 (word (fun _ => false) 2)), (w64 (word (fun _ => false) 3)), (.slice none 0 0)] 43 (0, 0)) :: .blk B2 (.cells #[(.int .i64 0), (w64 (word (fun _ => false) 0)), (w64 (word (fun _ => false) 1)), (w64 (word (fun _ => false) 2)), (w64 (word (fun _ => false) 3)), (.slice none 0 0)] 43 (0, 0)) :: O) ?_ rfl
 refine Seg.nilT <| Wp.seq <| Wp.sr <| Seg.op (OpT.assign rfl) rfl <| Seg.nilT <| Wp.block <| Wp.loopF (fun m LL HH OO => ∃ (i1 : Int), ∃ (w28 : BitVec 64), [(0, (.int .u8 a0)), (2, (ptr B2 0)), (3, (ptr B3 0)), (4, (.int .u8 i1))] = LL ∧ .blk B3 (.cells #[(.int .i64 2), (w64 (word (fun _ => false) 0)), (w64 w28), (w64 (word (fun _ => false) 2)), (w64 (word (fun _ => false) 3)), (.slice none 0 0)] 43 (0, 0)) :: .blk B2 (.cells #[(.int .i64 0), (w64 (word (fun _ => false) 0)), (w64 (word (fun _ => false) 1)), (w64 (word (fun _ => false) 2)), (w64 (word (fun _ => false) 3)), (.slice none 0 0)] 43 (0, 0)) :: O = OO ∧ loopK m (fun p nx => w05_letters_b1 fu a0 p.1 p.2 nx) (i1, w28) = some r ∧ 0 ≤ i1 ∧ i1 ≤ 255) fu ⟨97, (word (fun _ => false) 1), rfl, rfl, hd, by omega⟩ (Sub.of rfl) ?_
 intro m1 L1 H1 O1 hl1 hI1
 obtain ⟨i1, w28, rfl, rfl, hd, hr3⟩ := hI1
 replace hd := loopK_some hd; obtain ⟨m2, rfl, hd⟩ := hd
 obtain ⟨nx1, hn1⟩ : ∃ f, f = loopK m2 (fun p nx => w05_letters_b1 fu a0 p.1 p.2 nx) := ⟨_, rfl⟩
 rw [← hn1] at hd
 replace hd : w05_letters_b1 fu a0 i1 w28 nx1 = some r := hd
 unfold w05_letters_b1 at hd
 refine Wp.seq <| Wp.seq ?_
 rcases Bool.eq_false_or_eq_true (decide (i1 ≤ a0)) with hg1 | hg1
 ·
  replace hd := brT hg1 hd
  have hg1_ := of_decide_eq_true hg1
  refine Wp.region <| Seg.op (OpT.move rfl) rfl <| Seg.op (OpT.move rfl) rfl <| Seg.op (OpT.asB (b := decide (i1 ≤ a0)) (c := true) (OpT.leq rfl rfl) hg1) rfl <| Seg.op (OpT.move rfl) rfl <| Seg.opG rfl rfl (OpT.move rfl) rfl <| Seg.opG rfl rfl (OpT.lss rfl rfl) rfl <| Seg.op (OpT.pickT rfl rfl) rfl ?_
  refine Seg.nilT ?_
  refine Wp.cond (b := decide (i1 < 104)) rfl (fun hb1 => ?_) (fun hb1 => ?_)
  ·
   replace hd := brT hb1 hd
   replace hb1 := of_decide_eq_true hb1
   refine Wp.skip <| At.then_n <| Wp.seq <| Wp.block ?_
   obtain ⟨ha1, hd⟩ := chk_some hd
   refine Wp.region <| Seg.op (OpT.fld (o' := 1) fl43_1 rfl rfl) rfl <| Seg.op (OpT.ixArr (off' := 2) u40 ti38 rfl rfl (by decide) rfl) rfl <| Seg.op (OpT.ldBlk (i := 0) (v := (w64 w28)) u38 rfl rfl rfl rfl) rfl <| Seg.op (OpT.move rfl) rfl <| Seg.op (OpT.sub rfl rfl (fitsU8 ha1)) rfl <| Seg.op (OpT.shlI (a := 1#64) rfl rfl (by omega)) rfl <| Seg.op (OpT.addBv (a := w28) (b := (1#64) <<< (i1 - 64).toNat) rfl rfl) rfl ?_
   refine Seg.op (OpT.fld (o' := 1) fl43_1 rfl rfl) rfl <| Seg.op (OpT.ixArr (off' := 2) u40 ti38 rfl rfl (by decide) rfl) rfl <| Seg.stBlk1 (i := 0) rfl rfl rfl ti38 rfl (Nat.le_of_ble_eq_true rfl) ?_
   refine Seg.own (O := .blk B3 (.cells #[(.int .i64 2), (w64 (word (fun _ => false) 0)), (w64 (w28 + ((1#64) <<< (i1 - 64).toNat))), (w64 (word (fun _ => false) 2)), (w64 (word (fun _ => false) 3)), (.slice none 0 0)] 43 (0, 0)) :: .blk B2 (.cells #[(.int .i64 0), (w64 (word (fun _ => false) 0)), (w64 (word (fun _ => false) 1)), (w64 (word (fun _ => false) 2)), (w64 (word (fun _ => false) 3)), (.slice none 0 0)] 43 (0, 0)) :: O) ?_ rfl
   refine Seg.nil <| At.blk_n <| At.then_n ?_
   obtain ⟨ha2, hd⟩ := chk_some hd
   refine Wp.region <| Seg.op (OpT.move rfl) rfl <| Seg.op (OpT.add rfl rfl (fitsU8 ha2)) rfl <| Seg.op (OpT.assign rfl) rfl <| Seg.nil ?_
   refine At.nextF (Hp.le.refl _) ⟨(i1 + 1), (w28 + ((1#64) <<< (i1 - 64).toNat)), rfl, rfl, (by rw [← hn1]; exact hd), by omega⟩ (Sub.of rfl)
  replace hd := brF hb1 hd
  replace hb1 := of_decide_eq_false hb1
  refine Wp.exit <| At.then_x <| At.then_x <| At.blk_hit <| At.then_n <| Wp.sr <| Seg.op (OpT.ldBlkW (i := 0) u43 rfl ti43 rfl rfl rfl) rfl <| Seg.stBlkW (i := 1) (cs' := #[(.int .i64 2), (w64 (word (fun _ => false) 0)), (w64 w28), (w64 (word (fun _ => false) 2)), (w64 (word (fun _ => false) 3)), (.slice none 0 0)]) rfl rfl ti43 rfl rfl (onesA (ones_cons rfl (ones_cons rfl (ones_cons rfl (ones_cons rfl (ones_cons rfl (ones_cons rfl (ones_nil)))))))) rfl ?_
  refine Seg.own (O := .blk B3 (.cells #[(.int .i64 2), (w64 (word (fun _ => false) 0)), (w64 w28), (w64 (word (fun _ => false) 2)), (w64 (word (fun _ => false) 3)), (.slice none 0 0)] 43 (0, 0)) :: .blk B2 (.cells #[(.int .i64 2), (w64 (word (fun _ => false) 0)), (w64 w28), (w64 (word (fun _ => false) 2)), (w64 (word (fun _ => false) 3)), (.slice none 0 0)] 43 (0, 0)) :: O) ?_ rfl
  refine Seg.nilT <| Wp.ret ?_
  obtain rfl := Option.some.inj hd
  exact At.res1 rfl (RV.cellA (i := 1) rfl u43 rfl ti43 rfl rfl) (fun w hs => ⟨_, _, _, rfl, hl1, (hs.dropN 2), ⟨⟨(.slice none 0 0), (by simp only [Rx.kind, Rx.set, Rx.subs, wbits0, wbits1, wbits2, wbits3]), SlD.nil⟩, rfl⟩⟩)
 replace hd := brF hg1 hd
 have hg1_ := of_decide_eq_false hg1
 refine Wp.region <| Seg.op (OpT.move rfl) rfl <| Seg.op (OpT.move rfl) rfl <| Seg.op (OpT.asB (b := decide (i1 ≤ a0)) (c := false) (OpT.leq rfl rfl) hg1) rfl <| Seg.op (OpT.move rfl) rfl <| Seg.skipG rfl rfl rfl rfl <| Seg.skipG rfl rfl rfl rfl <| Seg.op (OpT.pickF rfl rfl) rfl ?_
 refine Seg.nilT <| Wp.condF rfl <| Wp.exit <| At.then_x <| At.then_x <| At.blk_hit <| At.then_n <| Wp.sr ?_
 refine Seg.op (OpT.ldBlkW (i := 0) u43 rfl ti43 rfl rfl rfl) rfl <| Seg.stBlkW (i := 1) (cs' := #[(.int .i64 2), (w64 (word (fun _ => false) 0)), (w64 w28), (w64 (word (fun _ => false) 2)), (w64 (word (fun _ => false) 3)), (.slice none 0 0)]) rfl rfl ti43 rfl rfl (onesA (ones_cons rfl (ones_cons rfl (ones_cons rfl (ones_cons rfl (ones_cons rfl (ones_cons rfl (ones_nil)))))))) rfl ?_
 refine Seg.own (O := .blk B3 (.cells #[(.int .i64 2), (w64 (word (fun _ => false) 0)), (w64 w28), (w64 (word (fun _ => false) 2)), (w64 (word (fun _ => false) 3)), (.slice none 0 0)] 43 (0, 0)) :: .blk B2 (.cells #[(.int .i64 2), (w64 (word (fun _ => false) 0)), (w64 w28), (w64 (word (fun _ => false) 2)), (w64 (word (fun _ => false) 3)), (.slice none 0 0)] 43 (0, 0)) :: O) ?_ rfl
 refine Seg.nilT <| Wp.ret ?_
 obtain rfl := Option.some.inj hd
 exact At.res1 rfl (RV.cellA (i := 1) rfl u43 rfl ti43 rfl rfl) (fun w hs => ⟨_, _, _, rfl, hl1, (hs.dropN 2), ⟨⟨(.slice none 0 0), (by simp only [Rx.kind, Rx.set, Rx.subs, wbits0, wbits1, wbits2, wbits3]), SlD.nil⟩, rfl⟩⟩)

set_option maxRecDepth 100000 in
set_option maxHeartbeats 4000000 in
theorem w05_alive_w {fu : Nat} {r : Bool} (hG : LaidH Tryd.prog H) (hd : w05_alive fu = some r) :
    TriV Tryd.prog 7 [] H O (.bool r) := by
 intro w hs
 refine wp_of Tryd.func7 rfl rfl rfl ?_ hs
 clear hs w
 unfold w05_alive at hd
 refine Wp.sr <| Seg.op (OpT.assign rfl) rfl <| Seg.nilT <| Wp.sr <| Seg.op (OpT.buildS (vs := [(0, (.int .i64 2))]) (cs := #[(.int .i64 2), (w64 (word (fun _ => false) 0)), (w64 (word (fun _ => false) 1)), (w64 (word (fun _ => false) 2)), (w64 (word (fun _ => false) 3)), (.slice none 0 0)]) plf43 ti43 rfl rfl (vc_cons rfl (vc_nil)) (by simp only [zw]; rfl)) rfl <| Seg.alloc (cs := #[(.int .i64 0), (w64 (word (fun _ => false) 0)), (w64 (word (fun _ => false) 1)), (w64 (word (fun _ => false) 2)), (w64 (word (fun _ => false) 3)), (.slice none 0 0)]) ti43 (by simp only [zw]; rfl) rfl fun B2 => Seg.stBlkW (i := 0) (cs' := #[(.int .i64 2), (w64 (word (fun _ => false) 0)), (w64 (word (fun _ => false) 1)), (w64 (word (fun _ => false) 2)), (w64 (word (fun _ => false) 3)), (.slice none 0 0)]) rfl rfl ti43 rfl rfl (onesA (ones_cons rfl (ones_cons rfl (ones_cons rfl (ones_cons rfl (ones_cons rfl (ones_cons rfl (ones_nil)))))))) rfl ?_
 refine Seg.own (O := .blk B2 (.cells #[(.int .i64 2), (w64 (word (fun _ => false) 0)), (w64 (word (fun _ => false) 1)), (w64 (word (fun _ => false) 2)), (w64 (word (fun _ => false) 3)), (.slice none 0 0)] 43 (0, 0)) :: O) ?_ rfl
 refine Seg.nilT <| Wp.sr <| Seg.op (OpT.fld (o' := 1) fl43_1 rfl rfl) rfl <| Seg.op (OpT.ixArr (off' := 2) u40 ti38 rfl rfl (by decide) rfl) rfl <| Seg.stBlk1 (i := 0) rfl rfl rfl ti38 rfl (Nat.le_of_ble_eq_true rfl) ?_
 refine Seg.own (O := .blk B2 (.cells #[(.int .i64 2), (w64 (word (fun _ => false) 0)), (w64 (17179869184#64)), (w64 (word (fun _ => false) 2)), (w64 (word (fun _ => false) 3)), (.slice none 0 0)] 43 (0, 0)) :: O) ?_ rfl
 refine Seg.nilT <| Wp.seq ?_
 obtain ⟨x1, hx1, hd⟩ := bnd_some hd
 obtain ⟨x2, hx2, hd⟩ := bnd_some hd
 refine Wp.emp <| SegO.runK 2 [⟨[], [], [0]⟩, ⟨[1], [], []⟩, ⟨[], [], [0, 2]⟩, ⟨[], [], [2]⟩, ⟨[], [], [2, 4]⟩, ⟨[], [], [4]⟩, ⟨[], [], [4]⟩, an0, ⟨[0], [0], [8]⟩, ⟨[0], [0], [4, 8]⟩, an0] follows rfl (by kernel_rfl) <| SegO.opF (val := fun p1 => (.agg #[(.int .i64 x1.kind), (w64 (word x1.set 0)), (w64 (word x1.set 1)), (w64 (word x1.set 2)), (w64 (word x1.set 3)), (prj (p1 0) 5)])) (fact := fun p1 HH => SlD cRx HH x1.subs (prj (p1 0) 5)) rfl (fun _ => rfl) (fun _ => rfl) (fun _ _ _ hl h => h.mono hl) (fun _ p1 _ hx hf hy => (OpS.call ent11 rfl (w05_letters_w (by omega) (by omega) hx1)).mono (by rintro v HH OO ⟨⟨v1, rfl, hv1⟩, rfl⟩; exact ⟨rfl, hv1, rfl⟩)) rfl <| SegO.op (val := fun p1 => (.agg #[(.int .i64 2), (w64 (word (fun _ => false) 0)), (w64 (17179869184#64)), (w64 (word (fun _ => false) 2)), (w64 (word (fun _ => false) 3)), (.slice none 0 0)])) rfl rfl (fun _ => rfl) (fun _ p1 _ hx hf hy => OpT.ldBlkW (i := 1) u43 rfl ti43 rfl rfl (hy 1 _ rfl rfl)) rfl <| SegO.opF (val := fun p1 => (p1 2)) (fact := fun p1 HH => SlD cRx HH ([x1, (Rx.mk 2 (bitsOf (word (fun _ => false) 0) (17179869184#64) (word (fun _ => false) 2) (word (fun _ => false) 3)) ([] : List Rx))] : List Rx) (p1 2)) rfl (fun _ => rfl) (fun _ => rfl) (fun _ _ _ hl h => h.mono hl) (fun _ p1 _ hx hf hy => (OpS.buildF2 (len := 2) (c := cRx) (l := ([x1, (Rx.mk 2 (bitsOf (word (fun _ => false) 0) (17179869184#64) (word (fun _ => false) 2) (word (fun _ => false) 3)) ([] : List Rx))] : List Rx)) (z := (.agg #[.int .i64 0, .int .u64 0, .int .u64 0, .int .u64 0, .int .u64 0, .slice none 0 0])) (zs := #[.int .i64 0, .int .u64 0, .int .u64 0, .int .u64 0, .int .u64 0, .slice none 0 0]) (vs := [(0, (.agg #[(.int .i64 x1.kind), (w64 (word x1.set 0)), (w64 (word x1.set 1)), (w64 (word x1.set 2)), (w64 (word x1.set 3)), (prj (p1 0) 5)])), (1, (.agg #[(.int .i64 2), (w64 (word (fun _ => false) 0)), (w64 (17179869184#64)), (w64 (word (fun _ => false) 2)), (w64 (word (fun _ => false) 3)), (.slice none 0 0)]))]) (cs := #[(.int .i64 x1.kind), (w64 (word x1.set 0)), (w64 (word x1.set 1)), (w64 (word x1.set 2)), (w64 (word x1.set 3)), (prj (p1 0) 5), (.int .i64 2), (w64 (word (fun _ => false) 0)), (w64 (17179869184#64)), (w64 (word (fun _ => false) 2)), (w64 (word (fun _ => false) 3)), (.slice none 0 0)]) u41 ti43 rfl rfl rfl rfl (vc_cons rfl (vc_cons rfl (vc_nil))) (by kernel_rfl) rfl rfl (show LayL cRx _ [x1, (Rx.mk 2 (bitsOf (word (fun _ => false) 0) (17179869184#64) (word (fun _ => false) 2) (word (fun _ => false) 3)) ([] : List Rx))] [(.int .i64 x1.kind), (w64 (word x1.set 0)), (w64 (word x1.set 1)), (w64 (word x1.set 2)), (w64 (word x1.set 3)), (prj (p1 0) 5), (.int .i64 2), (w64 (word (fun _ => false) 0)), (w64 (17179869184#64)), (w64 (word (fun _ => false) 2)), (w64 (word (fun _ => false) 3)), (.slice none 0 0)] from ⟨[(.int .i64 x1.kind), (w64 (word x1.set 0)), (w64 (word x1.set 1)), (w64 (word x1.set 2)), (w64 (word x1.set 3)), (prj (p1 0) 5)], _, rfl, (layRx.2 ⟨_, rfl, (hf 0 rfl rfl)⟩), ⟨[(.int .i64 2), (w64 (word (fun _ => false) 0)), (w64 (17179869184#64)), (w64 (word (fun _ => false) 2)), (w64 (word (fun _ => false) 3)), (.slice none 0 0)], _, rfl, (layRx_mkB SlD.nil), rfl⟩⟩)).mono (by rintro v HH OO ⟨rfl, h⟩; exact ⟨rfl, h, rfl⟩)) rfl <| SegO.op (val := fun p1 => (.agg #[(.int .i64 4), (w64 (word (fun _ => false) 0)), (w64 (word (fun _ => false) 1)), (w64 (word (fun _ => false) 2)), (w64 (word (fun _ => false) 3)), (p1 2)])) rfl rfl (fun _ => rfl) (fun _ p1 _ hx hf hy => OpT.buildS (vs := [(0, (.int .i64 4)), (2, (p1 2))]) (cs := #[(.int .i64 4), (w64 (word (fun _ => false) 0)), (w64 (word (fun _ => false) 1)), (w64 (word (fun _ => false) 2)), (w64 (word (fun _ => false) 3)), (p1 2)]) plf43 ti43 rfl rfl (vc_cons rfl (vc_cons (cells1 ((hf 2 rfl rfl).one)) (vc_nil))) (by simp only [zw]; rfl)) rfl <| SegO.opF (val := fun p1 => (.tuple #[(.agg #[(prj (prj (p1 4) 0) 0)]), (.int .i64 x2.2)])) (fact := fun p1 HH => SlD (cP cB (cL (cP cU8 (cP cU8 cI64)))) HH x2.1 (prj (prj (p1 4) 0) 0)) rfl (fun _ => rfl) (fun _ => rfl) (fun _ _ _ hl h => h.mono hl) (fun _ p1 _ hx hf hy => (OpS.call ent12 rfl (au_Of_w (a0 := (Rx.mk 4 (fun _ => false) ([x1, (Rx.mk 2 (bitsOf (word (fun _ => false) 0) (17179869184#64) (word (fun _ => false) 2) (word (fun _ => false) 3)) ([] : List Rx))] : List Rx))) (hf 2 rfl rfl) (hG.mono hx) hx2)).mono (by rintro v HH OO ⟨⟨v2, rfl, hv2⟩, rfl⟩; exact ⟨rfl, hv2, rfl⟩)) rfl <| SegO.op (val := fun p1 => (.tuple #[(.agg #[(prj (prj (p1 4) 0) 0)]), (.int .i64 x2.2)])) rfl rfl (fun _ => rfl) (fun _ p1 _ hx hf hy => OpT.move rfl) rfl ?_
 refine SegO.op (val := fun p1 => (.agg #[(prj (prj (p1 4) 0) 0)])) rfl rfl (fun _ => rfl) (fun _ p1 _ hx hf hy => OpT.extract rfl rfl) rfl <| SegO.op (val := fun p1 => (.int .i64 x2.2)) rfl rfl (fun _ => rfl) (fun _ p1 _ hx hf hy => OpT.extract rfl rfl) rfl <| SegO.op1 (val := fun p1 => ptr (blkOf (p1 8)) 0) (res := fun p1 => .blk (blkOf (p1 8)) (.cells #[(.slice none 0 0)] 32 (0, 0))) 0 rfl rfl (fun _ => rfl) (fun _ => rfl) (fun _ p1 _ hx hf hy => OpS.allocR 0 ti32 rfl (hy 0 _ rfl rfl)) rfl <| SegO.op1n (res := fun p1 => .blk (blkOf (p1 8)) (.cells #[(prj (prj (p1 4) 0) 0)] 32 (0, 0))) 0 rfl rfl rfl (fun _ => rfl) (fun _ p1 _ hx hf hy => OpS.stR (vs := [(prj (prj (p1 4) 0) 0)]) rfl rfl rfl ti32 rfl (ones_cons ((hf 4 rfl rfl).one) (ones_nil)) (hy 0 _ rfl rfl) rfl rfl) <| SegO.op (val := fun p1 => (.int .i64 x2.2)) rfl rfl (fun _ => rfl) (fun _ p1 _ hx hf hy => OpT.assign rfl) rfl <| SegO.done fun H1 p1 hl1 hF1 => ?_
 have hf1 : SlD cRx H1 x1.subs (prj (p1 0) 5) := hF1 0
 have hf2 : SlD cRx H1 ([x1, (Rx.mk 2 (bitsOf (word (fun _ => false) 0) (17179869184#64) (word (fun _ => false) 2) (word (fun _ => false) 3)) ([] : List Rx))] : List Rx) (p1 2) := hF1 2
 have hf3 : SlD (cP cB (cL (cP cU8 (cP cU8 cI64)))) H1 x2.1 (prj (prj (p1 4) 0) 0) := hF1 4
 refine At.sub (L' := [(2, (ptr (blkOf (p1 8)) 0)), (3, (.int .i64 x2.2))]) (Sub.of rfl) ?_
 refine At.own (O := .blk (blkOf (p1 8)) (.cells #[(prj (prj (p1 4) 0) 0)] 32 (0, 0)) :: .blk B2 (.cells #[(.int .i64 2), (w64 (word (fun _ => false) 0)), (w64 (17179869184#64)), (w64 (word (fun _ => false) 2)), (w64 (word (fun _ => false) 3)), (.slice none 0 0)] 43 (0, 0)) :: O) ?_ (by first | rfl | (simp only [List.length_append, List.length_set]; rfl) | simp)
 refine At.then_n <| Wp.seq ?_
 obtain ⟨x3, hx3, hd⟩ := bnd_some hd
 obtain ⟨x4, hx4, hd⟩ := bnd_some hd
 refine Wp.region <| Seg.opS (OpS.call ent11 rfl (w05_letters_w (by omega) (by omega) hx3)) rfl ?_
 rintro _ H2 _ hl2 ⟨⟨v3, rfl, hv3⟩, rfl⟩
 refine Seg.opS (OpS.call ent12 rfl (au_Of_w hv3 (hG.mono (hl1.trans hl2)) hx4)) rfl ?_
 rintro _ H3 _ hl3 ⟨⟨v4, rfl, hv4⟩, rfl⟩
 refine Seg.op (OpT.move rfl) rfl <| Seg.op (OpT.extract rfl rfl) rfl <| Seg.op (OpT.extract rfl rfl) rfl <| Seg.alloc (cs := #[(.slice none 0 0)]) ti32 rfl rfl fun B3 => Seg.stBlkW (i := 0) (cs' := #[v4]) rfl rfl ti32 rfl rfl (onesA (ones_cons hv4.one (ones_nil))) rfl ?_
 refine Seg.own (O := .blk B3 (.cells #[v4] 32 (0, 0)) :: .blk (blkOf (p1 8)) (.cells #[(prj (prj (p1 4) 0) 0)] 32 (0, 0)) :: .blk B2 (.cells #[(.int .i64 2), (w64 (word (fun _ => false) 0)), (w64 (17179869184#64)), (w64 (word (fun _ => false) 2)), (w64 (word (fun _ => false) 3)), (.slice none 0 0)] 43 (0, 0)) :: O) ?_ rfl
 refine Seg.op (OpT.assign rfl) rfl <| Seg.nilT <| Wp.seq ?_
 obtain ⟨x5, hx5, hd⟩ := bnd_some hd
 refine Wp.region <| Seg.op (OpT.buildS (vs := []) (cs := #[(.bool false), (.slice none 0 0)]) plf30 ti30 rfl rfl (vc_nil) rfl) rfl <| Seg.buildD1 (c := (cP cB (cL (cP cU8 (cP cU8 cI64))))) (y := (false, ([] : List (Int × Int × Int)))) (cs := [(.bool false), (.slice none 0 0)]) u22 ti30 rfl rfl rfl rfl (⟨[(.bool false)], [(.slice none 0 0)], rfl, rfl, ⟨_, rfl, SlD.nil⟩⟩) rfl fun v5 xs1 hq1 => ?_
 refine Seg.rowLe (i := 0) rfl fun hb1 => ?_
 refine Seg.freeze (i := 0) rfl fun H4 hl4 hs1 => ?_
 have hv5 := SlD.of (c := (cP cB (cL (cP cU8 (cP cU8 cI64))))) hs1 rfl (hq1.mono hl4) hb1
 refine Seg.opS (OpS.call ent9 rfl (au_Minimal_w hv5 (hG.mono (((hl1.trans hl2).trans hl3).trans hl4)) hx5)) rfl ?_
 rintro _ H5 _ hl5 ⟨⟨v6, rfl, hv6⟩, rfl⟩
 refine Seg.op (OpT.move rfl) rfl <| Seg.op (OpT.extract rfl rfl) rfl <| Seg.op (OpT.extract rfl rfl) rfl <| Seg.alloc (cs := #[(.slice none 0 0)]) ti32 rfl rfl fun B4 => Seg.stBlkW (i := 0) (cs' := #[v6]) rfl rfl ti32 rfl rfl (onesA (ones_cons hv6.one (ones_nil))) rfl ?_
 refine Seg.own (O := .blk B4 (.cells #[v6] 32 (0, 0)) :: .blk B3 (.cells #[v4] 32 (0, 0)) :: .blk (blkOf (p1 8)) (.cells #[(prj (prj (p1 4) 0) 0)] 32 (0, 0)) :: .blk B2 (.cells #[(.int .i64 2), (w64 (word (fun _ => false) 0)), (w64 (17179869184#64)), (w64 (word (fun _ => false) 2)), (w64 (word (fun _ => false) 3)), (.slice none 0 0)] 43 (0, 0)) :: O) ?_ rfl
 refine Seg.op (OpT.assign rfl) rfl <| Seg.nilT <| Wp.seq ?_
 obtain ⟨x6, hx6, hd⟩ := bnd_some hd
 refine Wp.region <| Seg.op (OpT.buildS (vs := [(0, (.int .u8 2)), (1, (.int .u8 1))]) (cs := #[(.int .u8 2), (.int .u8 1), (.int .i64 0)]) plf27 ti27 rfl rfl (vc_cons rfl (vc_cons rfl (vc_nil))) rfl) rfl <| Seg.buildD1 (c := (cP cU8 (cP cU8 cI64))) (y := (2, 1, 0)) (cs := [(.int .u8 2), (.int .u8 1), (.int .i64 0)]) u28 ti27 rfl rfl rfl rfl (⟨[(.int .u8 2)], [(.int .u8 1), (.int .i64 0)], rfl, ⟨rfl, (show (0 : Int) ≤ 2 by omega), (show 2 ≤ (255 : Int) by omega)⟩, ⟨[(.int .u8 1)], [(.int .i64 0)], rfl, ⟨rfl, (show (0 : Int) ≤ 1 by omega), (show 1 ≤ (255 : Int) by omega)⟩, rfl⟩⟩) rfl fun v7 xs2 hq2 => Seg.rowOne (i := 0) rfl fun ho1 => Seg.op (OpT.buildS (vs := [(1, v7)]) (cs := #[(.bool false), v7]) plf30 ti30 rfl rfl (vc_cons (cells1 ho1) (vc_nil)) rfl) rfl ?_
 refine Seg.rowLe (i := 0) rfl fun hb2 => ?_
 refine Seg.freeze (i := 0) rfl fun H6 hl6 hs2 => ?_
 have hv7 := SlD.of (c := (cP cU8 (cP cU8 cI64))) hs2 rfl (hq2.mono hl6) hb2
 refine Seg.buildD1 (c := (cP cB (cL (cP cU8 (cP cU8 cI64))))) (y := (false, ([(2, 1, 0)] : List (Int × Int × Int)))) (cs := [(.bool false), v7]) u22 ti30 rfl rfl rfl rfl (⟨[(.bool false)], [v7], rfl, rfl, ⟨_, rfl, hv7⟩⟩) rfl fun v8 xs3 hq3 => ?_
 refine Seg.rowLe (i := 0) rfl fun hb3 => ?_
 refine Seg.freeze (i := 0) rfl fun H7 hl7 hs3 => ?_
 have hv8 := SlD.of (c := (cP cB (cL (cP cU8 (cP cU8 cI64))))) hs3 rfl (hq3.mono hl7) hb3
 refine Seg.opS (OpS.call ent9 rfl (au_Minimal_w hv8 (hG.mono ((((((hl1.trans hl2).trans hl3).trans hl4).trans hl5).trans hl6).trans hl7)) hx6)) rfl ?_
 rintro _ H8 _ hl8 ⟨⟨v9, rfl, hv9⟩, rfl⟩
 refine Seg.op (OpT.move rfl) rfl <| Seg.op (OpT.extract rfl rfl) rfl <| Seg.op (OpT.extract rfl rfl) rfl <| Seg.alloc (cs := #[(.slice none 0 0)]) ti32 rfl rfl fun B5 => Seg.stBlkW (i := 0) (cs' := #[v9]) rfl rfl ti32 rfl rfl (onesA (ones_cons hv9.one (ones_nil))) rfl ?_
 refine Seg.own (O := .blk B5 (.cells #[v9] 32 (0, 0)) :: .blk B4 (.cells #[v6] 32 (0, 0)) :: .blk B3 (.cells #[v4] 32 (0, 0)) :: .blk (blkOf (p1 8)) (.cells #[(prj (prj (p1 4) 0) 0)] 32 (0, 0)) :: .blk B2 (.cells #[(.int .i64 2), (w64 (word (fun _ => false) 0)), (w64 (17179869184#64)), (w64 (word (fun _ => false) 2)), (w64 (word (fun _ => false) 3)), (.slice none 0 0)] 43 (0, 0)) :: O) ?_ rfl
 refine Seg.op (OpT.assign rfl) rfl <| Seg.nilT <| Wp.sr <| Seg.op (OpT.buildS (vs := [(0, (.int .u8 97)), (1, (.int .u8 98)), (2, (.int .i64 1))]) (cs := #[(.int .u8 97), (.int .u8 98), (.int .i64 1)]) plf27 ti27 rfl rfl (vc_cons rfl (vc_cons rfl (vc_cons rfl (vc_nil)))) rfl) rfl <| Seg.buildD1 (c := (cP cU8 (cP cU8 cI64))) (y := (97, 98, 1)) (cs := [(.int .u8 97), (.int .u8 98), (.int .i64 1)]) u28 ti27 rfl rfl rfl rfl (⟨[(.int .u8 97)], [(.int .u8 98), (.int .i64 1)], rfl, ⟨rfl, (show (0 : Int) ≤ 97 by omega), (show 97 ≤ (255 : Int) by omega)⟩, ⟨[(.int .u8 98)], [(.int .i64 1)], rfl, ⟨rfl, (show (0 : Int) ≤ 98 by omega), (show 98 ≤ (255 : Int) by omega)⟩, rfl⟩⟩) rfl fun v10 xs4 hq4 => Seg.rowOne (i := 0) rfl fun ho2 => Seg.op (OpT.buildS (vs := [(1, v10)]) (cs := #[(.bool false), v10]) plf30 ti30 rfl rfl (vc_cons (cells1 ho2) (vc_nil)) rfl) rfl <| Seg.op (OpT.buildS (vs := [(0, (.bool true))]) (cs := #[(.bool true), (.slice none 0 0)]) plf30 ti30 rfl rfl (vc_cons rfl (vc_nil)) rfl) rfl ?_
 refine Seg.rowLe (i := 0) rfl fun hb4 => ?_
 refine Seg.freeze (i := 0) rfl fun H9 hl9 hs4 => ?_
 have hv10 := SlD.of (c := (cP cU8 (cP cU8 cI64))) hs4 rfl (hq4.mono hl9) hb4
 refine Seg.buildDN2 (c := (cP cB (cL (cP cU8 (cP cU8 cI64))))) (l := [(false, ([(97, 98, 1)] : List (Int × Int × Int))), (true, ([] : List (Int × Int × Int)))]) (z := (.agg #[.bool false, .slice none 0 0])) (zs := #[.bool false, .slice none 0 0]) (vs := [(0, (.agg #[(.bool false), v10])), (1, (.agg #[(.bool true), (.slice none 0 0)]))]) (cs := #[(.bool false), v10, (.bool true), (.slice none 0 0)]) u22 ti30 rfl rfl rfl rfl (vc_cons rfl (vc_cons rfl (vc_nil))) (by kernel_rfl) rfl ⟨[(.bool false), v10], _, rfl, ⟨[(.bool false)], [v10], rfl, rfl, ⟨_, rfl, hv10⟩⟩, ⟨[(.bool true), (.slice none 0 0)], _, rfl, ⟨[(.bool true)], [(.slice none 0 0)], rfl, rfl, ⟨_, rfl, SlD.nil⟩⟩, rfl⟩⟩ rfl fun v11 xs5 hq5 => Seg.rowOne (i := 0) rfl fun ho3 => Seg.op (OpT.buildS (vs := [(0, v11)]) (cs := #[v11]) plf32 ti32 rfl rfl (vc_cons (cells1 ho3) (vc_nil)) rfl) rfl <| Seg.alloc (cs := #[(.slice none 0 0)]) ti32 rfl rfl fun B6 => Seg.rowOne (i := 1) rfl fun ho4 => Seg.stBlkW (i := 0) (cs' := #[v11]) rfl rfl ti32 rfl rfl (onesA (ones_cons ho4 (ones_nil))) rfl ?_
 refine Seg.own (O := .blk B6 (.cells #[v11] 32 (0, 0)) :: .row v11 30 2 ([(false, ([(97, 98, 1)] : List (Int × Int × Int))), (true, ([] : List (Int × Int × Int)))] : List (Bool × (List (Int × Int × Int)))).length xs5 :: .blk B5 (.cells #[v9] 32 (0, 0)) :: .blk B4 (.cells #[v6] 32 (0, 0)) :: .blk B3 (.cells #[v4] 32 (0, 0)) :: .blk (blkOf (p1 8)) (.cells #[(prj (prj (p1 4) 0) 0)] 32 (0, 0)) :: .blk B2 (.cells #[(.int .i64 2), (w64 (word (fun _ => false) 0)), (w64 (17179869184#64)), (w64 (word (fun _ => false) 2)), (w64 (word (fun _ => false) 3)), (.slice none 0 0)] 43 (0, 0)) :: O) ?_ rfl
 refine Seg.nilT <| Wp.sr <| Seg.op (OpT.buildS (vs := [(0, (.int .u8 0)), (1, (.int .u8 255))]) (cs := #[(.int .u8 0), (.int .u8 255), (.int .i64 0)]) plf27 ti27 rfl rfl (vc_cons rfl (vc_cons rfl (vc_nil))) rfl) rfl <| Seg.buildD1 (c := (cP cU8 (cP cU8 cI64))) (y := (0, 255, 0)) (cs := [(.int .u8 0), (.int .u8 255), (.int .i64 0)]) u28 ti27 rfl rfl rfl rfl (⟨[(.int .u8 0)], [(.int .u8 255), (.int .i64 0)], rfl, ⟨rfl, (show (0 : Int) ≤ 0 by omega), (show 0 ≤ (255 : Int) by omega)⟩, ⟨[(.int .u8 255)], [(.int .i64 0)], rfl, ⟨rfl, (show (0 : Int) ≤ 255 by omega), (show 255 ≤ (255 : Int) by omega)⟩, rfl⟩⟩) rfl fun v12 xs6 hq6 => Seg.rowOne (i := 0) rfl fun ho5 => Seg.op (OpT.buildS (vs := [(0, (.bool true)), (1, v12)]) (cs := #[(.bool true), v12]) plf30 ti30 rfl rfl (vc_cons rfl (vc_cons (cells1 ho5) (vc_nil))) rfl) rfl ?_
 refine Seg.rowLe (i := 0) rfl fun hb5 => ?_
 refine Seg.freeze (i := 0) rfl fun H10 hl10 hs5 => ?_
 have hv11 := SlD.of (c := (cP cU8 (cP cU8 cI64))) hs5 rfl (hq6.mono hl10) hb5
 refine Seg.buildD1 (c := (cP cB (cL (cP cU8 (cP cU8 cI64))))) (y := (true, ([(0, 255, 0)] : List (Int × Int × Int)))) (cs := [(.bool true), v12]) u22 ti30 rfl rfl rfl rfl (⟨[(.bool true)], [v12], rfl, rfl, ⟨_, rfl, hv11⟩⟩) rfl fun v13 xs7 hq7 => Seg.rowOne (i := 0) rfl fun ho6 => Seg.op (OpT.buildS (vs := [(0, v13)]) (cs := #[v13]) plf32 ti32 rfl rfl (vc_cons (cells1 ho6) (vc_nil)) rfl) rfl <| Seg.alloc (cs := #[(.slice none 0 0)]) ti32 rfl rfl fun B7 => Seg.rowOne (i := 1) rfl fun ho7 => Seg.stBlkW (i := 0) (cs' := #[v13]) rfl rfl ti32 rfl rfl (onesA (ones_cons ho7 (ones_nil))) rfl ?_
 refine Seg.own (O := .blk B7 (.cells #[v13] 32 (0, 0)) :: .row v13 30 2 ([(true, ([(0, 255, 0)] : List (Int × Int × Int)))] : List (Bool × (List (Int × Int × Int)))).length xs7 :: .blk B6 (.cells #[v11] 32 (0, 0)) :: .row v11 30 2 ([(false, ([(97, 98, 1)] : List (Int × Int × Int))), (true, ([] : List (Int × Int × Int)))] : List (Bool × (List (Int × Int × Int)))).length xs5 :: .blk B5 (.cells #[v9] 32 (0, 0)) :: .blk B4 (.cells #[v6] 32 (0, 0)) :: .blk B3 (.cells #[v4] 32 (0, 0)) :: .blk (blkOf (p1 8)) (.cells #[(prj (prj (p1 4) 0) 0)] 32 (0, 0)) :: .blk B2 (.cells #[(.int .i64 2), (w64 (word (fun _ => false) 0)), (w64 (17179869184#64)), (w64 (word (fun _ => false) 2)), (w64 (word (fun _ => false) 3)), (.slice none 0 0)] 43 (0, 0)) :: O) ?_ rfl
 refine Seg.nilT <| Wp.seq <| Wp.seq ?_
 rcases Bool.eq_false_or_eq_true (decide (x2.2 ≠ 0)) with hg1 | hg1
 ·
  replace hd := brT hg1 hd
  have hg1_ := of_decide_eq_true hg1
  refine Wp.region <| Seg.op (OpT.move rfl) rfl <| Seg.op (OpT.asB (b := decide (x2.2 ≠ 0)) (c := true) (OpT.neq rfl rfl) hg1) rfl <| Seg.op (OpT.move rfl) rfl <| Seg.skipG rfl rfl rfl rfl <| Seg.skipG rfl rfl rfl rfl <| Seg.op (OpT.pickT rfl rfl) rfl <| Seg.op (OpT.move rfl) rfl ?_
  refine Seg.skipG rfl rfl rfl rfl <| Seg.skipG rfl rfl rfl rfl <| Seg.skipG rfl rfl rfl rfl <| Seg.skipG rfl rfl rfl rfl <| Seg.op (OpT.pickT rfl rfl) rfl <| Seg.op (OpT.move rfl) rfl <| Seg.skipG rfl rfl rfl rfl <| Seg.skipG rfl rfl rfl rfl ?_
  refine Seg.skipG rfl rfl rfl rfl <| Seg.skipG rfl rfl rfl rfl <| Seg.op (OpT.pickT rfl rfl) rfl <| Seg.op (OpT.move rfl) rfl <| Seg.skipG rfl rfl rfl rfl <| Seg.skipG rfl rfl rfl rfl <| Seg.op (OpT.pickT rfl rfl) rfl <| Seg.op (OpT.move rfl) rfl ?_
  refine Seg.skipG rfl rfl rfl rfl <| Seg.skipG rfl rfl rfl rfl <| Seg.skipG rfl rfl rfl rfl <| Seg.skipG rfl rfl rfl rfl <| Seg.op (OpT.pickT rfl rfl) rfl <| Seg.op (OpT.move rfl) rfl <| Seg.skipG rfl rfl rfl rfl <| Seg.skipG rfl rfl rfl rfl ?_
  refine Seg.op (OpT.pickT rfl rfl) rfl <| Seg.nilT <| Wp.condT rfl <| Wp.sr <| Seg.op (OpT.assign rfl) rfl <| Seg.nilT <| Wp.ret <| At.then_r ?_
  obtain rfl := Option.some.inj hd
  exact At.res1 rfl (RV.tmp (v := (.bool false)) rfl) (fun w hs => ⟨rfl, (hs.dropN 9).weaken (((((((((hl1.trans hl2).trans hl3).trans hl4).trans hl5).trans hl6).trans hl7).trans hl8).trans hl9).trans hl10)⟩)
 replace hd := brF hg1 hd
 have hg1_ := of_decide_eq_false hg1
 rcases Bool.eq_false_or_eq_true (decide (x4.2 ≠ 0)) with hg2 | hg2
 ·
  replace hd := brT hg2 hd
  have hg2_ := of_decide_eq_true hg2
  refine Wp.region <| Seg.op (OpT.move rfl) rfl <| Seg.op (OpT.asB (b := decide (x2.2 ≠ 0)) (c := false) (OpT.neq rfl rfl) hg1) rfl <| Seg.op (OpT.move rfl) rfl <| Seg.opG rfl rfl (OpT.move rfl) rfl <| Seg.opG rfl rfl (OpT.asB (b := decide (x4.2 ≠ 0)) (c := true) (OpT.neq rfl rfl) hg2) rfl <| Seg.op (OpT.pickF rfl rfl) rfl <| Seg.op (OpT.move rfl) rfl ?_
  refine Seg.skipG rfl rfl rfl rfl <| Seg.skipG rfl rfl rfl rfl <| Seg.skipG rfl rfl rfl rfl <| Seg.skipG rfl rfl rfl rfl <| Seg.op (OpT.pickT rfl rfl) rfl <| Seg.op (OpT.move rfl) rfl <| Seg.skipG rfl rfl rfl rfl <| Seg.skipG rfl rfl rfl rfl ?_
  refine Seg.skipG rfl rfl rfl rfl <| Seg.skipG rfl rfl rfl rfl <| Seg.op (OpT.pickT rfl rfl) rfl <| Seg.op (OpT.move rfl) rfl <| Seg.skipG rfl rfl rfl rfl <| Seg.skipG rfl rfl rfl rfl <| Seg.op (OpT.pickT rfl rfl) rfl <| Seg.op (OpT.move rfl) rfl ?_
  refine Seg.skipG rfl rfl rfl rfl <| Seg.skipG rfl rfl rfl rfl <| Seg.skipG rfl rfl rfl rfl <| Seg.skipG rfl rfl rfl rfl <| Seg.op (OpT.pickT rfl rfl) rfl <| Seg.op (OpT.move rfl) rfl <| Seg.skipG rfl rfl rfl rfl <| Seg.skipG rfl rfl rfl rfl ?_
  refine Seg.op (OpT.pickT rfl rfl) rfl <| Seg.nilT <| Wp.condT rfl <| Wp.sr <| Seg.op (OpT.assign rfl) rfl <| Seg.nilT <| Wp.ret <| At.then_r ?_
  obtain rfl := Option.some.inj hd
  exact At.res1 rfl (RV.tmp (v := (.bool false)) rfl) (fun w hs => ⟨rfl, (hs.dropN 9).weaken (((((((((hl1.trans hl2).trans hl3).trans hl4).trans hl5).trans hl6).trans hl7).trans hl8).trans hl9).trans hl10)⟩)
 replace hd := brF hg2 hd
 have hg2_ := of_decide_eq_false hg2
 obtain ⟨x7, hx7, hd⟩ := bnd_some hd
 rcases Bool.eq_false_or_eq_true (!x7) with hg3 | hg3
 ·
  replace hd := brT hg3 hd
  refine Wp.region <| Seg.op (OpT.move rfl) rfl <| Seg.op (OpT.asB (b := decide (x2.2 ≠ 0)) (c := false) (OpT.neq rfl rfl) hg1) rfl <| Seg.op (OpT.move rfl) rfl <| Seg.opG rfl rfl (OpT.move rfl) rfl <| Seg.opG rfl rfl (OpT.asB (b := decide (x4.2 ≠ 0)) (c := false) (OpT.neq rfl rfl) hg2) rfl <| Seg.op (OpT.pickF rfl rfl) rfl <| Seg.op (OpT.move rfl) rfl ?_
  refine Seg.opG rfl rfl (OpT.ldBlkW (i := 7) u32 rfl ti32 rfl rfl rfl) rfl <| Seg.opG rfl rfl (OpT.ldBlkW (i := 2) u32 rfl ti32 rfl rfl rfl) rfl ?_
  refine Seg.rowLe (i := 3) rfl fun hb6 => ?_
  refine Seg.freeze (i := 3) rfl fun H11 hl11 hs6 => ?_
  have hv12 := SlD.of (c := (cP cB (cL (cP cU8 (cP cU8 cI64))))) hs6 rfl ((hq5.mono hl10).mono hl11) hb6
  refine Seg.opG rfl rfl (OpT.call ent13 rfl (r05_Same_w (a1 := ([(false, ([(97, 98, 1)] : List (Int × Int × Int))), (true, ([] : List (Int × Int × Int)))] : List (Bool × (List (Int × Int × Int))))) (hf3.mono (((((((((hl2.trans hl3).trans hl4).trans hl5).trans hl6).trans hl7).trans hl8).trans hl9).trans hl10).trans hl11)) hv12 hx7)) rfl <| Seg.opG rfl rfl (OpT.asB (b := !x7) (c := true) (OpT.not rfl) hg3) rfl <| Seg.op (OpT.pickF rfl rfl) rfl <| Seg.op (OpT.move rfl) rfl <| Seg.skipG rfl rfl rfl rfl <| Seg.skipG rfl rfl rfl rfl <| Seg.skipG rfl rfl rfl rfl <| Seg.skipG rfl rfl rfl rfl ?_
  refine Seg.op (OpT.pickT rfl rfl) rfl <| Seg.op (OpT.move rfl) rfl <| Seg.skipG rfl rfl rfl rfl <| Seg.skipG rfl rfl rfl rfl <| Seg.op (OpT.pickT rfl rfl) rfl <| Seg.op (OpT.move rfl) rfl <| Seg.skipG rfl rfl rfl rfl <| Seg.skipG rfl rfl rfl rfl ?_
  refine Seg.skipG rfl rfl rfl rfl <| Seg.skipG rfl rfl rfl rfl <| Seg.op (OpT.pickT rfl rfl) rfl <| Seg.op (OpT.move rfl) rfl <| Seg.skipG rfl rfl rfl rfl <| Seg.skipG rfl rfl rfl rfl <| Seg.op (OpT.pickT rfl rfl) rfl <| Seg.nilT ?_
  refine Wp.condT rfl <| Wp.sr <| Seg.op (OpT.assign rfl) rfl <| Seg.nilT <| Wp.ret <| At.then_r ?_
  obtain rfl := Option.some.inj hd
  exact At.res1 rfl (RV.tmp (v := (.bool false)) rfl) (fun w hs => ⟨rfl, (hs.dropN 8).weaken ((((((((((hl1.trans hl2).trans hl3).trans hl4).trans hl5).trans hl6).trans hl7).trans hl8).trans hl9).trans hl10).trans hl11)⟩)
 replace hd := brF hg3 hd
 obtain ⟨x8, hx8, hd⟩ := bnd_some hd
 rcases Bool.eq_false_or_eq_true (!x8) with hg4 | hg4
 ·
  replace hd := brT hg4 hd
  refine Wp.region <| Seg.op (OpT.move rfl) rfl <| Seg.op (OpT.asB (b := decide (x2.2 ≠ 0)) (c := false) (OpT.neq rfl rfl) hg1) rfl <| Seg.op (OpT.move rfl) rfl <| Seg.opG rfl rfl (OpT.move rfl) rfl <| Seg.opG rfl rfl (OpT.asB (b := decide (x4.2 ≠ 0)) (c := false) (OpT.neq rfl rfl) hg2) rfl <| Seg.op (OpT.pickF rfl rfl) rfl <| Seg.op (OpT.move rfl) rfl ?_
  refine Seg.opG rfl rfl (OpT.ldBlkW (i := 7) u32 rfl ti32 rfl rfl rfl) rfl <| Seg.opG rfl rfl (OpT.ldBlkW (i := 2) u32 rfl ti32 rfl rfl rfl) rfl ?_
  refine Seg.rowLe (i := 3) rfl fun hb6 => ?_
  refine Seg.freeze (i := 3) rfl fun H11 hl11 hs6 => ?_
  have hv12 := SlD.of (c := (cP cB (cL (cP cU8 (cP cU8 cI64))))) hs6 rfl ((hq5.mono hl10).mono hl11) hb6
  refine Seg.opG rfl rfl (OpT.call ent13 rfl (r05_Same_w (a1 := ([(false, ([(97, 98, 1)] : List (Int × Int × Int))), (true, ([] : List (Int × Int × Int)))] : List (Bool × (List (Int × Int × Int))))) (hf3.mono (((((((((hl2.trans hl3).trans hl4).trans hl5).trans hl6).trans hl7).trans hl8).trans hl9).trans hl10).trans hl11)) hv12 hx7)) rfl <| Seg.opG rfl rfl (OpT.asB (b := !x7) (c := false) (OpT.not rfl) hg3) rfl <| Seg.op (OpT.pickF rfl rfl) rfl <| Seg.op (OpT.move rfl) rfl <| Seg.opG rfl rfl (OpT.ldBlkW (i := 5) u32 rfl ti32 rfl rfl rfl) rfl <| Seg.opG rfl rfl (OpT.ldBlkW (i := 2) u32 rfl ti32 rfl rfl rfl) rfl <| Seg.opG rfl rfl (OpT.call ent13 rfl (r05_Same_w (a1 := ([(false, ([(97, 98, 1)] : List (Int × Int × Int))), (true, ([] : List (Int × Int × Int)))] : List (Bool × (List (Int × Int × Int))))) (hv4.mono (((((((hl4.trans hl5).trans hl6).trans hl7).trans hl8).trans hl9).trans hl10).trans hl11)) hv12 hx8)) rfl <| Seg.opG rfl rfl (OpT.asB (b := !x8) (c := true) (OpT.not rfl) hg4) rfl ?_
  refine Seg.op (OpT.pickF rfl rfl) rfl <| Seg.op (OpT.move rfl) rfl <| Seg.skipG rfl rfl rfl rfl <| Seg.skipG rfl rfl rfl rfl <| Seg.op (OpT.pickT rfl rfl) rfl <| Seg.op (OpT.move rfl) rfl <| Seg.skipG rfl rfl rfl rfl <| Seg.skipG rfl rfl rfl rfl ?_
  refine Seg.skipG rfl rfl rfl rfl <| Seg.skipG rfl rfl rfl rfl <| Seg.op (OpT.pickT rfl rfl) rfl <| Seg.op (OpT.move rfl) rfl <| Seg.skipG rfl rfl rfl rfl <| Seg.skipG rfl rfl rfl rfl <| Seg.op (OpT.pickT rfl rfl) rfl <| Seg.nilT ?_
  refine Wp.condT rfl <| Wp.sr <| Seg.op (OpT.assign rfl) rfl <| Seg.nilT <| Wp.ret <| At.then_r ?_
  obtain rfl := Option.some.inj hd
  exact At.res1 rfl (RV.tmp (v := (.bool false)) rfl) (fun w hs => ⟨rfl, (hs.dropN 8).weaken ((((((((((hl1.trans hl2).trans hl3).trans hl4).trans hl5).trans hl6).trans hl7).trans hl8).trans hl9).trans hl10).trans hl11)⟩)
 replace hd := brF hg4 hd
 rcases Bool.eq_false_or_eq_true (decide (x5.2 ≠ 0)) with hg5 | hg5
 ·
  replace hd := brT hg5 hd
  have hg5_ := of_decide_eq_true hg5
  refine Wp.region <| Seg.op (OpT.move rfl) rfl <| Seg.op (OpT.asB (b := decide (x2.2 ≠ 0)) (c := false) (OpT.neq rfl rfl) hg1) rfl <| Seg.op (OpT.move rfl) rfl <| Seg.opG rfl rfl (OpT.move rfl) rfl <| Seg.opG rfl rfl (OpT.asB (b := decide (x4.2 ≠ 0)) (c := false) (OpT.neq rfl rfl) hg2) rfl <| Seg.op (OpT.pickF rfl rfl) rfl <| Seg.op (OpT.move rfl) rfl ?_
  refine Seg.opG rfl rfl (OpT.ldBlkW (i := 7) u32 rfl ti32 rfl rfl rfl) rfl <| Seg.opG rfl rfl (OpT.ldBlkW (i := 2) u32 rfl ti32 rfl rfl rfl) rfl ?_
  refine Seg.rowLe (i := 3) rfl fun hb6 => ?_
  refine Seg.freeze (i := 3) rfl fun H11 hl11 hs6 => ?_
  have hv12 := SlD.of (c := (cP cB (cL (cP cU8 (cP cU8 cI64))))) hs6 rfl ((hq5.mono hl10).mono hl11) hb6
  refine Seg.opG rfl rfl (OpT.call ent13 rfl (r05_Same_w (a1 := ([(false, ([(97, 98, 1)] : List (Int × Int × Int))), (true, ([] : List (Int × Int × Int)))] : List (Bool × (List (Int × Int × Int))))) (hf3.mono (((((((((hl2.trans hl3).trans hl4).trans hl5).trans hl6).trans hl7).trans hl8).trans hl9).trans hl10).trans hl11)) hv12 hx7)) rfl <| Seg.opG rfl rfl (OpT.asB (b := !x7) (c := false) (OpT.not rfl) hg3) rfl <| Seg.op (OpT.pickF rfl rfl) rfl <| Seg.op (OpT.move rfl) rfl <| Seg.opG rfl rfl (OpT.ldBlkW (i := 5) u32 rfl ti32 rfl rfl rfl) rfl <| Seg.opG rfl rfl (OpT.ldBlkW (i := 2) u32 rfl ti32 rfl rfl rfl) rfl <| Seg.opG rfl rfl (OpT.call ent13 rfl (r05_Same_w (a1 := ([(false, ([(97, 98, 1)] : List (Int × Int × Int))), (true, ([] : List (Int × Int × Int)))] : List (Bool × (List (Int × Int × Int))))) (hv4.mono (((((((hl4.trans hl5).trans hl6).trans hl7).trans hl8).trans hl9).trans hl10).trans hl11)) hv12 hx8)) rfl <| Seg.opG rfl rfl (OpT.asB (b := !x8) (c := false) (OpT.not rfl) hg4) rfl ?_
  refine Seg.op (OpT.pickF rfl rfl) rfl <| Seg.op (OpT.move rfl) rfl <| Seg.opG rfl rfl (OpT.move rfl) rfl <| Seg.opG rfl rfl (OpT.asB (b := decide (x5.2 ≠ 0)) (c := true) (OpT.neq rfl rfl) hg5) rfl <| Seg.op (OpT.pickF rfl rfl) rfl <| Seg.op (OpT.move rfl) rfl <| Seg.skipG rfl rfl rfl rfl <| Seg.skipG rfl rfl rfl rfl ?_
  refine Seg.skipG rfl rfl rfl rfl <| Seg.skipG rfl rfl rfl rfl <| Seg.op (OpT.pickT rfl rfl) rfl <| Seg.op (OpT.move rfl) rfl <| Seg.skipG rfl rfl rfl rfl <| Seg.skipG rfl rfl rfl rfl <| Seg.op (OpT.pickT rfl rfl) rfl <| Seg.nilT ?_
  refine Wp.condT rfl <| Wp.sr <| Seg.op (OpT.assign rfl) rfl <| Seg.nilT <| Wp.ret <| At.then_r ?_
  obtain rfl := Option.some.inj hd
  exact At.res1 rfl (RV.tmp (v := (.bool false)) rfl) (fun w hs => ⟨rfl, (hs.dropN 8).weaken ((((((((((hl1.trans hl2).trans hl3).trans hl4).trans hl5).trans hl6).trans hl7).trans hl8).trans hl9).trans hl10).trans hl11)⟩)
 replace hd := brF hg5 hd
 have hg5_ := of_decide_eq_false hg5
 rcases Bool.eq_false_or_eq_true (decide ((x5.1.length:Int) ≠ 0)) with hg6 | hg6
 ·
  replace hd := brT hg6 hd
  have hg6_ := of_decide_eq_true hg6
  refine Wp.region <| Seg.op (OpT.move rfl) rfl <| Seg.op (OpT.asB (b := decide (x2.2 ≠ 0)) (c := false) (OpT.neq rfl rfl) hg1) rfl <| Seg.op (OpT.move rfl) rfl <| Seg.opG rfl rfl (OpT.move rfl) rfl <| Seg.opG rfl rfl (OpT.asB (b := decide (x4.2 ≠ 0)) (c := false) (OpT.neq rfl rfl) hg2) rfl <| Seg.op (OpT.pickF rfl rfl) rfl <| Seg.op (OpT.move rfl) rfl ?_
  refine Seg.opG rfl rfl (OpT.ldBlkW (i := 7) u32 rfl ti32 rfl rfl rfl) rfl <| Seg.opG rfl rfl (OpT.ldBlkW (i := 2) u32 rfl ti32 rfl rfl rfl) rfl ?_
  refine Seg.rowLe (i := 3) rfl fun hb6 => ?_
  refine Seg.freeze (i := 3) rfl fun H11 hl11 hs6 => ?_
  have hv12 := SlD.of (c := (cP cB (cL (cP cU8 (cP cU8 cI64))))) hs6 rfl ((hq5.mono hl10).mono hl11) hb6
  refine Seg.opG rfl rfl (OpT.call ent13 rfl (r05_Same_w (a1 := ([(false, ([(97, 98, 1)] : List (Int × Int × Int))), (true, ([] : List (Int × Int × Int)))] : List (Bool × (List (Int × Int × Int))))) (hf3.mono (((((((((hl2.trans hl3).trans hl4).trans hl5).trans hl6).trans hl7).trans hl8).trans hl9).trans hl10).trans hl11)) hv12 hx7)) rfl <| Seg.opG rfl rfl (OpT.asB (b := !x7) (c := false) (OpT.not rfl) hg3) rfl <| Seg.op (OpT.pickF rfl rfl) rfl <| Seg.op (OpT.move rfl) rfl <| Seg.opG rfl rfl (OpT.ldBlkW (i := 5) u32 rfl ti32 rfl rfl rfl) rfl <| Seg.opG rfl rfl (OpT.ldBlkW (i := 2) u32 rfl ti32 rfl rfl rfl) rfl <| Seg.opG rfl rfl (OpT.call ent13 rfl (r05_Same_w (a1 := ([(false, ([(97, 98, 1)] : List (Int × Int × Int))), (true, ([] : List (Int × Int × Int)))] : List (Bool × (List (Int × Int × Int))))) (hv4.mono (((((((hl4.trans hl5).trans hl6).trans hl7).trans hl8).trans hl9).trans hl10).trans hl11)) hv12 hx8)) rfl <| Seg.opG rfl rfl (OpT.asB (b := !x8) (c := false) (OpT.not rfl) hg4) rfl ?_
  refine Seg.op (OpT.pickF rfl rfl) rfl <| Seg.op (OpT.move rfl) rfl <| Seg.opG rfl rfl (OpT.move rfl) rfl <| Seg.opG rfl rfl (OpT.asB (b := decide (x5.2 ≠ 0)) (c := false) (OpT.neq rfl rfl) hg5) rfl <| Seg.op (OpT.pickF rfl rfl) rfl <| Seg.op (OpT.move rfl) rfl <| Seg.opG rfl rfl (OpT.fld (o' := 0) fl32_0 rfl rfl) rfl <| Seg.opG rfl rfl (OpT.ldBlk (i := 4) (v := v6) u22 rfl rfl rfl rfl) rfl ?_
  have hb7 := hv6.le
  refine Seg.opG rfl rfl (OpT.len u22 rfl (hv6.mono (((((hl6.trans hl7).trans hl8).trans hl9).trans hl10).trans hl11)).sl) rfl <| Seg.opG rfl rfl (OpT.asB (b := decide ((x5.1.length:Int) ≠ 0)) (c := true) (OpT.neq rfl rfl) hg6) rfl <| Seg.op (OpT.pickF rfl rfl) rfl <| Seg.op (OpT.move rfl) rfl <| Seg.skipG rfl rfl rfl rfl <| Seg.skipG rfl rfl rfl rfl <| Seg.op (OpT.pickT rfl rfl) rfl <| Seg.nilT ?_
  refine Wp.condT rfl <| Wp.sr <| Seg.op (OpT.assign rfl) rfl <| Seg.nilT <| Wp.ret <| At.then_r ?_
  obtain rfl := Option.some.inj hd
  exact At.res1 rfl (RV.tmp (v := (.bool false)) rfl) (fun w hs => ⟨rfl, (hs.dropN 8).weaken ((((((((((hl1.trans hl2).trans hl3).trans hl4).trans hl5).trans hl6).trans hl7).trans hl8).trans hl9).trans hl10).trans hl11)⟩)
 replace hd := brF hg6 hd
 have hg6_ := of_decide_eq_false hg6
 refine Wp.region <| Seg.op (OpT.move rfl) rfl <| Seg.op (OpT.asB (b := decide (x2.2 ≠ 0)) (c := false) (OpT.neq rfl rfl) hg1) rfl <| Seg.op (OpT.move rfl) rfl <| Seg.opG rfl rfl (OpT.move rfl) rfl <| Seg.opG rfl rfl (OpT.asB (b := decide (x4.2 ≠ 0)) (c := false) (OpT.neq rfl rfl) hg2) rfl <| Seg.op (OpT.pickF rfl rfl) rfl <| Seg.op (OpT.move rfl) rfl ?_
 refine Seg.opG rfl rfl (OpT.ldBlkW (i := 7) u32 rfl ti32 rfl rfl rfl) rfl <| Seg.opG rfl rfl (OpT.ldBlkW (i := 2) u32 rfl ti32 rfl rfl rfl) rfl ?_
 refine Seg.rowLe (i := 3) rfl fun hb6 => ?_
 refine Seg.freeze (i := 3) rfl fun H11 hl11 hs6 => ?_
 have hv12 := SlD.of (c := (cP cB (cL (cP cU8 (cP cU8 cI64))))) hs6 rfl ((hq5.mono hl10).mono hl11) hb6
 refine Seg.opG rfl rfl (OpT.call ent13 rfl (r05_Same_w (a1 := ([(false, ([(97, 98, 1)] : List (Int × Int × Int))), (true, ([] : List (Int × Int × Int)))] : List (Bool × (List (Int × Int × Int))))) (hf3.mono (((((((((hl2.trans hl3).trans hl4).trans hl5).trans hl6).trans hl7).trans hl8).trans hl9).trans hl10).trans hl11)) hv12 hx7)) rfl <| Seg.opG rfl rfl (OpT.asB (b := !x7) (c := false) (OpT.not rfl) hg3) rfl <| Seg.op (OpT.pickF rfl rfl) rfl <| Seg.op (OpT.move rfl) rfl <| Seg.opG rfl rfl (OpT.ldBlkW (i := 5) u32 rfl ti32 rfl rfl rfl) rfl <| Seg.opG rfl rfl (OpT.ldBlkW (i := 2) u32 rfl ti32 rfl rfl rfl) rfl <| Seg.opG rfl rfl (OpT.call ent13 rfl (r05_Same_w (a1 := ([(false, ([(97, 98, 1)] : List (Int × Int × Int))), (true, ([] : List (Int × Int × Int)))] : List (Bool × (List (Int × Int × Int))))) (hv4.mono (((((((hl4.trans hl5).trans hl6).trans hl7).trans hl8).trans hl9).trans hl10).trans hl11)) hv12 hx8)) rfl <| Seg.opG rfl rfl (OpT.asB (b := !x8) (c := false) (OpT.not rfl) hg4) rfl ?_
 refine Seg.op (OpT.pickF rfl rfl) rfl <| Seg.op (OpT.move rfl) rfl <| Seg.opG rfl rfl (OpT.move rfl) rfl <| Seg.opG rfl rfl (OpT.asB (b := decide (x5.2 ≠ 0)) (c := false) (OpT.neq rfl rfl) hg5) rfl <| Seg.op (OpT.pickF rfl rfl) rfl <| Seg.op (OpT.move rfl) rfl <| Seg.opG rfl rfl (OpT.fld (o' := 0) fl32_0 rfl rfl) rfl <| Seg.opG rfl rfl (OpT.ldBlk (i := 4) (v := v6) u22 rfl rfl rfl rfl) rfl ?_
 have hb7 := hv6.le
 refine Seg.opG rfl rfl (OpT.len u22 rfl (hv6.mono (((((hl6.trans hl7).trans hl8).trans hl9).trans hl10).trans hl11)).sl) rfl <| Seg.opG rfl rfl (OpT.asB (b := decide ((x5.1.length:Int) ≠ 0)) (c := false) (OpT.neq rfl rfl) hg6) rfl <| Seg.op (OpT.pickF rfl rfl) rfl <| Seg.op (OpT.move rfl) rfl <| Seg.opG rfl rfl (OpT.move rfl) rfl <| Seg.opG rfl rfl (OpT.neq rfl rfl) rfl <| Seg.op (OpT.pickF rfl rfl) rfl <| Seg.nilT ?_
 refine Wp.cond (b := decide (x6.2 ≠ 11)) rfl (fun hb8 => ?_) (fun hb8 => ?_)
 ·
  replace hd := brT hb8 hd
  replace hb8 := of_decide_eq_true hb8
  refine Wp.sr <| Seg.op (OpT.assign rfl) rfl <| Seg.nilT <| Wp.ret <| At.then_r ?_
  obtain rfl := Option.some.inj hd
  exact At.res1 rfl (RV.tmp (v := (.bool false)) rfl) (fun w hs => ⟨rfl, (hs.dropN 8).weaken ((((((((((hl1.trans hl2).trans hl3).trans hl4).trans hl5).trans hl6).trans hl7).trans hl8).trans hl9).trans hl10).trans hl11)⟩)
 replace hd := brF hb8 hd
 replace hb8 := of_decide_eq_false hb8
 refine Wp.skip <| At.then_n <| Wp.seq ?_
 refine Wp.rowLe (i := 1) rfl fun hb9 => ?_
 refine Wp.freeze (i := 1) rfl fun H12 hl12 hs7 => ?_
 have hv13 := SlD.of (c := (cP cB (cL (cP cU8 (cP cU8 cI64))))) hs7 rfl ((hq7.mono hl11).mono hl12) hb9
 obtain ⟨x9, hx9, hd⟩ := bnd_some hd
 obtain ⟨x10, hx10, hd⟩ := bnd_some hd
 rcases Bool.eq_false_or_eq_true (x10) with hg7 | hg7
 ·
  replace hd := brT hg7 hd
  obtain ⟨x11, hx11, hd⟩ := bnd_some hd
  rcases Bool.eq_false_or_eq_true (decide ((x11.length:Int) = 3)) with hg8 | hg8
  ·
   replace hd := brT hg8 hd
   have hg8_ := of_decide_eq_true hg8
   obtain ⟨x12, hx12, hd⟩ := bnd_some hd
   rcases Bool.eq_false_or_eq_true (x12) with hg9 | hg9
   ·
    replace hd := brT hg9 hd
    obtain ⟨x13, hx13, hd⟩ := bnd_some hd
    rcases Bool.eq_false_or_eq_true (!x13) with hg10 | hg10
    ·
     replace hd := brT hg10 hd
     obtain ⟨x14, hx14, hd⟩ := bnd_some hd
     rcases Bool.eq_false_or_eq_true (!x14) with hg11 | hg11
     ·
      replace hd := brT hg11 hd
      obtain ⟨x15, hx15, hd⟩ := bnd_some hd
      rcases Bool.eq_false_or_eq_true (x15) with hg12 | hg12
      ·
       replace hd := brT hg12 hd
       obtain ⟨x16, hx16, hd⟩ := bnd_some hd
       rcases Bool.eq_false_or_eq_true (x16) with hg13 | hg13
       ·
        replace hd := brT hg13 hd
        obtain ⟨x17, hx17, hd⟩ := bnd_some hd
        refine SegO.runK 7 [⟨[], [], [0]⟩, ⟨[0], [], []⟩, ⟨[], [], [0]⟩, an0, ⟨[], [], [4]⟩, ⟨[], [], [4]⟩, ⟨[], [], [4]⟩, an0, an0, an0, ⟨[5], [], []⟩, an0, an0, an0, ⟨[5], [], []⟩, an0, an0, an0, an0, ⟨[5], [], []⟩, an0, an0, an0, an0, ⟨[1], [], []⟩, an0, an0, an0, an0, an0, an0, an0, an0, ⟨[], [], [33]⟩, ⟨[], [], [33]⟩, ⟨[], [], [33]⟩, an0, an0, an0] follows rfl (by kernel_rfl) <| SegO.opF (val := fun p2 => (.agg #[(prj (p2 0) 0)])) (fact := fun p2 HH => SlD (cP cB (cL (cP cU8 (cP cU8 cI64)))) HH x9 (prj (p2 0) 0)) rfl (fun _ => rfl) (fun _ => rfl) (fun _ _ _ hl h => h.mono hl) (fun _ p2 _ hx hf hy => (OpS.call ent14 rfl (au_All_w hx9)).mono (by rintro v HH OO ⟨⟨v14, rfl, hv14⟩, rfl⟩; exact ⟨rfl, hv14, rfl⟩)) rfl <| SegO.op (val := fun p2 => (.agg #[v13])) rfl rfl (fun _ => rfl) (fun _ p2 _ hx hf hy => OpT.ldBlkW (i := 0) u32 rfl ti32 rfl rfl (hy 0 _ rfl rfl)) rfl <| SegO.op (val := fun p2 => (.bool true)) rfl rfl (fun _ => rfl) (fun _ p2 _ hx hf hy => OpT.asB (b := x10) (c := true) (OpT.call ent13 rfl (r05_Same_w (a1 := ([(true, ([(0, 255, 0)] : List (Int × Int × Int)))] : List (Bool × (List (Int × Int × Int))))) (hf 0 rfl rfl) (hv13.mono hx) hx10)) hg7) rfl <| SegO.op (val := fun p2 => (.bool true)) rfl rfl (fun _ => rfl) (fun _ p2 _ hx hf hy => OpT.move rfl) rfl <| SegO.opFG (val := fun p2 => (.agg #[(prj (p2 4) 0)])) (fact := fun p2 HH => SlD (cP cB (cL (cP cU8 (cP cU8 cI64)))) HH x11 (prj (p2 4) 0)) rfl (fun _ => rfl) rfl (fun _ => rfl) (fun _ => rfl) (fun _ _ _ hl h => h.mono hl) (fun _ p2 _ hx hf hy => (OpS.call ent15 rfl (au_Word_w hx11)).mono (by rintro v HH OO ⟨⟨v15, rfl, hv15⟩, rfl⟩; exact ⟨rfl, hv15, rfl⟩)) rfl <| SegO.opG (val := fun p2 => (prj (p2 4) 0)) rfl (fun _ => rfl) rfl rfl (fun _ => rfl) (fun _ p2 _ hx hf hy => OpT.field1 fl32_0 u22 rfl rfl rfl) rfl <| SegO.opG (val := fun p2 => (.int .i64 (x11.length:Int))) rfl (fun _ => rfl) rfl rfl (fun _ => rfl) (fun _ p2 _ hx hf hy => OpT.len u22 rfl (hf 4 rfl rfl).sl) rfl ?_
        refine SegO.opG (val := fun p2 => (.bool true)) rfl (fun _ => rfl) rfl rfl (fun _ => rfl) (fun _ p2 _ hx hf hy => OpT.asB (b := decide ((x11.length:Int) = 3)) (c := true) (OpT.eql rfl rfl) hg8) rfl <| SegO.op (val := fun p2 => (.bool true)) rfl rfl (fun _ => rfl) (fun _ p2 _ hx hf hy => OpT.pickT rfl rfl) rfl <| SegO.op (val := fun p2 => (.bool true)) rfl rfl (fun _ => rfl) (fun _ p2 _ hx hf hy => OpT.move rfl) rfl <| SegO.opG (val := fun p2 => (.agg #[(prj (prj (p1 4) 0) 0)])) rfl (fun _ => rfl) rfl rfl (fun _ => rfl) (fun _ p2 _ hx hf hy => OpT.ldBlkW (i := 5) u32 rfl ti32 rfl rfl (hy 5 _ rfl rfl)) rfl <| SegO.opG (val := fun p2 => (.bool true)) rfl (fun _ => rfl) rfl rfl (fun _ => rfl) (fun _ p2 _ hx hf hy => OpT.asB (b := x12) (c := true) (OpT.call ent16 rfl (au_Accepts_w (hf3.mono (((((((((((hl2.trans hl3).trans hl4).trans hl5).trans hl6).trans hl7).trans hl8).trans hl9).trans hl10).trans hl11).trans hl12).trans hx)) hx12)) hg9) rfl <| SegO.op (val := fun p2 => (.bool true)) rfl rfl (fun _ => rfl) (fun _ p2 _ hx hf hy => OpT.pickT rfl rfl) rfl <| SegO.op (val := fun p2 => (.bool true)) rfl rfl (fun _ => rfl) (fun _ p2 _ hx hf hy => OpT.move rfl) rfl <| SegO.opG (val := fun p2 => (.agg #[(prj (prj (p1 4) 0) 0)])) rfl (fun _ => rfl) rfl rfl (fun _ => rfl) (fun _ p2 _ hx hf hy => OpT.ldBlkW (i := 5) u32 rfl ti32 rfl rfl (hy 5 _ rfl rfl)) rfl ?_
        refine SegO.opG (val := fun p2 => (.bool x13)) rfl (fun _ => rfl) rfl rfl (fun _ => rfl) (fun _ p2 _ hx hf hy => OpT.call ent16 rfl (au_Accepts_w (hf3.mono (((((((((((hl2.trans hl3).trans hl4).trans hl5).trans hl6).trans hl7).trans hl8).trans hl9).trans hl10).trans hl11).trans hl12).trans hx)) hx13)) rfl <| SegO.opG (val := fun p2 => (.bool true)) rfl (fun _ => rfl) rfl rfl (fun _ => rfl) (fun _ p2 _ hx hf hy => OpT.asB (b := !x13) (c := true) (OpT.not rfl) hg10) rfl <| SegO.op (val := fun p2 => (.bool true)) rfl rfl (fun _ => rfl) (fun _ p2 _ hx hf hy => OpT.pickT rfl rfl) rfl <| SegO.op (val := fun p2 => (.bool true)) rfl rfl (fun _ => rfl) (fun _ p2 _ hx hf hy => OpT.move rfl) rfl <| SegO.opG (val := fun p2 => (.agg #[(prj (prj (p1 4) 0) 0)])) rfl (fun _ => rfl) rfl rfl (fun _ => rfl) (fun _ p2 _ hx hf hy => OpT.ldBlkW (i := 5) u32 rfl ti32 rfl rfl (hy 5 _ rfl rfl)) rfl <| SegO.opG (val := fun p2 => (.bool x14)) rfl (fun _ => rfl) rfl rfl (fun _ => rfl) (fun _ p2 _ hx hf hy => OpT.call ent16 rfl (au_Accepts_w (hf3.mono (((((((((((hl2.trans hl3).trans hl4).trans hl5).trans hl6).trans hl7).trans hl8).trans hl9).trans hl10).trans hl11).trans hl12).trans hx)) hx14)) rfl <| SegO.opG (val := fun p2 => (.bool true)) rfl (fun _ => rfl) rfl rfl (fun _ => rfl) (fun _ p2 _ hx hf hy => OpT.asB (b := !x14) (c := true) (OpT.not rfl) hg11) rfl <| SegO.op (val := fun p2 => (.bool true)) rfl rfl (fun _ => rfl) (fun _ p2 _ hx hf hy => OpT.pickT rfl rfl) rfl ?_
        refine SegO.op (val := fun p2 => (.bool true)) rfl rfl (fun _ => rfl) (fun _ p2 _ hx hf hy => OpT.move rfl) rfl <| SegO.opG (val := fun p2 => (.agg #[v11])) rfl (fun _ => rfl) rfl rfl (fun _ => rfl) (fun _ p2 _ hx hf hy => OpT.ldBlkW (i := 1) u32 rfl ti32 rfl rfl (hy 1 _ rfl rfl)) rfl <| SegO.opG (val := fun p2 => (.bool true)) rfl (fun _ => rfl) rfl rfl (fun _ => rfl) (fun _ p2 _ hx hf hy => OpT.asB (b := x15) (c := true) (OpT.call ent17 rfl (au_Valid_w (a0 := ([(false, ([(97, 98, 1)] : List (Int × Int × Int))), (true, ([] : List (Int × Int × Int)))] : List (Bool × (List (Int × Int × Int))))) (hv12.mono (hl12.trans hx)) (hG.mono ((((((((((((hl1.trans hl2).trans hl3).trans hl4).trans hl5).trans hl6).trans hl7).trans hl8).trans hl9).trans hl10).trans hl11).trans hl12).trans hx)) hx15)) hg12) rfl <| SegO.op (val := fun p2 => (.bool true)) rfl rfl (fun _ => rfl) (fun _ p2 _ hx hf hy => OpT.pickT rfl rfl) rfl <| SegO.op (val := fun p2 => (.bool true)) rfl rfl (fun _ => rfl) (fun _ p2 _ hx hf hy => OpT.move rfl) rfl <| SegO.opG (val := fun p2 => (.agg #[(.slice none 0 0)])) rfl (fun _ => rfl) rfl rfl (fun _ => rfl) (fun _ p2 _ hx hf hy => OpT.buildS (vs := []) (cs := #[(.slice none 0 0)]) plf32 ti32 rfl rfl (vc_nil) rfl) rfl <| SegO.opG (val := fun p2 => (.bool true)) rfl (fun _ => rfl) rfl rfl (fun _ => rfl) (fun _ p2 _ hx hf hy => OpT.asB (b := x16) (c := true) (OpT.call ent17 rfl (au_Valid_w (a0 := ([] : List (Bool × (List (Int × Int × Int))))) SlD.nil (hG.mono ((((((((((((hl1.trans hl2).trans hl3).trans hl4).trans hl5).trans hl6).trans hl7).trans hl8).trans hl9).trans hl10).trans hl11).trans hl12).trans hx)) hx16)) hg13) rfl <| SegO.op (val := fun p2 => (.bool true)) rfl rfl (fun _ => rfl) (fun _ p2 _ hx hf hy => OpT.pickT rfl rfl) rfl ?_
        refine SegO.op (val := fun p2 => (.bool true)) rfl rfl (fun _ => rfl) (fun _ p2 _ hx hf hy => OpT.move rfl) rfl <| SegO.opG (val := fun p2 => (.agg #[(.bool false), (.slice none 0 0)])) rfl (fun _ => rfl) rfl rfl (fun _ => rfl) (fun _ p2 _ hx hf hy => OpT.buildS (vs := []) (cs := #[(.bool false), (.slice none 0 0)]) plf30 ti30 rfl rfl (vc_nil) rfl) rfl <| SegO.opFG (val := fun p2 => (p2 33)) (fact := fun p2 HH => SlD (cP cB (cL (cP cU8 (cP cU8 cI64)))) HH ([(false, ([] : List (Int × Int × Int)))] : List (Bool × (List (Int × Int × Int)))) (p2 33)) rfl (fun _ => rfl) rfl (fun _ => rfl) (fun _ => rfl) (fun _ _ _ hl h => h.mono hl) (fun _ p2 _ hx hf hy => (OpS.buildF1 (c := (cP cB (cL (cP cU8 (cP cU8 cI64))))) (y := (false, ([] : List (Int × Int × Int)))) (v := (.agg #[(.bool false), (.slice none 0 0)])) (cs := [(.bool false), (.slice none 0 0)]) u22 ti30 rfl rfl rfl rfl rfl (LayL.sing (c := (cP cB (cL (cP cU8 (cP cU8 cI64))))) (a := (false, ([] : List (Int × Int × Int)))) (cs := [(.bool false), (.slice none 0 0)]) (⟨[(.bool false)], [(.slice none 0 0)], rfl, rfl, ⟨_, rfl, SlD.nil⟩⟩))).mono (by rintro v HH OO ⟨rfl, h⟩; exact ⟨rfl, h, rfl⟩)) rfl <| SegO.opG (val := fun p2 => (.agg #[(p2 33)])) rfl (fun _ => rfl) rfl rfl (fun _ => rfl) (fun _ p2 _ hx hf hy => OpT.buildS (vs := [(0, (p2 33))]) (cs := #[(p2 33)]) plf32 ti32 rfl rfl (vc_cons (cells1 ((hf 33 rfl rfl).one)) (vc_nil)) rfl) rfl <| SegO.opG (val := fun p2 => (.bool x17)) rfl (fun _ => rfl) rfl rfl (fun _ => rfl) (fun _ p2 _ hx hf hy => OpT.call ent17 rfl (au_Valid_w (a0 := ([(false, ([] : List (Int × Int × Int)))] : List (Bool × (List (Int × Int × Int))))) (hf 33 rfl rfl) (hG.mono ((((((((((((hl1.trans hl2).trans hl3).trans hl4).trans hl5).trans hl6).trans hl7).trans hl8).trans hl9).trans hl10).trans hl11).trans hl12).trans hx)) hx17)) rfl <| SegO.opG (val := fun p2 => (.bool (!x17))) rfl (fun _ => rfl) rfl rfl (fun _ => rfl) (fun _ p2 _ hx hf hy => OpT.not rfl) rfl <| SegO.op (val := fun p2 => (.bool (!x17))) rfl rfl (fun _ => rfl) (fun _ p2 _ hx hf hy => OpT.pickT rfl rfl) rfl <| SegO.op (val := fun p2 => (.bool (!x17))) rfl rfl (fun _ => rfl) (fun _ p2 _ hx hf hy => OpT.assign rfl) rfl ?_
        refine SegO.done fun H13 p2 hl13 hF2 => ?_
        have hf4 : SlD (cP cB (cL (cP cU8 (cP cU8 cI64)))) H13 x9 (prj (p2 0) 0) := hF2 0
        have hf5 : SlD (cP cB (cL (cP cU8 (cP cU8 cI64)))) H13 x11 (prj (p2 4) 0) := hF2 4
        have hf6 : SlD (cP cB (cL (cP cU8 (cP cU8 cI64)))) H13 ([(false, ([] : List (Int × Int × Int)))] : List (Bool × (List (Int × Int × Int)))) (p2 33) := hF2 33
        refine At.sub (L' := [(0, (.bool (!x17)))]) (Sub.of rfl) ?_
        refine At.own (O := .blk B7 (.cells #[v13] 32 (0, 0)) :: .blk B6 (.cells #[v11] 32 (0, 0)) :: .blk B5 (.cells #[v9] 32 (0, 0)) :: .blk B4 (.cells #[v6] 32 (0, 0)) :: .blk B3 (.cells #[v4] 32 (0, 0)) :: .blk (blkOf (p1 8)) (.cells #[(prj (prj (p1 4) 0) 0)] 32 (0, 0)) :: .blk B2 (.cells #[(.int .i64 2), (w64 (word (fun _ => false) 0)), (w64 (17179869184#64)), (w64 (word (fun _ => false) 2)), (w64 (word (fun _ => false) 3)), (.slice none 0 0)] 43 (0, 0)) :: O) ?_ (by first | rfl | (simp only [List.length_append, List.length_set]; rfl) | simp)
        refine At.then_n <| Wp.ret ?_
        obtain rfl := Option.some.inj hd
        exact At.res1 rfl (RV.tmp (v := (.bool (!x17))) rfl) (fun w hs => ⟨rfl, (hs.dropN 7).weaken ((((((((((((hl1.trans hl2).trans hl3).trans hl4).trans hl5).trans hl6).trans hl7).trans hl8).trans hl9).trans hl10).trans hl11).trans hl12).trans hl13)⟩)
       replace hd := brF hg13 hd
       refine SegO.runK 7 [⟨[], [], [0]⟩, ⟨[0], [], []⟩, ⟨[], [], [0]⟩, an0, ⟨[], [], [4]⟩, ⟨[], [], [4]⟩, ⟨[], [], [4]⟩, an0, an0, an0, ⟨[5], [], []⟩, an0, an0, an0, ⟨[5], [], []⟩, an0, an0, an0, an0, ⟨[5], [], []⟩, an0, an0, an0, an0, ⟨[1], [], []⟩, an0, an0, an0, an0, an0, an0, an0, an0, an0, an0, an0, an0, an0, an0] follows rfl (by kernel_rfl) <| SegO.opF (val := fun p2 => (.agg #[(prj (p2 0) 0)])) (fact := fun p2 HH => SlD (cP cB (cL (cP cU8 (cP cU8 cI64)))) HH x9 (prj (p2 0) 0)) rfl (fun _ => rfl) (fun _ => rfl) (fun _ _ _ hl h => h.mono hl) (fun _ p2 _ hx hf hy => (OpS.call ent14 rfl (au_All_w hx9)).mono (by rintro v HH OO ⟨⟨v14, rfl, hv14⟩, rfl⟩; exact ⟨rfl, hv14, rfl⟩)) rfl <| SegO.op (val := fun p2 => (.agg #[v13])) rfl rfl (fun _ => rfl) (fun _ p2 _ hx hf hy => OpT.ldBlkW (i := 0) u32 rfl ti32 rfl rfl (hy 0 _ rfl rfl)) rfl <| SegO.op (val := fun p2 => (.bool true)) rfl rfl (fun _ => rfl) (fun _ p2 _ hx hf hy => OpT.asB (b := x10) (c := true) (OpT.call ent13 rfl (r05_Same_w (a1 := ([(true, ([(0, 255, 0)] : List (Int × Int × Int)))] : List (Bool × (List (Int × Int × Int))))) (hf 0 rfl rfl) (hv13.mono hx) hx10)) hg7) rfl <| SegO.op (val := fun p2 => (.bool true)) rfl rfl (fun _ => rfl) (fun _ p2 _ hx hf hy => OpT.move rfl) rfl <| SegO.opFG (val := fun p2 => (.agg #[(prj (p2 4) 0)])) (fact := fun p2 HH => SlD (cP cB (cL (cP cU8 (cP cU8 cI64)))) HH x11 (prj (p2 4) 0)) rfl (fun _ => rfl) rfl (fun _ => rfl) (fun _ => rfl) (fun _ _ _ hl h => h.mono hl) (fun _ p2 _ hx hf hy => (OpS.call ent15 rfl (au_Word_w hx11)).mono (by rintro v HH OO ⟨⟨v15, rfl, hv15⟩, rfl⟩; exact ⟨rfl, hv15, rfl⟩)) rfl <| SegO.opG (val := fun p2 => (prj (p2 4) 0)) rfl (fun _ => rfl) rfl rfl (fun _ => rfl) (fun _ p2 _ hx hf hy => OpT.field1 fl32_0 u22 rfl rfl rfl) rfl <| SegO.opG (val := fun p2 => (.int .i64 (x11.length:Int))) rfl (fun _ => rfl) rfl rfl (fun _ => rfl) (fun _ p2 _ hx hf hy => OpT.len u22 rfl (hf 4 rfl rfl).sl) rfl ?_
       refine SegO.opG (val := fun p2 => (.bool true)) rfl (fun _ => rfl) rfl rfl (fun _ => rfl) (fun _ p2 _ hx hf hy => OpT.asB (b := decide ((x11.length:Int) = 3)) (c := true) (OpT.eql rfl rfl) hg8) rfl <| SegO.op (val := fun p2 => (.bool true)) rfl rfl (fun _ => rfl) (fun _ p2 _ hx hf hy => OpT.pickT rfl rfl) rfl <| SegO.op (val := fun p2 => (.bool true)) rfl rfl (fun _ => rfl) (fun _ p2 _ hx hf hy => OpT.move rfl) rfl <| SegO.opG (val := fun p2 => (.agg #[(prj (prj (p1 4) 0) 0)])) rfl (fun _ => rfl) rfl rfl (fun _ => rfl) (fun _ p2 _ hx hf hy => OpT.ldBlkW (i := 5) u32 rfl ti32 rfl rfl (hy 5 _ rfl rfl)) rfl <| SegO.opG (val := fun p2 => (.bool true)) rfl (fun _ => rfl) rfl rfl (fun _ => rfl) (fun _ p2 _ hx hf hy => OpT.asB (b := x12) (c := true) (OpT.call ent16 rfl (au_Accepts_w (hf3.mono (((((((((((hl2.trans hl3).trans hl4).trans hl5).trans hl6).trans hl7).trans hl8).trans hl9).trans hl10).trans hl11).trans hl12).trans hx)) hx12)) hg9) rfl <| SegO.op (val := fun p2 => (.bool true)) rfl rfl (fun _ => rfl) (fun _ p2 _ hx hf hy => OpT.pickT rfl rfl) rfl <| SegO.op (val := fun p2 => (.bool true)) rfl rfl (fun _ => rfl) (fun _ p2 _ hx hf hy => OpT.move rfl) rfl <| SegO.opG (val := fun p2 => (.agg #[(prj (prj (p1 4) 0) 0)])) rfl (fun _ => rfl) rfl rfl (fun _ => rfl) (fun _ p2 _ hx hf hy => OpT.ldBlkW (i := 5) u32 rfl ti32 rfl rfl (hy 5 _ rfl rfl)) rfl ?_
       refine SegO.opG (val := fun p2 => (.bool x13)) rfl (fun _ => rfl) rfl rfl (fun _ => rfl) (fun _ p2 _ hx hf hy => OpT.call ent16 rfl (au_Accepts_w (hf3.mono (((((((((((hl2.trans hl3).trans hl4).trans hl5).trans hl6).trans hl7).trans hl8).trans hl9).trans hl10).trans hl11).trans hl12).trans hx)) hx13)) rfl <| SegO.opG (val := fun p2 => (.bool true)) rfl (fun _ => rfl) rfl rfl (fun _ => rfl) (fun _ p2 _ hx hf hy => OpT.asB (b := !x13) (c := true) (OpT.not rfl) hg10) rfl <| SegO.op (val := fun p2 => (.bool true)) rfl rfl (fun _ => rfl) (fun _ p2 _ hx hf hy => OpT.pickT rfl rfl) rfl <| SegO.op (val := fun p2 => (.bool true)) rfl rfl (fun _ => rfl) (fun _ p2 _ hx hf hy => OpT.move rfl) rfl <| SegO.opG (val := fun p2 => (.agg #[(prj (prj (p1 4) 0) 0)])) rfl (fun _ => rfl) rfl rfl (fun _ => rfl) (fun _ p2 _ hx hf hy => OpT.ldBlkW (i := 5) u32 rfl ti32 rfl rfl (hy 5 _ rfl rfl)) rfl <| SegO.opG (val := fun p2 => (.bool x14)) rfl (fun _ => rfl) rfl rfl (fun _ => rfl) (fun _ p2 _ hx hf hy => OpT.call ent16 rfl (au_Accepts_w (hf3.mono (((((((((((hl2.trans hl3).trans hl4).trans hl5).trans hl6).trans hl7).trans hl8).trans hl9).trans hl10).trans hl11).trans hl12).trans hx)) hx14)) rfl <| SegO.opG (val := fun p2 => (.bool true)) rfl (fun _ => rfl) rfl rfl (fun _ => rfl) (fun _ p2 _ hx hf hy => OpT.asB (b := !x14) (c := true) (OpT.not rfl) hg11) rfl <| SegO.op (val := fun p2 => (.bool true)) rfl rfl (fun _ => rfl) (fun _ p2 _ hx hf hy => OpT.pickT rfl rfl) rfl ?_
       refine SegO.op (val := fun p2 => (.bool true)) rfl rfl (fun _ => rfl) (fun _ p2 _ hx hf hy => OpT.move rfl) rfl <| SegO.opG (val := fun p2 => (.agg #[v11])) rfl (fun _ => rfl) rfl rfl (fun _ => rfl) (fun _ p2 _ hx hf hy => OpT.ldBlkW (i := 1) u32 rfl ti32 rfl rfl (hy 1 _ rfl rfl)) rfl <| SegO.opG (val := fun p2 => (.bool true)) rfl (fun _ => rfl) rfl rfl (fun _ => rfl) (fun _ p2 _ hx hf hy => OpT.asB (b := x15) (c := true) (OpT.call ent17 rfl (au_Valid_w (a0 := ([(false, ([(97, 98, 1)] : List (Int × Int × Int))), (true, ([] : List (Int × Int × Int)))] : List (Bool × (List (Int × Int × Int))))) (hv12.mono (hl12.trans hx)) (hG.mono ((((((((((((hl1.trans hl2).trans hl3).trans hl4).trans hl5).trans hl6).trans hl7).trans hl8).trans hl9).trans hl10).trans hl11).trans hl12).trans hx)) hx15)) hg12) rfl <| SegO.op (val := fun p2 => (.bool true)) rfl rfl (fun _ => rfl) (fun _ p2 _ hx hf hy => OpT.pickT rfl rfl) rfl <| SegO.op (val := fun p2 => (.bool true)) rfl rfl (fun _ => rfl) (fun _ p2 _ hx hf hy => OpT.move rfl) rfl <| SegO.opG (val := fun p2 => (.agg #[(.slice none 0 0)])) rfl (fun _ => rfl) rfl rfl (fun _ => rfl) (fun _ p2 _ hx hf hy => OpT.buildS (vs := []) (cs := #[(.slice none 0 0)]) plf32 ti32 rfl rfl (vc_nil) rfl) rfl <| SegO.opG (val := fun p2 => (.bool false)) rfl (fun _ => rfl) rfl rfl (fun _ => rfl) (fun _ p2 _ hx hf hy => OpT.asB (b := x16) (c := false) (OpT.call ent17 rfl (au_Valid_w (a0 := ([] : List (Bool × (List (Int × Int × Int))))) SlD.nil (hG.mono ((((((((((((hl1.trans hl2).trans hl3).trans hl4).trans hl5).trans hl6).trans hl7).trans hl8).trans hl9).trans hl10).trans hl11).trans hl12).trans hx)) hx16)) hg13) rfl <| SegO.op (val := fun p2 => (.bool false)) rfl rfl (fun _ => rfl) (fun _ p2 _ hx hf hy => OpT.pickT rfl rfl) rfl ?_
       refine SegO.op (val := fun p2 => (.bool false)) rfl rfl (fun _ => rfl) (fun _ p2 _ hx hf hy => OpT.move rfl) rfl <| SegO.skipG rfl (fun _ => rfl) rfl rfl (fun _ h => by first | (cases h; done) | (cases h; decide)) <| SegO.skipG rfl (fun _ => rfl) rfl rfl (fun _ h => by first | (cases h; done) | (cases h; decide)) <| SegO.skipG rfl (fun _ => rfl) rfl rfl (fun _ h => by first | (cases h; done) | (cases h; decide)) <| SegO.skipG rfl (fun _ => rfl) rfl rfl (fun _ h => by first | (cases h; done) | (cases h; decide)) <| SegO.skipG rfl (fun _ => rfl) rfl rfl (fun _ h => by first | (cases h; done) | (cases h; decide)) <| SegO.op (val := fun p2 => (.bool false)) rfl rfl (fun _ => rfl) (fun _ p2 _ hx hf hy => OpT.pickF rfl rfl) rfl <| SegO.op (val := fun p2 => (.bool false)) rfl rfl (fun _ => rfl) (fun _ p2 _ hx hf hy => OpT.assign rfl) rfl ?_
       refine SegO.done fun H14 p2 hl14 hF3 => ?_
       have hf7 : SlD (cP cB (cL (cP cU8 (cP cU8 cI64)))) H14 x9 (prj (p2 0) 0) := hF3 0
       have hf8 : SlD (cP cB (cL (cP cU8 (cP cU8 cI64)))) H14 x11 (prj (p2 4) 0) := hF3 4
       refine At.sub (L' := [(0, (.bool false))]) (Sub.of rfl) ?_
       refine At.own (O := .blk B7 (.cells #[v13] 32 (0, 0)) :: .blk B6 (.cells #[v11] 32 (0, 0)) :: .blk B5 (.cells #[v9] 32 (0, 0)) :: .blk B4 (.cells #[v6] 32 (0, 0)) :: .blk B3 (.cells #[v4] 32 (0, 0)) :: .blk (blkOf (p1 8)) (.cells #[(prj (prj (p1 4) 0) 0)] 32 (0, 0)) :: .blk B2 (.cells #[(.int .i64 2), (w64 (word (fun _ => false) 0)), (w64 (17179869184#64)), (w64 (word (fun _ => false) 2)), (w64 (word (fun _ => false) 3)), (.slice none 0 0)] 43 (0, 0)) :: O) ?_ (by first | rfl | (simp only [List.length_append, List.length_set]; rfl) | simp)
       refine At.then_n <| Wp.ret ?_
       obtain rfl := Option.some.inj hd
       exact At.res1 rfl (RV.tmp (v := (.bool false)) rfl) (fun w hs => ⟨rfl, (hs.dropN 7).weaken ((((((((((((hl1.trans hl2).trans hl3).trans hl4).trans hl5).trans hl6).trans hl7).trans hl8).trans hl9).trans hl10).trans hl11).trans hl12).trans hl14)⟩)
      replace hd := brF hg12 hd
      refine SegO.runK 7 [⟨[], [], [0]⟩, ⟨[0], [], []⟩, ⟨[], [], [0]⟩, an0, ⟨[], [], [4]⟩, ⟨[], [], [4]⟩, ⟨[], [], [4]⟩, an0, an0, an0, ⟨[5], [], []⟩, an0, an0, an0, ⟨[5], [], []⟩, an0, an0, an0, an0, ⟨[5], [], []⟩, an0, an0, an0, an0, ⟨[1], [], []⟩, an0, an0, an0, an0, an0, an0, an0, an0, an0, an0, an0, an0, an0, an0] follows rfl (by kernel_rfl) <| SegO.opF (val := fun p2 => (.agg #[(prj (p2 0) 0)])) (fact := fun p2 HH => SlD (cP cB (cL (cP cU8 (cP cU8 cI64)))) HH x9 (prj (p2 0) 0)) rfl (fun _ => rfl) (fun _ => rfl) (fun _ _ _ hl h => h.mono hl) (fun _ p2 _ hx hf hy => (OpS.call ent14 rfl (au_All_w hx9)).mono (by rintro v HH OO ⟨⟨v14, rfl, hv14⟩, rfl⟩; exact ⟨rfl, hv14, rfl⟩)) rfl <| SegO.op (val := fun p2 => (.agg #[v13])) rfl rfl (fun _ => rfl) (fun _ p2 _ hx hf hy => OpT.ldBlkW (i := 0) u32 rfl ti32 rfl rfl (hy 0 _ rfl rfl)) rfl <| SegO.op (val := fun p2 => (.bool true)) rfl rfl (fun _ => rfl) (fun _ p2 _ hx hf hy => OpT.asB (b := x10) (c := true) (OpT.call ent13 rfl (r05_Same_w (a1 := ([(true, ([(0, 255, 0)] : List (Int × Int × Int)))] : List (Bool × (List (Int × Int × Int))))) (hf 0 rfl rfl) (hv13.mono hx) hx10)) hg7) rfl <| SegO.op (val := fun p2 => (.bool true)) rfl rfl (fun _ => rfl) (fun _ p2 _ hx hf hy => OpT.move rfl) rfl <| SegO.opFG (val := fun p2 => (.agg #[(prj (p2 4) 0)])) (fact := fun p2 HH => SlD (cP cB (cL (cP cU8 (cP cU8 cI64)))) HH x11 (prj (p2 4) 0)) rfl (fun _ => rfl) rfl (fun _ => rfl) (fun _ => rfl) (fun _ _ _ hl h => h.mono hl) (fun _ p2 _ hx hf hy => (OpS.call ent15 rfl (au_Word_w hx11)).mono (by rintro v HH OO ⟨⟨v15, rfl, hv15⟩, rfl⟩; exact ⟨rfl, hv15, rfl⟩)) rfl <| SegO.opG (val := fun p2 => (prj (p2 4) 0)) rfl (fun _ => rfl) rfl rfl (fun _ => rfl) (fun _ p2 _ hx hf hy => OpT.field1 fl32_0 u22 rfl rfl rfl) rfl <| SegO.opG (val := fun p2 => (.int .i64 (x11.length:Int))) rfl (fun _ => rfl) rfl rfl (fun _ => rfl) (fun _ p2 _ hx hf hy => OpT.len u22 rfl (hf 4 rfl rfl).sl) rfl ?_
      refine SegO.opG (val := fun p2 => (.bool true)) rfl (fun _ => rfl) rfl rfl (fun _ => rfl) (fun _ p2 _ hx hf hy => OpT.asB (b := decide ((x11.length:Int) = 3)) (c := true) (OpT.eql rfl rfl) hg8) rfl <| SegO.op (val := fun p2 => (.bool true)) rfl rfl (fun _ => rfl) (fun _ p2 _ hx hf hy => OpT.pickT rfl rfl) rfl <| SegO.op (val := fun p2 => (.bool true)) rfl rfl (fun _ => rfl) (fun _ p2 _ hx hf hy => OpT.move rfl) rfl <| SegO.opG (val := fun p2 => (.agg #[(prj (prj (p1 4) 0) 0)])) rfl (fun _ => rfl) rfl rfl (fun _ => rfl) (fun _ p2 _ hx hf hy => OpT.ldBlkW (i := 5) u32 rfl ti32 rfl rfl (hy 5 _ rfl rfl)) rfl <| SegO.opG (val := fun p2 => (.bool true)) rfl (fun _ => rfl) rfl rfl (fun _ => rfl) (fun _ p2 _ hx hf hy => OpT.asB (b := x12) (c := true) (OpT.call ent16 rfl (au_Accepts_w (hf3.mono (((((((((((hl2.trans hl3).trans hl4).trans hl5).trans hl6).trans hl7).trans hl8).trans hl9).trans hl10).trans hl11).trans hl12).trans hx)) hx12)) hg9) rfl <| SegO.op (val := fun p2 => (.bool true)) rfl rfl (fun _ => rfl) (fun _ p2 _ hx hf hy => OpT.pickT rfl rfl) rfl <| SegO.op (val := fun p2 => (.bool true)) rfl rfl (fun _ => rfl) (fun _ p2 _ hx hf hy => OpT.move rfl) rfl <| SegO.opG (val := fun p2 => (.agg #[(prj (prj (p1 4) 0) 0)])) rfl (fun _ => rfl) rfl rfl (fun _ => rfl) (fun _ p2 _ hx hf hy => OpT.ldBlkW (i := 5) u32 rfl ti32 rfl rfl (hy 5 _ rfl rfl)) rfl ?_
      refine SegO.opG (val := fun p2 => (.bool x13)) rfl (fun _ => rfl) rfl rfl (fun _ => rfl) (fun _ p2 _ hx hf hy => OpT.call ent16 rfl (au_Accepts_w (hf3.mono (((((((((((hl2.trans hl3).trans hl4).trans hl5).trans hl6).trans hl7).trans hl8).trans hl9).trans hl10).trans hl11).trans hl12).trans hx)) hx13)) rfl <| SegO.opG (val := fun p2 => (.bool true)) rfl (fun _ => rfl) rfl rfl (fun _ => rfl) (fun _ p2 _ hx hf hy => OpT.asB (b := !x13) (c := true) (OpT.not rfl) hg10) rfl <| SegO.op (val := fun p2 => (.bool true)) rfl rfl (fun _ => rfl) (fun _ p2 _ hx hf hy => OpT.pickT rfl rfl) rfl <| SegO.op (val := fun p2 => (.bool true)) rfl rfl (fun _ => rfl) (fun _ p2 _ hx hf hy => OpT.move rfl) rfl <| SegO.opG (val := fun p2 => (.agg #[(prj (prj (p1 4) 0) 0)])) rfl (fun _ => rfl) rfl rfl (fun _ => rfl) (fun _ p2 _ hx hf hy => OpT.ldBlkW (i := 5) u32 rfl ti32 rfl rfl (hy 5 _ rfl rfl)) rfl <| SegO.opG (val := fun p2 => (.bool x14)) rfl (fun _ => rfl) rfl rfl (fun _ => rfl) (fun _ p2 _ hx hf hy => OpT.call ent16 rfl (au_Accepts_w (hf3.mono (((((((((((hl2.trans hl3).trans hl4).trans hl5).trans hl6).trans hl7).trans hl8).trans hl9).trans hl10).trans hl11).trans hl12).trans hx)) hx14)) rfl <| SegO.opG (val := fun p2 => (.bool true)) rfl (fun _ => rfl) rfl rfl (fun _ => rfl) (fun _ p2 _ hx hf hy => OpT.asB (b := !x14) (c := true) (OpT.not rfl) hg11) rfl <| SegO.op (val := fun p2 => (.bool true)) rfl rfl (fun _ => rfl) (fun _ p2 _ hx hf hy => OpT.pickT rfl rfl) rfl ?_
      refine SegO.op (val := fun p2 => (.bool true)) rfl rfl (fun _ => rfl) (fun _ p2 _ hx hf hy => OpT.move rfl) rfl <| SegO.opG (val := fun p2 => (.agg #[v11])) rfl (fun _ => rfl) rfl rfl (fun _ => rfl) (fun _ p2 _ hx hf hy => OpT.ldBlkW (i := 1) u32 rfl ti32 rfl rfl (hy 1 _ rfl rfl)) rfl <| SegO.opG (val := fun p2 => (.bool false)) rfl (fun _ => rfl) rfl rfl (fun _ => rfl) (fun _ p2 _ hx hf hy => OpT.asB (b := x15) (c := false) (OpT.call ent17 rfl (au_Valid_w (a0 := ([(false, ([(97, 98, 1)] : List (Int × Int × Int))), (true, ([] : List (Int × Int × Int)))] : List (Bool × (List (Int × Int × Int))))) (hv12.mono (hl12.trans hx)) (hG.mono ((((((((((((hl1.trans hl2).trans hl3).trans hl4).trans hl5).trans hl6).trans hl7).trans hl8).trans hl9).trans hl10).trans hl11).trans hl12).trans hx)) hx15)) hg12) rfl <| SegO.op (val := fun p2 => (.bool false)) rfl rfl (fun _ => rfl) (fun _ p2 _ hx hf hy => OpT.pickT rfl rfl) rfl <| SegO.op (val := fun p2 => (.bool false)) rfl rfl (fun _ => rfl) (fun _ p2 _ hx hf hy => OpT.move rfl) rfl <| SegO.skipG rfl (fun _ => rfl) rfl rfl (fun _ h => by first | (cases h; done) | (cases h; decide)) <| SegO.skipG rfl (fun _ => rfl) rfl rfl (fun _ h => by first | (cases h; done) | (cases h; decide)) <| SegO.op (val := fun p2 => (.bool false)) rfl rfl (fun _ => rfl) (fun _ p2 _ hx hf hy => OpT.pickF rfl rfl) rfl ?_
      refine SegO.op (val := fun p2 => (.bool false)) rfl rfl (fun _ => rfl) (fun _ p2 _ hx hf hy => OpT.move rfl) rfl <| SegO.skipG rfl (fun _ => rfl) rfl rfl (fun _ h => by first | (cases h; done) | (cases h; decide)) <| SegO.skipG rfl (fun _ => rfl) rfl rfl (fun _ h => by first | (cases h; done) | (cases h; decide)) <| SegO.skipG rfl (fun _ => rfl) rfl rfl (fun _ h => by first | (cases h; done) | (cases h; decide)) <| SegO.skipG rfl (fun _ => rfl) rfl rfl (fun _ h => by first | (cases h; done) | (cases h; decide)) <| SegO.skipG rfl (fun _ => rfl) rfl rfl (fun _ h => by first | (cases h; done) | (cases h; decide)) <| SegO.op (val := fun p2 => (.bool false)) rfl rfl (fun _ => rfl) (fun _ p2 _ hx hf hy => OpT.pickF rfl rfl) rfl <| SegO.op (val := fun p2 => (.bool false)) rfl rfl (fun _ => rfl) (fun _ p2 _ hx hf hy => OpT.assign rfl) rfl ?_
      refine SegO.done fun H15 p2 hl15 hF4 => ?_
      have hf9 : SlD (cP cB (cL (cP cU8 (cP cU8 cI64)))) H15 x9 (prj (p2 0) 0) := hF4 0
      have hf10 : SlD (cP cB (cL (cP cU8 (cP cU8 cI64)))) H15 x11 (prj (p2 4) 0) := hF4 4
      refine At.sub (L' := [(0, (.bool false))]) (Sub.of rfl) ?_
      refine At.own (O := .blk B7 (.cells #[v13] 32 (0, 0)) :: .blk B6 (.cells #[v11] 32 (0, 0)) :: .blk B5 (.cells #[v9] 32 (0, 0)) :: .blk B4 (.cells #[v6] 32 (0, 0)) :: .blk B3 (.cells #[v4] 32 (0, 0)) :: .blk (blkOf (p1 8)) (.cells #[(prj (prj (p1 4) 0) 0)] 32 (0, 0)) :: .blk B2 (.cells #[(.int .i64 2), (w64 (word (fun _ => false) 0)), (w64 (17179869184#64)), (w64 (word (fun _ => false) 2)), (w64 (word (fun _ => false) 3)), (.slice none 0 0)] 43 (0, 0)) :: O) ?_ (by first | rfl | (simp only [List.length_append, List.length_set]; rfl) | simp)
      refine At.then_n <| Wp.ret ?_
      obtain rfl := Option.some.inj hd
      exact At.res1 rfl (RV.tmp (v := (.bool false)) rfl) (fun w hs => ⟨rfl, (hs.dropN 7).weaken ((((((((((((hl1.trans hl2).trans hl3).trans hl4).trans hl5).trans hl6).trans hl7).trans hl8).trans hl9).trans hl10).trans hl11).trans hl12).trans hl15)⟩)
     replace hd := brF hg11 hd
     refine SegO.runK 7 [⟨[], [], [0]⟩, ⟨[0], [], []⟩, ⟨[], [], [0]⟩, an0, ⟨[], [], [4]⟩, ⟨[], [], [4]⟩, ⟨[], [], [4]⟩, an0, an0, an0, ⟨[5], [], []⟩, an0, an0, an0, ⟨[5], [], []⟩, an0, an0, an0, an0, ⟨[5], [], []⟩, an0, an0, an0, an0, an0, an0, an0, an0, an0, an0, an0, an0, an0, an0, an0, an0, an0, an0, an0] follows rfl (by kernel_rfl) <| SegO.opF (val := fun p2 => (.agg #[(prj (p2 0) 0)])) (fact := fun p2 HH => SlD (cP cB (cL (cP cU8 (cP cU8 cI64)))) HH x9 (prj (p2 0) 0)) rfl (fun _ => rfl) (fun _ => rfl) (fun _ _ _ hl h => h.mono hl) (fun _ p2 _ hx hf hy => (OpS.call ent14 rfl (au_All_w hx9)).mono (by rintro v HH OO ⟨⟨v14, rfl, hv14⟩, rfl⟩; exact ⟨rfl, hv14, rfl⟩)) rfl <| SegO.op (val := fun p2 => (.agg #[v13])) rfl rfl (fun _ => rfl) (fun _ p2 _ hx hf hy => OpT.ldBlkW (i := 0) u32 rfl ti32 rfl rfl (hy 0 _ rfl rfl)) rfl <| SegO.op (val := fun p2 => (.bool true)) rfl rfl (fun _ => rfl) (fun _ p2 _ hx hf hy => OpT.asB (b := x10) (c := true) (OpT.call ent13 rfl (r05_Same_w (a1 := ([(true, ([(0, 255, 0)] : List (Int × Int × Int)))] : List (Bool × (List (Int × Int × Int))))) (hf 0 rfl rfl) (hv13.mono hx) hx10)) hg7) rfl <| SegO.op (val := fun p2 => (.bool true)) rfl rfl (fun _ => rfl) (fun _ p2 _ hx hf hy => OpT.move rfl) rfl <| SegO.opFG (val := fun p2 => (.agg #[(prj (p2 4) 0)])) (fact := fun p2 HH => SlD (cP cB (cL (cP cU8 (cP cU8 cI64)))) HH x11 (prj (p2 4) 0)) rfl (fun _ => rfl) rfl (fun _ => rfl) (fun _ => rfl) (fun _ _ _ hl h => h.mono hl) (fun _ p2 _ hx hf hy => (OpS.call ent15 rfl (au_Word_w hx11)).mono (by rintro v HH OO ⟨⟨v15, rfl, hv15⟩, rfl⟩; exact ⟨rfl, hv15, rfl⟩)) rfl <| SegO.opG (val := fun p2 => (prj (p2 4) 0)) rfl (fun _ => rfl) rfl rfl (fun _ => rfl) (fun _ p2 _ hx hf hy => OpT.field1 fl32_0 u22 rfl rfl rfl) rfl <| SegO.opG (val := fun p2 => (.int .i64 (x11.length:Int))) rfl (fun _ => rfl) rfl rfl (fun _ => rfl) (fun _ p2 _ hx hf hy => OpT.len u22 rfl (hf 4 rfl rfl).sl) rfl ?_
     refine SegO.opG (val := fun p2 => (.bool true)) rfl (fun _ => rfl) rfl rfl (fun _ => rfl) (fun _ p2 _ hx hf hy => OpT.asB (b := decide ((x11.length:Int) = 3)) (c := true) (OpT.eql rfl rfl) hg8) rfl <| SegO.op (val := fun p2 => (.bool true)) rfl rfl (fun _ => rfl) (fun _ p2 _ hx hf hy => OpT.pickT rfl rfl) rfl <| SegO.op (val := fun p2 => (.bool true)) rfl rfl (fun _ => rfl) (fun _ p2 _ hx hf hy => OpT.move rfl) rfl <| SegO.opG (val := fun p2 => (.agg #[(prj (prj (p1 4) 0) 0)])) rfl (fun _ => rfl) rfl rfl (fun _ => rfl) (fun _ p2 _ hx hf hy => OpT.ldBlkW (i := 5) u32 rfl ti32 rfl rfl (hy 5 _ rfl rfl)) rfl <| SegO.opG (val := fun p2 => (.bool true)) rfl (fun _ => rfl) rfl rfl (fun _ => rfl) (fun _ p2 _ hx hf hy => OpT.asB (b := x12) (c := true) (OpT.call ent16 rfl (au_Accepts_w (hf3.mono (((((((((((hl2.trans hl3).trans hl4).trans hl5).trans hl6).trans hl7).trans hl8).trans hl9).trans hl10).trans hl11).trans hl12).trans hx)) hx12)) hg9) rfl <| SegO.op (val := fun p2 => (.bool true)) rfl rfl (fun _ => rfl) (fun _ p2 _ hx hf hy => OpT.pickT rfl rfl) rfl <| SegO.op (val := fun p2 => (.bool true)) rfl rfl (fun _ => rfl) (fun _ p2 _ hx hf hy => OpT.move rfl) rfl <| SegO.opG (val := fun p2 => (.agg #[(prj (prj (p1 4) 0) 0)])) rfl (fun _ => rfl) rfl rfl (fun _ => rfl) (fun _ p2 _ hx hf hy => OpT.ldBlkW (i := 5) u32 rfl ti32 rfl rfl (hy 5 _ rfl rfl)) rfl ?_
     refine SegO.opG (val := fun p2 => (.bool x13)) rfl (fun _ => rfl) rfl rfl (fun _ => rfl) (fun _ p2 _ hx hf hy => OpT.call ent16 rfl (au_Accepts_w (hf3.mono (((((((((((hl2.trans hl3).trans hl4).trans hl5).trans hl6).trans hl7).trans hl8).trans hl9).trans hl10).trans hl11).trans hl12).trans hx)) hx13)) rfl <| SegO.opG (val := fun p2 => (.bool true)) rfl (fun _ => rfl) rfl rfl (fun _ => rfl) (fun _ p2 _ hx hf hy => OpT.asB (b := !x13) (c := true) (OpT.not rfl) hg10) rfl <| SegO.op (val := fun p2 => (.bool true)) rfl rfl (fun _ => rfl) (fun _ p2 _ hx hf hy => OpT.pickT rfl rfl) rfl <| SegO.op (val := fun p2 => (.bool true)) rfl rfl (fun _ => rfl) (fun _ p2 _ hx hf hy => OpT.move rfl) rfl <| SegO.opG (val := fun p2 => (.agg #[(prj (prj (p1 4) 0) 0)])) rfl (fun _ => rfl) rfl rfl (fun _ => rfl) (fun _ p2 _ hx hf hy => OpT.ldBlkW (i := 5) u32 rfl ti32 rfl rfl (hy 5 _ rfl rfl)) rfl <| SegO.opG (val := fun p2 => (.bool x14)) rfl (fun _ => rfl) rfl rfl (fun _ => rfl) (fun _ p2 _ hx hf hy => OpT.call ent16 rfl (au_Accepts_w (hf3.mono (((((((((((hl2.trans hl3).trans hl4).trans hl5).trans hl6).trans hl7).trans hl8).trans hl9).trans hl10).trans hl11).trans hl12).trans hx)) hx14)) rfl <| SegO.opG (val := fun p2 => (.bool false)) rfl (fun _ => rfl) rfl rfl (fun _ => rfl) (fun _ p2 _ hx hf hy => OpT.asB (b := !x14) (c := false) (OpT.not rfl) hg11) rfl <| SegO.op (val := fun p2 => (.bool false)) rfl rfl (fun _ => rfl) (fun _ p2 _ hx hf hy => OpT.pickT rfl rfl) rfl ?_
     refine SegO.op (val := fun p2 => (.bool false)) rfl rfl (fun _ => rfl) (fun _ p2 _ hx hf hy => OpT.move rfl) rfl <| SegO.skipG rfl (fun _ => rfl) rfl rfl (fun _ h => by first | (cases h; done) | (cases h; decide)) <| SegO.skipG rfl (fun _ => rfl) rfl rfl (fun _ h => by first | (cases h; done) | (cases h; decide)) <| SegO.op (val := fun p2 => (.bool false)) rfl rfl (fun _ => rfl) (fun _ p2 _ hx hf hy => OpT.pickF rfl rfl) rfl <| SegO.op (val := fun p2 => (.bool false)) rfl rfl (fun _ => rfl) (fun _ p2 _ hx hf hy => OpT.move rfl) rfl <| SegO.skipG rfl (fun _ => rfl) rfl rfl (fun _ h => by first | (cases h; done) | (cases h; decide)) <| SegO.skipG rfl (fun _ => rfl) rfl rfl (fun _ h => by first | (cases h; done) | (cases h; decide)) <| SegO.op (val := fun p2 => (.bool false)) rfl rfl (fun _ => rfl) (fun _ p2 _ hx hf hy => OpT.pickF rfl rfl) rfl ?_
     refine SegO.op (val := fun p2 => (.bool false)) rfl rfl (fun _ => rfl) (fun _ p2 _ hx hf hy => OpT.move rfl) rfl <| SegO.skipG rfl (fun _ => rfl) rfl rfl (fun _ h => by first | (cases h; done) | (cases h; decide)) <| SegO.skipG rfl (fun _ => rfl) rfl rfl (fun _ h => by first | (cases h; done) | (cases h; decide)) <| SegO.skipG rfl (fun _ => rfl) rfl rfl (fun _ h => by first | (cases h; done) | (cases h; decide)) <| SegO.skipG rfl (fun _ => rfl) rfl rfl (fun _ h => by first | (cases h; done) | (cases h; decide)) <| SegO.skipG rfl (fun _ => rfl) rfl rfl (fun _ h => by first | (cases h; done) | (cases h; decide)) <| SegO.op (val := fun p2 => (.bool false)) rfl rfl (fun _ => rfl) (fun _ p2 _ hx hf hy => OpT.pickF rfl rfl) rfl <| SegO.op (val := fun p2 => (.bool false)) rfl rfl (fun _ => rfl) (fun _ p2 _ hx hf hy => OpT.assign rfl) rfl ?_
     refine SegO.done fun H16 p2 hl16 hF5 => ?_
     have hf11 : SlD (cP cB (cL (cP cU8 (cP cU8 cI64)))) H16 x9 (prj (p2 0) 0) := hF5 0
     have hf12 : SlD (cP cB (cL (cP cU8 (cP cU8 cI64)))) H16 x11 (prj (p2 4) 0) := hF5 4
     refine At.sub (L' := [(0, (.bool false))]) (Sub.of rfl) ?_
     refine At.own (O := .blk B7 (.cells #[v13] 32 (0, 0)) :: .blk B6 (.cells #[v11] 32 (0, 0)) :: .blk B5 (.cells #[v9] 32 (0, 0)) :: .blk B4 (.cells #[v6] 32 (0, 0)) :: .blk B3 (.cells #[v4] 32 (0, 0)) :: .blk (blkOf (p1 8)) (.cells #[(prj (prj (p1 4) 0) 0)] 32 (0, 0)) :: .blk B2 (.cells #[(.int .i64 2), (w64 (word (fun _ => false) 0)), (w64 (17179869184#64)), (w64 (word (fun _ => false) 2)), (w64 (word (fun _ => false) 3)), (.slice none 0 0)] 43 (0, 0)) :: O) ?_ (by first | rfl | (simp only [List.length_append, List.length_set]; rfl) | simp)
     refine At.then_n <| Wp.ret ?_
     obtain rfl := Option.some.inj hd
     exact At.res1 rfl (RV.tmp (v := (.bool false)) rfl) (fun w hs => ⟨rfl, (hs.dropN 7).weaken ((((((((((((hl1.trans hl2).trans hl3).trans hl4).trans hl5).trans hl6).trans hl7).trans hl8).trans hl9).trans hl10).trans hl11).trans hl12).trans hl16)⟩)
    replace hd := brF hg10 hd
    refine SegO.runK 7 [⟨[], [], [0]⟩, ⟨[0], [], []⟩, ⟨[], [], [0]⟩, an0, ⟨[], [], [4]⟩, ⟨[], [], [4]⟩, ⟨[], [], [4]⟩, an0, an0, an0, ⟨[5], [], []⟩, an0, an0, an0, ⟨[5], [], []⟩, an0, an0, an0, an0, an0, an0, an0, an0, an0, an0, an0, an0, an0, an0, an0, an0, an0, an0, an0, an0, an0, an0, an0, an0] follows rfl (by kernel_rfl) <| SegO.opF (val := fun p2 => (.agg #[(prj (p2 0) 0)])) (fact := fun p2 HH => SlD (cP cB (cL (cP cU8 (cP cU8 cI64)))) HH x9 (prj (p2 0) 0)) rfl (fun _ => rfl) (fun _ => rfl) (fun _ _ _ hl h => h.mono hl) (fun _ p2 _ hx hf hy => (OpS.call ent14 rfl (au_All_w hx9)).mono (by rintro v HH OO ⟨⟨v14, rfl, hv14⟩, rfl⟩; exact ⟨rfl, hv14, rfl⟩)) rfl <| SegO.op (val := fun p2 => (.agg #[v13])) rfl rfl (fun _ => rfl) (fun _ p2 _ hx hf hy => OpT.ldBlkW (i := 0) u32 rfl ti32 rfl rfl (hy 0 _ rfl rfl)) rfl <| SegO.op (val := fun p2 => (.bool true)) rfl rfl (fun _ => rfl) (fun _ p2 _ hx hf hy => OpT.asB (b := x10) (c := true) (OpT.call ent13 rfl (r05_Same_w (a1 := ([(true, ([(0, 255, 0)] : List (Int × Int × Int)))] : List (Bool × (List (Int × Int × Int))))) (hf 0 rfl rfl) (hv13.mono hx) hx10)) hg7) rfl <| SegO.op (val := fun p2 => (.bool true)) rfl rfl (fun _ => rfl) (fun _ p2 _ hx hf hy => OpT.move rfl) rfl <| SegO.opFG (val := fun p2 => (.agg #[(prj (p2 4) 0)])) (fact := fun p2 HH => SlD (cP cB (cL (cP cU8 (cP cU8 cI64)))) HH x11 (prj (p2 4) 0)) rfl (fun _ => rfl) rfl (fun _ => rfl) (fun _ => rfl) (fun _ _ _ hl h => h.mono hl) (fun _ p2 _ hx hf hy => (OpS.call ent15 rfl (au_Word_w hx11)).mono (by rintro v HH OO ⟨⟨v15, rfl, hv15⟩, rfl⟩; exact ⟨rfl, hv15, rfl⟩)) rfl <| SegO.opG (val := fun p2 => (prj (p2 4) 0)) rfl (fun _ => rfl) rfl rfl (fun _ => rfl) (fun _ p2 _ hx hf hy => OpT.field1 fl32_0 u22 rfl rfl rfl) rfl <| SegO.opG (val := fun p2 => (.int .i64 (x11.length:Int))) rfl (fun _ => rfl) rfl rfl (fun _ => rfl) (fun _ p2 _ hx hf hy => OpT.len u22 rfl (hf 4 rfl rfl).sl) rfl ?_
    refine SegO.opG (val := fun p2 => (.bool true)) rfl (fun _ => rfl) rfl rfl (fun _ => rfl) (fun _ p2 _ hx hf hy => OpT.asB (b := decide ((x11.length:Int) = 3)) (c := true) (OpT.eql rfl rfl) hg8) rfl <| SegO.op (val := fun p2 => (.bool true)) rfl rfl (fun _ => rfl) (fun _ p2 _ hx hf hy => OpT.pickT rfl rfl) rfl <| SegO.op (val := fun p2 => (.bool true)) rfl rfl (fun _ => rfl) (fun _ p2 _ hx hf hy => OpT.move rfl) rfl <| SegO.opG (val := fun p2 => (.agg #[(prj (prj (p1 4) 0) 0)])) rfl (fun _ => rfl) rfl rfl (fun _ => rfl) (fun _ p2 _ hx hf hy => OpT.ldBlkW (i := 5) u32 rfl ti32 rfl rfl (hy 5 _ rfl rfl)) rfl <| SegO.opG (val := fun p2 => (.bool true)) rfl (fun _ => rfl) rfl rfl (fun _ => rfl) (fun _ p2 _ hx hf hy => OpT.asB (b := x12) (c := true) (OpT.call ent16 rfl (au_Accepts_w (hf3.mono (((((((((((hl2.trans hl3).trans hl4).trans hl5).trans hl6).trans hl7).trans hl8).trans hl9).trans hl10).trans hl11).trans hl12).trans hx)) hx12)) hg9) rfl <| SegO.op (val := fun p2 => (.bool true)) rfl rfl (fun _ => rfl) (fun _ p2 _ hx hf hy => OpT.pickT rfl rfl) rfl <| SegO.op (val := fun p2 => (.bool true)) rfl rfl (fun _ => rfl) (fun _ p2 _ hx hf hy => OpT.move rfl) rfl <| SegO.opG (val := fun p2 => (.agg #[(prj (prj (p1 4) 0) 0)])) rfl (fun _ => rfl) rfl rfl (fun _ => rfl) (fun _ p2 _ hx hf hy => OpT.ldBlkW (i := 5) u32 rfl ti32 rfl rfl (hy 5 _ rfl rfl)) rfl ?_
    refine SegO.opG (val := fun p2 => (.bool x13)) rfl (fun _ => rfl) rfl rfl (fun _ => rfl) (fun _ p2 _ hx hf hy => OpT.call ent16 rfl (au_Accepts_w (hf3.mono (((((((((((hl2.trans hl3).trans hl4).trans hl5).trans hl6).trans hl7).trans hl8).trans hl9).trans hl10).trans hl11).trans hl12).trans hx)) hx13)) rfl <| SegO.opG (val := fun p2 => (.bool false)) rfl (fun _ => rfl) rfl rfl (fun _ => rfl) (fun _ p2 _ hx hf hy => OpT.asB (b := !x13) (c := false) (OpT.not rfl) hg10) rfl <| SegO.op (val := fun p2 => (.bool false)) rfl rfl (fun _ => rfl) (fun _ p2 _ hx hf hy => OpT.pickT rfl rfl) rfl <| SegO.op (val := fun p2 => (.bool false)) rfl rfl (fun _ => rfl) (fun _ p2 _ hx hf hy => OpT.move rfl) rfl <| SegO.skipG rfl (fun _ => rfl) rfl rfl (fun _ h => by first | (cases h; done) | (cases h; decide)) <| SegO.skipG rfl (fun _ => rfl) rfl rfl (fun _ h => by first | (cases h; done) | (cases h; decide)) <| SegO.skipG rfl (fun _ => rfl) rfl rfl (fun _ h => by first | (cases h; done) | (cases h; decide)) <| SegO.op (val := fun p2 => (.bool false)) rfl rfl (fun _ => rfl) (fun _ p2 _ hx hf hy => OpT.pickF rfl rfl) rfl ?_
    refine SegO.op (val := fun p2 => (.bool false)) rfl rfl (fun _ => rfl) (fun _ p2 _ hx hf hy => OpT.move rfl) rfl <| SegO.skipG rfl (fun _ => rfl) rfl rfl (fun _ h => by first | (cases h; done) | (cases h; decide)) <| SegO.skipG rfl (fun _ => rfl) rfl rfl (fun _ h => by first | (cases h; done) | (cases h; decide)) <| SegO.op (val := fun p2 => (.bool false)) rfl rfl (fun _ => rfl) (fun _ p2 _ hx hf hy => OpT.pickF rfl rfl) rfl <| SegO.op (val := fun p2 => (.bool false)) rfl rfl (fun _ => rfl) (fun _ p2 _ hx hf hy => OpT.move rfl) rfl <| SegO.skipG rfl (fun _ => rfl) rfl rfl (fun _ h => by first | (cases h; done) | (cases h; decide)) <| SegO.skipG rfl (fun _ => rfl) rfl rfl (fun _ h => by first | (cases h; done) | (cases h; decide)) <| SegO.op (val := fun p2 => (.bool false)) rfl rfl (fun _ => rfl) (fun _ p2 _ hx hf hy => OpT.pickF rfl rfl) rfl ?_
    refine SegO.op (val := fun p2 => (.bool false)) rfl rfl (fun _ => rfl) (fun _ p2 _ hx hf hy => OpT.move rfl) rfl <| SegO.skipG rfl (fun _ => rfl) rfl rfl (fun _ h => by first | (cases h; done) | (cases h; decide)) <| SegO.skipG rfl (fun _ => rfl) rfl rfl (fun _ h => by first | (cases h; done) | (cases h; decide)) <| SegO.skipG rfl (fun _ => rfl) rfl rfl (fun _ h => by first | (cases h; done) | (cases h; decide)) <| SegO.skipG rfl (fun _ => rfl) rfl rfl (fun _ h => by first | (cases h; done) | (cases h; decide)) <| SegO.skipG rfl (fun _ => rfl) rfl rfl (fun _ h => by first | (cases h; done) | (cases h; decide)) <| SegO.op (val := fun p2 => (.bool false)) rfl rfl (fun _ => rfl) (fun _ p2 _ hx hf hy => OpT.pickF rfl rfl) rfl <| SegO.op (val := fun p2 => (.bool false)) rfl rfl (fun _ => rfl) (fun _ p2 _ hx hf hy => OpT.assign rfl) rfl ?_
    refine SegO.done fun H17 p2 hl17 hF6 => ?_
    have hf13 : SlD (cP cB (cL (cP cU8 (cP cU8 cI64)))) H17 x9 (prj (p2 0) 0) := hF6 0
    have hf14 : SlD (cP cB (cL (cP cU8 (cP cU8 cI64)))) H17 x11 (prj (p2 4) 0) := hF6 4
    refine At.sub (L' := [(0, (.bool false))]) (Sub.of rfl) ?_
    refine At.own (O := .blk B7 (.cells #[v13] 32 (0, 0)) :: .blk B6 (.cells #[v11] 32 (0, 0)) :: .blk B5 (.cells #[v9] 32 (0, 0)) :: .blk B4 (.cells #[v6] 32 (0, 0)) :: .blk B3 (.cells #[v4] 32 (0, 0)) :: .blk (blkOf (p1 8)) (.cells #[(prj (prj (p1 4) 0) 0)] 32 (0, 0)) :: .blk B2 (.cells #[(.int .i64 2), (w64 (word (fun _ => false) 0)), (w64 (17179869184#64)), (w64 (word (fun _ => false) 2)), (w64 (word (fun _ => false) 3)), (.slice none 0 0)] 43 (0, 0)) :: O) ?_ (by first | rfl | (simp only [List.length_append, List.length_set]; rfl) | simp)
    refine At.then_n <| Wp.ret ?_
    obtain rfl := Option.some.inj hd
    exact At.res1 rfl (RV.tmp (v := (.bool false)) rfl) (fun w hs => ⟨rfl, (hs.dropN 7).weaken ((((((((((((hl1.trans hl2).trans hl3).trans hl4).trans hl5).trans hl6).trans hl7).trans hl8).trans hl9).trans hl10).trans hl11).trans hl12).trans hl17)⟩)
   replace hd := brF hg9 hd
   refine SegO.runK 7 [⟨[], [], [0]⟩, ⟨[0], [], []⟩, ⟨[], [], [0]⟩, an0, ⟨[], [], [4]⟩, ⟨[], [], [4]⟩, ⟨[], [], [4]⟩, an0, an0, an0, ⟨[5], [], []⟩, an0, an0, an0, an0, an0, an0, an0, an0, an0, an0, an0, an0, an0, an0, an0, an0, an0, an0, an0, an0, an0, an0, an0, an0, an0, an0, an0, an0] follows rfl (by kernel_rfl) <| SegO.opF (val := fun p2 => (.agg #[(prj (p2 0) 0)])) (fact := fun p2 HH => SlD (cP cB (cL (cP cU8 (cP cU8 cI64)))) HH x9 (prj (p2 0) 0)) rfl (fun _ => rfl) (fun _ => rfl) (fun _ _ _ hl h => h.mono hl) (fun _ p2 _ hx hf hy => (OpS.call ent14 rfl (au_All_w hx9)).mono (by rintro v HH OO ⟨⟨v14, rfl, hv14⟩, rfl⟩; exact ⟨rfl, hv14, rfl⟩)) rfl <| SegO.op (val := fun p2 => (.agg #[v13])) rfl rfl (fun _ => rfl) (fun _ p2 _ hx hf hy => OpT.ldBlkW (i := 0) u32 rfl ti32 rfl rfl (hy 0 _ rfl rfl)) rfl <| SegO.op (val := fun p2 => (.bool true)) rfl rfl (fun _ => rfl) (fun _ p2 _ hx hf hy => OpT.asB (b := x10) (c := true) (OpT.call ent13 rfl (r05_Same_w (a1 := ([(true, ([(0, 255, 0)] : List (Int × Int × Int)))] : List (Bool × (List (Int × Int × Int))))) (hf 0 rfl rfl) (hv13.mono hx) hx10)) hg7) rfl <| SegO.op (val := fun p2 => (.bool true)) rfl rfl (fun _ => rfl) (fun _ p2 _ hx hf hy => OpT.move rfl) rfl <| SegO.opFG (val := fun p2 => (.agg #[(prj (p2 4) 0)])) (fact := fun p2 HH => SlD (cP cB (cL (cP cU8 (cP cU8 cI64)))) HH x11 (prj (p2 4) 0)) rfl (fun _ => rfl) rfl (fun _ => rfl) (fun _ => rfl) (fun _ _ _ hl h => h.mono hl) (fun _ p2 _ hx hf hy => (OpS.call ent15 rfl (au_Word_w hx11)).mono (by rintro v HH OO ⟨⟨v15, rfl, hv15⟩, rfl⟩; exact ⟨rfl, hv15, rfl⟩)) rfl <| SegO.opG (val := fun p2 => (prj (p2 4) 0)) rfl (fun _ => rfl) rfl rfl (fun _ => rfl) (fun _ p2 _ hx hf hy => OpT.field1 fl32_0 u22 rfl rfl rfl) rfl <| SegO.opG (val := fun p2 => (.int .i64 (x11.length:Int))) rfl (fun _ => rfl) rfl rfl (fun _ => rfl) (fun _ p2 _ hx hf hy => OpT.len u22 rfl (hf 4 rfl rfl).sl) rfl ?_
   refine SegO.opG (val := fun p2 => (.bool true)) rfl (fun _ => rfl) rfl rfl (fun _ => rfl) (fun _ p2 _ hx hf hy => OpT.asB (b := decide ((x11.length:Int) = 3)) (c := true) (OpT.eql rfl rfl) hg8) rfl <| SegO.op (val := fun p2 => (.bool true)) rfl rfl (fun _ => rfl) (fun _ p2 _ hx hf hy => OpT.pickT rfl rfl) rfl <| SegO.op (val := fun p2 => (.bool true)) rfl rfl (fun _ => rfl) (fun _ p2 _ hx hf hy => OpT.move rfl) rfl <| SegO.opG (val := fun p2 => (.agg #[(prj (prj (p1 4) 0) 0)])) rfl (fun _ => rfl) rfl rfl (fun _ => rfl) (fun _ p2 _ hx hf hy => OpT.ldBlkW (i := 5) u32 rfl ti32 rfl rfl (hy 5 _ rfl rfl)) rfl <| SegO.opG (val := fun p2 => (.bool false)) rfl (fun _ => rfl) rfl rfl (fun _ => rfl) (fun _ p2 _ hx hf hy => OpT.asB (b := x12) (c := false) (OpT.call ent16 rfl (au_Accepts_w (hf3.mono (((((((((((hl2.trans hl3).trans hl4).trans hl5).trans hl6).trans hl7).trans hl8).trans hl9).trans hl10).trans hl11).trans hl12).trans hx)) hx12)) hg9) rfl <| SegO.op (val := fun p2 => (.bool false)) rfl rfl (fun _ => rfl) (fun _ p2 _ hx hf hy => OpT.pickT rfl rfl) rfl <| SegO.op (val := fun p2 => (.bool false)) rfl rfl (fun _ => rfl) (fun _ p2 _ hx hf hy => OpT.move rfl) rfl <| SegO.skipG rfl (fun _ => rfl) rfl rfl (fun _ h => by first | (cases h; done) | (cases h; decide)) ?_
   refine SegO.skipG rfl (fun _ => rfl) rfl rfl (fun _ h => by first | (cases h; done) | (cases h; decide)) <| SegO.skipG rfl (fun _ => rfl) rfl rfl (fun _ h => by first | (cases h; done) | (cases h; decide)) <| SegO.op (val := fun p2 => (.bool false)) rfl rfl (fun _ => rfl) (fun _ p2 _ hx hf hy => OpT.pickF rfl rfl) rfl <| SegO.op (val := fun p2 => (.bool false)) rfl rfl (fun _ => rfl) (fun _ p2 _ hx hf hy => OpT.move rfl) rfl <| SegO.skipG rfl (fun _ => rfl) rfl rfl (fun _ h => by first | (cases h; done) | (cases h; decide)) <| SegO.skipG rfl (fun _ => rfl) rfl rfl (fun _ h => by first | (cases h; done) | (cases h; decide)) <| SegO.skipG rfl (fun _ => rfl) rfl rfl (fun _ h => by first | (cases h; done) | (cases h; decide)) <| SegO.op (val := fun p2 => (.bool false)) rfl rfl (fun _ => rfl) (fun _ p2 _ hx hf hy => OpT.pickF rfl rfl) rfl ?_
   refine SegO.op (val := fun p2 => (.bool false)) rfl rfl (fun _ => rfl) (fun _ p2 _ hx hf hy => OpT.move rfl) rfl <| SegO.skipG rfl (fun _ => rfl) rfl rfl (fun _ h => by first | (cases h; done) | (cases h; decide)) <| SegO.skipG rfl (fun _ => rfl) rfl rfl (fun _ h => by first | (cases h; done) | (cases h; decide)) <| SegO.op (val := fun p2 => (.bool false)) rfl rfl (fun _ => rfl) (fun _ p2 _ hx hf hy => OpT.pickF rfl rfl) rfl <| SegO.op (val := fun p2 => (.bool false)) rfl rfl (fun _ => rfl) (fun _ p2 _ hx hf hy => OpT.move rfl) rfl <| SegO.skipG rfl (fun _ => rfl) rfl rfl (fun _ h => by first | (cases h; done) | (cases h; decide)) <| SegO.skipG rfl (fun _ => rfl) rfl rfl (fun _ h => by first | (cases h; done) | (cases h; decide)) <| SegO.op (val := fun p2 => (.bool false)) rfl rfl (fun _ => rfl) (fun _ p2 _ hx hf hy => OpT.pickF rfl rfl) rfl ?_
   refine SegO.op (val := fun p2 => (.bool false)) rfl rfl (fun _ => rfl) (fun _ p2 _ hx hf hy => OpT.move rfl) rfl <| SegO.skipG rfl (fun _ => rfl) rfl rfl (fun _ h => by first | (cases h; done) | (cases h; decide)) <| SegO.skipG rfl (fun _ => rfl) rfl rfl (fun _ h => by first | (cases h; done) | (cases h; decide)) <| SegO.skipG rfl (fun _ => rfl) rfl rfl (fun _ h => by first | (cases h; done) | (cases h; decide)) <| SegO.skipG rfl (fun _ => rfl) rfl rfl (fun _ h => by first | (cases h; done) | (cases h; decide)) <| SegO.skipG rfl (fun _ => rfl) rfl rfl (fun _ h => by first | (cases h; done) | (cases h; decide)) <| SegO.op (val := fun p2 => (.bool false)) rfl rfl (fun _ => rfl) (fun _ p2 _ hx hf hy => OpT.pickF rfl rfl) rfl <| SegO.op (val := fun p2 => (.bool false)) rfl rfl (fun _ => rfl) (fun _ p2 _ hx hf hy => OpT.assign rfl) rfl ?_
   refine SegO.done fun H18 p2 hl18 hF7 => ?_
   have hf15 : SlD (cP cB (cL (cP cU8 (cP cU8 cI64)))) H18 x9 (prj (p2 0) 0) := hF7 0
   have hf16 : SlD (cP cB (cL (cP cU8 (cP cU8 cI64)))) H18 x11 (prj (p2 4) 0) := hF7 4
   refine At.sub (L' := [(0, (.bool false))]) (Sub.of rfl) ?_
   refine At.own (O := .blk B7 (.cells #[v13] 32 (0, 0)) :: .blk B6 (.cells #[v11] 32 (0, 0)) :: .blk B5 (.cells #[v9] 32 (0, 0)) :: .blk B4 (.cells #[v6] 32 (0, 0)) :: .blk B3 (.cells #[v4] 32 (0, 0)) :: .blk (blkOf (p1 8)) (.cells #[(prj (prj (p1 4) 0) 0)] 32 (0, 0)) :: .blk B2 (.cells #[(.int .i64 2), (w64 (word (fun _ => false) 0)), (w64 (17179869184#64)), (w64 (word (fun _ => false) 2)), (w64 (word (fun _ => false) 3)), (.slice none 0 0)] 43 (0, 0)) :: O) ?_ (by first | rfl | (simp only [List.length_append, List.length_set]; rfl) | simp)
   refine At.then_n <| Wp.ret ?_
   obtain rfl := Option.some.inj hd
   exact At.res1 rfl (RV.tmp (v := (.bool false)) rfl) (fun w hs => ⟨rfl, (hs.dropN 7).weaken ((((((((((((hl1.trans hl2).trans hl3).trans hl4).trans hl5).trans hl6).trans hl7).trans hl8).trans hl9).trans hl10).trans hl11).trans hl12).trans hl18)⟩)
  replace hd := brF hg8 hd
  have hg8_ := of_decide_eq_false hg8
  refine SegO.runK 7 [⟨[], [], [0]⟩, ⟨[0], [], []⟩, ⟨[], [], [0]⟩, an0, ⟨[], [], [4]⟩, ⟨[], [], [4]⟩, ⟨[], [], [4]⟩, an0, an0, an0, an0, an0, an0, an0, an0, an0, an0, an0, an0, an0, an0, an0, an0, an0, an0, an0, an0, an0, an0, an0, an0, an0, an0, an0, an0, an0, an0, an0, an0] follows rfl (by kernel_rfl) <| SegO.opF (val := fun p2 => (.agg #[(prj (p2 0) 0)])) (fact := fun p2 HH => SlD (cP cB (cL (cP cU8 (cP cU8 cI64)))) HH x9 (prj (p2 0) 0)) rfl (fun _ => rfl) (fun _ => rfl) (fun _ _ _ hl h => h.mono hl) (fun _ p2 _ hx hf hy => (OpS.call ent14 rfl (au_All_w hx9)).mono (by rintro v HH OO ⟨⟨v14, rfl, hv14⟩, rfl⟩; exact ⟨rfl, hv14, rfl⟩)) rfl <| SegO.op (val := fun p2 => (.agg #[v13])) rfl rfl (fun _ => rfl) (fun _ p2 _ hx hf hy => OpT.ldBlkW (i := 0) u32 rfl ti32 rfl rfl (hy 0 _ rfl rfl)) rfl <| SegO.op (val := fun p2 => (.bool true)) rfl rfl (fun _ => rfl) (fun _ p2 _ hx hf hy => OpT.asB (b := x10) (c := true) (OpT.call ent13 rfl (r05_Same_w (a1 := ([(true, ([(0, 255, 0)] : List (Int × Int × Int)))] : List (Bool × (List (Int × Int × Int))))) (hf 0 rfl rfl) (hv13.mono hx) hx10)) hg7) rfl <| SegO.op (val := fun p2 => (.bool true)) rfl rfl (fun _ => rfl) (fun _ p2 _ hx hf hy => OpT.move rfl) rfl <| SegO.opFG (val := fun p2 => (.agg #[(prj (p2 4) 0)])) (fact := fun p2 HH => SlD (cP cB (cL (cP cU8 (cP cU8 cI64)))) HH x11 (prj (p2 4) 0)) rfl (fun _ => rfl) rfl (fun _ => rfl) (fun _ => rfl) (fun _ _ _ hl h => h.mono hl) (fun _ p2 _ hx hf hy => (OpS.call ent15 rfl (au_Word_w hx11)).mono (by rintro v HH OO ⟨⟨v15, rfl, hv15⟩, rfl⟩; exact ⟨rfl, hv15, rfl⟩)) rfl <| SegO.opG (val := fun p2 => (prj (p2 4) 0)) rfl (fun _ => rfl) rfl rfl (fun _ => rfl) (fun _ p2 _ hx hf hy => OpT.field1 fl32_0 u22 rfl rfl rfl) rfl <| SegO.opG (val := fun p2 => (.int .i64 (x11.length:Int))) rfl (fun _ => rfl) rfl rfl (fun _ => rfl) (fun _ p2 _ hx hf hy => OpT.len u22 rfl (hf 4 rfl rfl).sl) rfl ?_
  refine SegO.opG (val := fun p2 => (.bool false)) rfl (fun _ => rfl) rfl rfl (fun _ => rfl) (fun _ p2 _ hx hf hy => OpT.asB (b := decide ((x11.length:Int) = 3)) (c := false) (OpT.eql rfl rfl) hg8) rfl <| SegO.op (val := fun p2 => (.bool false)) rfl rfl (fun _ => rfl) (fun _ p2 _ hx hf hy => OpT.pickT rfl rfl) rfl <| SegO.op (val := fun p2 => (.bool false)) rfl rfl (fun _ => rfl) (fun _ p2 _ hx hf hy => OpT.move rfl) rfl <| SegO.skipG rfl (fun _ => rfl) rfl rfl (fun _ h => by first | (cases h; done) | (cases h; decide)) <| SegO.skipG rfl (fun _ => rfl) rfl rfl (fun _ h => by first | (cases h; done) | (cases h; decide)) <| SegO.op (val := fun p2 => (.bool false)) rfl rfl (fun _ => rfl) (fun _ p2 _ hx hf hy => OpT.pickF rfl rfl) rfl <| SegO.op (val := fun p2 => (.bool false)) rfl rfl (fun _ => rfl) (fun _ p2 _ hx hf hy => OpT.move rfl) rfl <| SegO.skipG rfl (fun _ => rfl) rfl rfl (fun _ h => by first | (cases h; done) | (cases h; decide)) ?_
  refine SegO.skipG rfl (fun _ => rfl) rfl rfl (fun _ h => by first | (cases h; done) | (cases h; decide)) <| SegO.skipG rfl (fun _ => rfl) rfl rfl (fun _ h => by first | (cases h; done) | (cases h; decide)) <| SegO.op (val := fun p2 => (.bool false)) rfl rfl (fun _ => rfl) (fun _ p2 _ hx hf hy => OpT.pickF rfl rfl) rfl <| SegO.op (val := fun p2 => (.bool false)) rfl rfl (fun _ => rfl) (fun _ p2 _ hx hf hy => OpT.move rfl) rfl <| SegO.skipG rfl (fun _ => rfl) rfl rfl (fun _ h => by first | (cases h; done) | (cases h; decide)) <| SegO.skipG rfl (fun _ => rfl) rfl rfl (fun _ h => by first | (cases h; done) | (cases h; decide)) <| SegO.skipG rfl (fun _ => rfl) rfl rfl (fun _ h => by first | (cases h; done) | (cases h; decide)) <| SegO.op (val := fun p2 => (.bool false)) rfl rfl (fun _ => rfl) (fun _ p2 _ hx hf hy => OpT.pickF rfl rfl) rfl ?_
  refine SegO.op (val := fun p2 => (.bool false)) rfl rfl (fun _ => rfl) (fun _ p2 _ hx hf hy => OpT.move rfl) rfl <| SegO.skipG rfl (fun _ => rfl) rfl rfl (fun _ h => by first | (cases h; done) | (cases h; decide)) <| SegO.skipG rfl (fun _ => rfl) rfl rfl (fun _ h => by first | (cases h; done) | (cases h; decide)) <| SegO.op (val := fun p2 => (.bool false)) rfl rfl (fun _ => rfl) (fun _ p2 _ hx hf hy => OpT.pickF rfl rfl) rfl <| SegO.op (val := fun p2 => (.bool false)) rfl rfl (fun _ => rfl) (fun _ p2 _ hx hf hy => OpT.move rfl) rfl <| SegO.skipG rfl (fun _ => rfl) rfl rfl (fun _ h => by first | (cases h; done) | (cases h; decide)) <| SegO.skipG rfl (fun _ => rfl) rfl rfl (fun _ h => by first | (cases h; done) | (cases h; decide)) <| SegO.op (val := fun p2 => (.bool false)) rfl rfl (fun _ => rfl) (fun _ p2 _ hx hf hy => OpT.pickF rfl rfl) rfl ?_
  refine SegO.op (val := fun p2 => (.bool false)) rfl rfl (fun _ => rfl) (fun _ p2 _ hx hf hy => OpT.move rfl) rfl <| SegO.skipG rfl (fun _ => rfl) rfl rfl (fun _ h => by first | (cases h; done) | (cases h; decide)) <| SegO.skipG rfl (fun _ => rfl) rfl rfl (fun _ h => by first | (cases h; done) | (cases h; decide)) <| SegO.skipG rfl (fun _ => rfl) rfl rfl (fun _ h => by first | (cases h; done) | (cases h; decide)) <| SegO.skipG rfl (fun _ => rfl) rfl rfl (fun _ h => by first | (cases h; done) | (cases h; decide)) <| SegO.skipG rfl (fun _ => rfl) rfl rfl (fun _ h => by first | (cases h; done) | (cases h; decide)) <| SegO.op (val := fun p2 => (.bool false)) rfl rfl (fun _ => rfl) (fun _ p2 _ hx hf hy => OpT.pickF rfl rfl) rfl <| SegO.op (val := fun p2 => (.bool false)) rfl rfl (fun _ => rfl) (fun _ p2 _ hx hf hy => OpT.assign rfl) rfl ?_
  refine SegO.done fun H19 p2 hl19 hF8 => ?_
  have hf17 : SlD (cP cB (cL (cP cU8 (cP cU8 cI64)))) H19 x9 (prj (p2 0) 0) := hF8 0
  have hf18 : SlD (cP cB (cL (cP cU8 (cP cU8 cI64)))) H19 x11 (prj (p2 4) 0) := hF8 4
  refine At.sub (L' := [(0, (.bool false))]) (Sub.of rfl) ?_
  refine At.own (O := .blk B7 (.cells #[v13] 32 (0, 0)) :: .blk B6 (.cells #[v11] 32 (0, 0)) :: .blk B5 (.cells #[v9] 32 (0, 0)) :: .blk B4 (.cells #[v6] 32 (0, 0)) :: .blk B3 (.cells #[v4] 32 (0, 0)) :: .blk (blkOf (p1 8)) (.cells #[(prj (prj (p1 4) 0) 0)] 32 (0, 0)) :: .blk B2 (.cells #[(.int .i64 2), (w64 (word (fun _ => false) 0)), (w64 (17179869184#64)), (w64 (word (fun _ => false) 2)), (w64 (word (fun _ => false) 3)), (.slice none 0 0)] 43 (0, 0)) :: O) ?_ (by first | rfl | (simp only [List.length_append, List.length_set]; rfl) | simp)
  refine At.then_n <| Wp.ret ?_
  obtain rfl := Option.some.inj hd
  exact At.res1 rfl (RV.tmp (v := (.bool false)) rfl) (fun w hs => ⟨rfl, (hs.dropN 7).weaken ((((((((((((hl1.trans hl2).trans hl3).trans hl4).trans hl5).trans hl6).trans hl7).trans hl8).trans hl9).trans hl10).trans hl11).trans hl12).trans hl19)⟩)
 replace hd := brF hg7 hd
 refine SegO.runK 7 [⟨[], [], [0]⟩, ⟨[0], [], []⟩, ⟨[], [], [0]⟩, an0, an0, an0, an0, an0, an0, an0, an0, an0, an0, an0, an0, an0, an0, an0, an0, an0, an0, an0, an0, an0, an0, an0, an0, an0, an0, an0, an0, an0, an0, an0, an0, an0, an0, an0, an0] follows rfl (by kernel_rfl) <| SegO.opF (val := fun p2 => (.agg #[(prj (p2 0) 0)])) (fact := fun p2 HH => SlD (cP cB (cL (cP cU8 (cP cU8 cI64)))) HH x9 (prj (p2 0) 0)) rfl (fun _ => rfl) (fun _ => rfl) (fun _ _ _ hl h => h.mono hl) (fun _ p2 _ hx hf hy => (OpS.call ent14 rfl (au_All_w hx9)).mono (by rintro v HH OO ⟨⟨v14, rfl, hv14⟩, rfl⟩; exact ⟨rfl, hv14, rfl⟩)) rfl <| SegO.op (val := fun p2 => (.agg #[v13])) rfl rfl (fun _ => rfl) (fun _ p2 _ hx hf hy => OpT.ldBlkW (i := 0) u32 rfl ti32 rfl rfl (hy 0 _ rfl rfl)) rfl <| SegO.op (val := fun p2 => (.bool false)) rfl rfl (fun _ => rfl) (fun _ p2 _ hx hf hy => OpT.asB (b := x10) (c := false) (OpT.call ent13 rfl (r05_Same_w (a1 := ([(true, ([(0, 255, 0)] : List (Int × Int × Int)))] : List (Bool × (List (Int × Int × Int))))) (hf 0 rfl rfl) (hv13.mono hx) hx10)) hg7) rfl <| SegO.op (val := fun p2 => (.bool false)) rfl rfl (fun _ => rfl) (fun _ p2 _ hx hf hy => OpT.move rfl) rfl <| SegO.skipG rfl (fun _ => rfl) rfl rfl (fun _ h => by first | (cases h; done) | (cases h; decide)) <| SegO.skipG rfl (fun _ => rfl) rfl rfl (fun _ h => by first | (cases h; done) | (cases h; decide)) <| SegO.skipG rfl (fun _ => rfl) rfl rfl (fun _ h => by first | (cases h; done) | (cases h; decide)) ?_
 refine SegO.skipG rfl (fun _ => rfl) rfl rfl (fun _ h => by first | (cases h; done) | (cases h; decide)) <| SegO.op (val := fun p2 => (.bool false)) rfl rfl (fun _ => rfl) (fun _ p2 _ hx hf hy => OpT.pickF rfl rfl) rfl <| SegO.op (val := fun p2 => (.bool false)) rfl rfl (fun _ => rfl) (fun _ p2 _ hx hf hy => OpT.move rfl) rfl <| SegO.skipG rfl (fun _ => rfl) rfl rfl (fun _ h => by first | (cases h; done) | (cases h; decide)) <| SegO.skipG rfl (fun _ => rfl) rfl rfl (fun _ h => by first | (cases h; done) | (cases h; decide)) <| SegO.op (val := fun p2 => (.bool false)) rfl rfl (fun _ => rfl) (fun _ p2 _ hx hf hy => OpT.pickF rfl rfl) rfl <| SegO.op (val := fun p2 => (.bool false)) rfl rfl (fun _ => rfl) (fun _ p2 _ hx hf hy => OpT.move rfl) rfl <| SegO.skipG rfl (fun _ => rfl) rfl rfl (fun _ h => by first | (cases h; done) | (cases h; decide)) ?_
 refine SegO.skipG rfl (fun _ => rfl) rfl rfl (fun _ h => by first | (cases h; done) | (cases h; decide)) <| SegO.skipG rfl (fun _ => rfl) rfl rfl (fun _ h => by first | (cases h; done) | (cases h; decide)) <| SegO.op (val := fun p2 => (.bool false)) rfl rfl (fun _ => rfl) (fun _ p2 _ hx hf hy => OpT.pickF rfl rfl) rfl <| SegO.op (val := fun p2 => (.bool false)) rfl rfl (fun _ => rfl) (fun _ p2 _ hx hf hy => OpT.move rfl) rfl <| SegO.skipG rfl (fun _ => rfl) rfl rfl (fun _ h => by first | (cases h; done) | (cases h; decide)) <| SegO.skipG rfl (fun _ => rfl) rfl rfl (fun _ h => by first | (cases h; done) | (cases h; decide)) <| SegO.skipG rfl (fun _ => rfl) rfl rfl (fun _ h => by first | (cases h; done) | (cases h; decide)) <| SegO.op (val := fun p2 => (.bool false)) rfl rfl (fun _ => rfl) (fun _ p2 _ hx hf hy => OpT.pickF rfl rfl) rfl ?_
 refine SegO.op (val := fun p2 => (.bool false)) rfl rfl (fun _ => rfl) (fun _ p2 _ hx hf hy => OpT.move rfl) rfl <| SegO.skipG rfl (fun _ => rfl) rfl rfl (fun _ h => by first | (cases h; done) | (cases h; decide)) <| SegO.skipG rfl (fun _ => rfl) rfl rfl (fun _ h => by first | (cases h; done) | (cases h; decide)) <| SegO.op (val := fun p2 => (.bool false)) rfl rfl (fun _ => rfl) (fun _ p2 _ hx hf hy => OpT.pickF rfl rfl) rfl <| SegO.op (val := fun p2 => (.bool false)) rfl rfl (fun _ => rfl) (fun _ p2 _ hx hf hy => OpT.move rfl) rfl <| SegO.skipG rfl (fun _ => rfl) rfl rfl (fun _ h => by first | (cases h; done) | (cases h; decide)) <| SegO.skipG rfl (fun _ => rfl) rfl rfl (fun _ h => by first | (cases h; done) | (cases h; decide)) <| SegO.op (val := fun p2 => (.bool false)) rfl rfl (fun _ => rfl) (fun _ p2 _ hx hf hy => OpT.pickF rfl rfl) rfl ?_
 refine SegO.op (val := fun p2 => (.bool false)) rfl rfl (fun _ => rfl) (fun _ p2 _ hx hf hy => OpT.move rfl) rfl <| SegO.skipG rfl (fun _ => rfl) rfl rfl (fun _ h => by first | (cases h; done) | (cases h; decide)) <| SegO.skipG rfl (fun _ => rfl) rfl rfl (fun _ h => by first | (cases h; done) | (cases h; decide)) <| SegO.skipG rfl (fun _ => rfl) rfl rfl (fun _ h => by first | (cases h; done) | (cases h; decide)) <| SegO.skipG rfl (fun _ => rfl) rfl rfl (fun _ h => by first | (cases h; done) | (cases h; decide)) <| SegO.skipG rfl (fun _ => rfl) rfl rfl (fun _ h => by first | (cases h; done) | (cases h; decide)) <| SegO.op (val := fun p2 => (.bool false)) rfl rfl (fun _ => rfl) (fun _ p2 _ hx hf hy => OpT.pickF rfl rfl) rfl <| SegO.op (val := fun p2 => (.bool false)) rfl rfl (fun _ => rfl) (fun _ p2 _ hx hf hy => OpT.assign rfl) rfl ?_
 refine SegO.done fun H20 p2 hl20 hF9 => ?_
 have hf19 : SlD (cP cB (cL (cP cU8 (cP cU8 cI64)))) H20 x9 (prj (p2 0) 0) := hF9 0
 refine At.sub (L' := [(0, (.bool false))]) (Sub.of rfl) ?_
 refine At.own (O := .blk B7 (.cells #[v13] 32 (0, 0)) :: .blk B6 (.cells #[v11] 32 (0, 0)) :: .blk B5 (.cells #[v9] 32 (0, 0)) :: .blk B4 (.cells #[v6] 32 (0, 0)) :: .blk B3 (.cells #[v4] 32 (0, 0)) :: .blk (blkOf (p1 8)) (.cells #[(prj (prj (p1 4) 0) 0)] 32 (0, 0)) :: .blk B2 (.cells #[(.int .i64 2), (w64 (word (fun _ => false) 0)), (w64 (17179869184#64)), (w64 (word (fun _ => false) 2)), (w64 (word (fun _ => false) 3)), (.slice none 0 0)] 43 (0, 0)) :: O) ?_ (by first | rfl | (simp only [List.length_append, List.length_set]; rfl) | simp)
 refine At.then_n <| Wp.ret ?_
 obtain rfl := Option.some.inj hd
 exact At.res1 rfl (RV.tmp (v := (.bool false)) rfl) (fun w hs => ⟨rfl, (hs.dropN 7).weaken ((((((((((((hl1.trans hl2).trans hl3).trans hl4).trans hl5).trans hl6).trans hl7).trans hl8).trans hl9).trans hl10).trans hl11).trans hl12).trans hl20)⟩)
end Go.Proofs.YtjmbmodmepdmjabDoor
