/- Walks, written by a program. -/
import Derived.Test.YtjmbmodmepdmjaaDoorW1
namespace Go.Proofs.YtjmbmodmepdmjaaDoor
open Go.GK
variable {H : Hp} {O : List Res}

set_option maxRecDepth 100000 in
set_option maxHeartbeats 4000000 in
theorem au_key_w {fu : Nat} {a0 : List Int} {v1 : Value} {r : Str} (hv2 : SlD cI64 H a0 v1) (hG : LaidH Tryd.prog H) (hd : au_key fu a0 = some r) :
    TriV Tryd.prog 44 [v1] H O (sv r) := by
 intro w hs
 refine wp_of Tryd.func44 rfl rfl rfl ?_ hs
 clear hs w
 unfold au_key at hd
 refine Wp.sr <| Seg.op (OpT.assign rfl) rfl <| Seg.nilT <| Wp.sr <| Seg.alloc (cs := #[.pointer none, .slice none 0 0]) ti105 rfl rfl fun B3 => Seg.nilRow 5 1 ?_
 have hB4 : BldOk H B3 (.pointer none) (.slice none 0 0) [] [] := BldOk.new
 refine Seg.nilT <| Wp.seq <| Wp.sr <| Seg.op (OpT.move rfl) rfl ?_
 have hb5 := hv2.le
 refine Seg.op (OpT.len Tryd.underlying67 rfl hv2.sl) rfl <| Seg.op (OpT.move rfl) rfl <| Seg.nilT <| Wp.block <| Wp.sub (L' := [(3, (ptr B3 0)), (6, v1), (7, (.int .i64 (a0.length:Int))), (8, (.int .i64 ((0 : Nat) : Int)))]) (.cons rfl (.cons rfl (.cons rfl (.cons (lk_int rfl (by omega)) (.nil))))) <| Wp.loopE (fun m LL HH OO => ∃ (l38 : Str), ∃ (k43 : Nat), ∃ (a39 : Value), ∃ (v40 : Value), ∃ (xs41 : List Value), [(3, (ptr B3 0)), (6, v1), (7, (.int .i64 (a0.length:Int))), (8, (.int .i64 (k43:Int)))] = LL ∧ .row v40 5 1 l38.length xs41 :: .blk B3 (.cells #[a39, v40] 105 (0, 0)) :: O = OO ∧ loopK m (fun p nx => au_key_b1 fu a0 p.1 p.2 nx) (l38, k43) = some r ∧ BldOk HH B3 a39 v40 l38 xs41) fu ⟨([] : Str), 0, (.pointer none), (.slice none 0 0), [], rfl, rfl, hd, hB4⟩ ?_
 intro m45 L49 H47 O50 hl48 hI44
 obtain ⟨l38, k43, a39, v40, xs41, rfl, rfl, hd, hB42⟩ := hI44
 replace hd := loopK_some hd; obtain ⟨m46, rfl, hd⟩ := hd
 obtain ⟨nx37, hn51⟩ : ∃ f, f = loopK m46 (fun p nx => au_key_b1 fu a0 p.1 p.2 nx) := ⟨_, rfl⟩
 rw [← hn51] at hd
 replace hd : au_key_b1 fu a0 l38 k43 nx37 = some r := hd
 unfold au_key_b1 at hd
 refine Wp.sr <| Seg.op (OpT.lss rfl rfl) rfl <| Seg.nilT <| Wp.seq ?_
 refine Wp.cond (b := decide ((k43:Int) < (a0.length:Int))) rfl (fun hb52 => ?_) (fun hb52 => ?_)
 ·
  replace hd := brT hb52 hd
  replace hb52 := of_decide_eq_true hb52
  refine Wp.skip <| At.then_n <| Wp.seq <| Wp.block <| Wp.seq ?_
  obtain ⟨x53, hx54, hd⟩ := bnd_some hd
  have hx54_ := idx_bd hx54
  refine Wp.region ?_
  obtain ⟨_, rfl, hc55⟩ := SlD.get (hv2.mono hl48) hx54
  refine Seg.op (OpT.ixSl Tryd.underlying67 ti3 rfl (hv2.mono hl48).sl rfl (idx_bd hx54)) rfl <| Seg.op (OpT.ldH Tryd.underlying3 rfl rfl (hc55 0 _ rfl)) rfl <| Seg.op (OpT.assign rfl) rfl <| Seg.nilT ?_
  replace hd := chk_some hd; obtain ⟨ha56, hd⟩ := hd
  replace hd := chk_some hd; obtain ⟨ha57, hd⟩ := hd
  replace hd := chk_some hd; obtain ⟨ha58, hd⟩ := hd
  refine Wp.region <| Seg.op (OpT.move rfl) rfl <| Seg.op (OpT.call ent50 rfl (itoaT (hG.mono hl48) ha56)) rfl <| Seg.op (OpT.catStr rfl rfl ha57) rfl <| Seg.permK [1, 0] 2 rfl rfl rfl <| Seg.opS (OpS.call ent49 rfl (bldW2 hB42 ha58)) rfl ?_
  rintro _ H59 _ hl60 ⟨v61, xs62, rfl, hB63, rfl⟩
  refine Seg.nil <| At.blk_n <| At.then_n <| Wp.region <| Seg.op (OpT.add rfl rfl (fits64 (by omega))) rfl <| Seg.op (OpT.move rfl) rfl <| Seg.nil <| At.permK [1, 0] 2 rfl rfl rfl ?_
  refine At.nextE (L' := [(3, (ptr B3 0)), (6, v1), (7, (.int .i64 (a0.length:Int))), (8, (.int .i64 ((k43 + 1 : Nat) : Int)))]) m46 (Nat.lt_succ_self _) hl60 (.cons rfl (.cons rfl (.cons rfl (.cons (lk_int rfl (by omega)) (.nil))))) ⟨(l38 ++ ((Lib.itoa x53) ++ ([44] : Str))), (k43 + 1), (ptr B3 0), v61, xs62, rfl, rfl, (by rw [← hn51]; exact hd), hB63⟩
 replace hd := brF hb52 hd
 replace hb52 := of_decide_eq_false hb52
 refine Wp.exit <| At.then_x <| At.then_x <| At.blk_hit <| At.then_n <| Wp.sr <| Seg.permK [1, 0] 2 rfl rfl rfl <| Seg.opS (OpS.call ent51 rfl (bldS2 hB42)) rfl ?_
 rintro _ H64 _ hl65 ⟨rfl, rfl⟩
 refine Seg.op (OpT.assign rfl) rfl <| Seg.nilT <| Wp.ret ?_
 obtain rfl := Option.some.inj hd
 exact At.res1 rfl (RV.tmp (v := (sv l38)) rfl) (fun w hs => ⟨rfl, (hs.dropN 0).weaken (hl48.trans hl65)⟩)

set_option maxRecDepth 100000 in
set_option maxHeartbeats 4000000 in
theorem au_net_many_w {fu : Nat} {a0 : (List (List Int)) × (List (List (BSet × Int × Int))) × Int} {a1 : Int} {v1 v3 : Value} {B0 : Nat} {r : Bool} (hv2 : SlD (cL cI64) H a0.1 v1) (hv4 : SlD (cL (cP cBs (cP cI64 cI64))) H a0.2.1 v3) (hG : LaidH Tryd.prog H) (hd : au_net_many fu a0 a1 = some r) :
    TriV Tryd.prog 31 [(ptr B0 0), (.int .i64 a1)] H (.blk B0 (.cells #[v1, v3, (.int .i64 a0.2.2)] 62 (0, 0)) :: O) (.bool r) := by
 intro w hs
 refine wp_of Tryd.func31 rfl rfl rfl ?_ hs
 clear hs w
 unfold au_net_many at hd
 refine Wp.sr <| Seg.op (OpT.assign rfl) rfl <| Seg.nilT <| Wp.seq ?_
 obtain ⟨x5, hx6, hd⟩ := bnd_some hd
 replace hd := chk_some hd; obtain ⟨ha11, hd⟩ := hd
 refine Wp.region <| Seg.op (OpT.move rfl) rfl <| Seg.opS (OpS.call ent39 rfl (Tri.atR 0 rfl (au_net_sets_w hv2 hv4 hx6))) rfl ?_
 rintro _ H7 _ hl8 ⟨⟨v9, rfl, hv10⟩, rfl⟩
 refine Seg.opS (OpS.call ent38 rfl (part_i hv10 ha11)) rfl ?_
 rintro _ H12 _ hl13 ⟨⟨v14, rfl, hv15⟩, rfl⟩
 refine Seg.op (OpT.assign rfl) rfl <| Seg.nilT <| Wp.sr <| Seg.makeMap (mkS Tryd.underlying9) (meB Tryd.underlying4) rfl fun B16 => Seg.op (OpT.assign rfl) rfl <| Seg.nilT <| Wp.seq ?_
 obtain ⟨x20, hx21, hd⟩ := bnd_some hd
 refine Wp.region <| Seg.op (OpT.move rfl) rfl <| Seg.op (OpT.move rfl) rfl <| Seg.buildD1 (c := cI64) (y := a1) (cs := [(.int .i64 a1)]) Tryd.underlying67 ti3 rfl rfl rfl rfl (rfl) rfl fun v17 xs18 hq19 => Seg.permK [2, 0, 1] 3 rfl rfl rfl <| Seg.opS (OpS.call ent40 rfl (au_net_closure_w (hv2.mono (hl8.trans hl13)) (hv4.mono (hl8.trans hl13)) hq19 hx21)) rfl ?_
 rintro _ H22 _ hl23 ⟨⟨v24, rfl, hv25⟩, rfl⟩
 refine Seg.buildD1 (c := (cL cI64)) (y := x20) (cs := [v24]) Tryd.underlying59 ti67 rfl rfl rfl (cellsL hv25.one) (⟨_, rfl, hv25⟩) rfl fun v26 xs27 hq28 => Seg.op (OpT.assign rfl) rfl <| Seg.nilT <| Wp.seq <| Wp.sr <| Seg.op (OpT.assign rfl) rfl <| Seg.nilT <| Wp.block ?_
 refine Wp.sub (L' := [(0, (ptr B0 0)), (5, v14), (6, (.map (some B16))), (7, v26), (8, (.int .i64 ((0 : Nat) : Int)))]) (.cons rfl (.cons rfl (.cons rfl (.cons rfl (.cons (lk_int rfl (by omega)) (.nil)))))) <| Wp.loopE (fun m LL HH OO => ∃ (l2311 : List (List Int)), ∃ (m2315 : List (Str × Bool)), ∃ (k2316 : Nat), ∃ (v2312 : Value), ∃ (xs2313 : List Value), [(0, (ptr B0 0)), (5, v14), (6, (.map (some B16))), (7, v2312), (8, (.int .i64 (k2316:Int)))] = LL ∧ .row v2312 67 1 l2311.length xs2313 :: .blk B0 (.cells #[v1, v3, (.int .i64 a0.2.2)] 62 (0, 0)) :: mapR (mkS Tryd.underlying9) (meB Tryd.underlying4) B16 m2315 :: O = OO ∧ loopK m (fun p nx => au_net_many_b1 fu a0 x5 p.1 p.2.1 p.2.2 nx) (l2311, m2315, k2316) = some r ∧ LayL (cL cI64) HH l2311 xs2313) fu ⟨([x20] : List (List Int)), ([] : List (Str × Bool)), 0, v26, xs27, rfl, rfl, hd, hq28⟩ ?_
 intro m2318 L2322 H2320 O2323 hl2321 hI2317
 obtain ⟨l2311, m2315, k2316, v2312, xs2313, rfl, rfl, hd, hq2314⟩ := hI2317
 replace hd := loopK_some hd; obtain ⟨m2319, rfl, hd⟩ := hd
 obtain ⟨nx2310, hn2324⟩ : ∃ f, f = loopK m2319 (fun p nx => au_net_many_b1 fu a0 x5 p.1 p.2.1 p.2.2 nx) := ⟨_, rfl⟩
 rw [← hn2324] at hd
 replace hd : au_net_many_b1 fu a0 x5 l2311 m2315 k2316 nx2310 = some r := hd
 unfold au_net_many_b1 at hd
 refine Wp.seq <| Wp.sr <| Seg.op (OpT.move rfl) rfl <| Seg.op (OpT.move rfl) rfl ?_
 refine Seg.rowLe (i := 0) rfl fun hb2325 => ?_
 refine Seg.op (OpT.lenRow (i := 0) Tryd.underlying59 rfl rfl) rfl <| Seg.op (OpT.lss rfl rfl) rfl <| Seg.nilT ?_
 refine Wp.cond (b := decide ((k2316:Int) < (l2311.length:Int))) rfl (fun hb2326 => ?_) (fun hb2326 => ?_)
 ·
  replace hd := brT hb2326 hd
  replace hb2326 := of_decide_eq_true hb2326
  refine Wp.skip <| At.then_n <| Wp.seq <| Wp.block <| Wp.sr <| Seg.op (OpT.move rfl) rfl ?_
  have hb2327 := hv15.le
  refine Seg.op (OpT.len Tryd.underlying82 rfl (hv15.mono (hl23.trans hl2321)).sl) rfl <| Seg.op (OpT.move rfl) rfl <| Seg.nilT <| Wp.block <| Wp.sub (L' := [(0, (ptr B0 0)), (5, v14), (6, (.map (some B16))), (7, v2312), (8, (.int .i64 (k2316:Int))), (35, v14), (36, (.int .i64 (((partsD x5).length : Nat) : Int))), (37, (.int .i64 ((0 : Nat) : Int)))]) (.cons rfl (.cons rfl (.cons rfl (.cons rfl (.cons rfl (.cons rfl (.cons rfl (.cons (lk_int rfl (by omega)) (.nil))))))))) <| Wp.loopE (fun m LL HH OO => ∃ (l3084 : List (List Int)), ∃ (m3088 : List (Str × Bool)), ∃ (k3089 : Nat), ∃ (v3085 : Value), ∃ (xs3086 : List Value), [(0, (ptr B0 0)), (5, v14), (6, (.map (some B16))), (7, v3085), (8, (.int .i64 (k2316:Int))), (35, v14), (36, (.int .i64 (((partsD x5).length : Nat) : Int))), (37, (.int .i64 (k3089:Int)))] = LL ∧ .row v3085 67 1 l3084.length xs3086 :: .blk B0 (.cells #[v1, v3, (.int .i64 a0.2.2)] 62 (0, 0)) :: mapR (mkS Tryd.underlying9) (meB Tryd.underlying4) B16 m3088 :: O = OO ∧ loopK m (fun p nx => au_net_many_b2 fu a0 x5 k2316 nx2310 p.1 p.2.1 p.2.2 nx) (l3084, m3088, k3089) = some r ∧ LayL (cL cI64) HH l3084 xs3086) fu ⟨l2311, m2315, 0, v2312, xs2313, rfl, rfl, hd, hq2314⟩ ?_
  intro m3091 L3095 H3093 O3096 hl3094 hI3090
  obtain ⟨l3084, m3088, k3089, v3085, xs3086, rfl, rfl, hd, hq3087⟩ := hI3090
  replace hd := loopK_some hd; obtain ⟨m3092, rfl, hd⟩ := hd
  obtain ⟨nx3083, hn3097⟩ : ∃ f, f = loopK m3092 (fun p nx => au_net_many_b2 fu a0 x5 k2316 nx2310 p.1 p.2.1 p.2.2 nx) := ⟨_, rfl⟩
  rw [← hn3097] at hd
  replace hd : au_net_many_b2 fu a0 x5 k2316 nx2310 l3084 m3088 k3089 nx3083 = some r := hd
  unfold au_net_many_b2 at hd
  refine Wp.sr <| Seg.op (OpT.lss rfl rfl) rfl <| Seg.nilT <| Wp.seq ?_
  refine Wp.cond (b := decide ((k3089:Int) < (((partsD x5).length : Nat) : Int))) rfl (fun hb3098 => ?_) (fun hb3098 => ?_)
  ·
   replace hd := brT hb3098 hd
   replace hb3098 := of_decide_eq_true hb3098
   refine Wp.skip <| At.then_n <| Wp.seq <| Wp.block <| Wp.seq ?_
   obtain ⟨x3099, hx3100, hd⟩ := bnd_some hd
   have hx3100_ := idx_bd hx3100
   refine Wp.region ?_
   obtain ⟨_, rfl, hc3101⟩ := SlD.get (hv15.mono ((hl23.trans hl2321).trans hl3094)) hx3100
   refine Seg.op (OpT.ixSl Tryd.underlying82 ti43 rfl (hv15.mono ((hl23.trans hl2321).trans hl3094)).sl rfl (idx_bd hx3100)) rfl <| Seg.op (OpT.ldHA (vs := [(w64 (word x3099 0)), (w64 (word x3099 1)), (w64 (word x3099 2)), (w64 (word x3099 3))]) Tryd.underlying43 rfl ti43 rfl rfl (fun j u hj => (hc3101 j u hj))) rfl <| Seg.alloc (cs := bcs (fun _ => false)) ti43 bcs_empty rfl fun B3102 => Seg.stBlkW (i := 0) (cs' := #[(w64 (word x3099 0)), (w64 (word x3099 1)), (w64 (word x3099 2)), (w64 (word x3099 3))]) rfl rfl ti43 rfl rfl (onesA (ones_cons rfl (ones_cons rfl (ones_cons rfl (ones_cons rfl (ones_nil)))))) rfl ?_
   refine Seg.own (O := .blk B3102 (.cells #[(w64 (word x3099 0)), (w64 (word x3099 1)), (w64 (word x3099 2)), (w64 (word x3099 3))] 43 (0, 0)) :: .row v3085 67 1 l3084.length xs3086 :: .blk B0 (.cells #[v1, v3, (.int .i64 a0.2.2)] 62 (0, 0)) :: mapR (mkS Tryd.underlying9) (meB Tryd.underlying4) B16 m3088 :: O) ?_ rfl
   refine Seg.nilT <| Wp.seq ?_
   have := lst_lt x3099
   refine Wp.region <| Seg.op (OpT.ldBlkW (i := 0) Tryd.underlying43 rfl ti43 rfl rfl rfl) rfl <| Seg.op (OpT.call ent41 rfl (@least_i _ _ x3099)) rfl <| Seg.op (OpT.move rfl) rfl <| Seg.op (OpT.extract rfl rfl) rfl <| Seg.op (OpT.extract rfl rfl) rfl <| Seg.op (OpT.assign rfl) rfl <| Seg.op (OpT.assign rfl) rfl ?_
   refine Seg.nilT <| Wp.sr <| Seg.op (OpT.assign rfl) rfl <| Seg.op (OpT.assign rfl) rfl <| Seg.nilT <| Wp.seq <| Wp.seq ?_
   obtain ⟨x3105, hx3106, hd⟩ := bnd_some hd
   have hx3106_ := idx_bd hx3106
   refine Wp.region <| Seg.op (OpT.move rfl) rfl <| Seg.op (OpT.move rfl) rfl ?_
   obtain ⟨_, ⟨v3108, rfl, hv3109⟩, hc3107, hc3107_⟩ := LayL.get hq3087 (idx_some hx3106).2
   refine Seg.op (OpT.ixRow (j := 1) Tryd.underlying59 ti67 rfl rfl rfl (idx_bd hx3106)) rfl <| Seg.op (OpT.ldRow (i := 1) (k := k2316 * 1 + 0) Tryd.underlying67 rfl rfl rfl (hc3107 0 _ rfl)) rfl ?_
   have hb3110 := hv3109.le
   refine Seg.op (OpT.len Tryd.underlying67 rfl hv3109.sl) rfl <| Seg.op (OpT.move rfl) rfl <| Seg.nilT <| Wp.block <| Wp.nilRow 3 1 <| Wp.nilRow 3 1 <| Wp.sub (L' := [(0, (ptr B0 0)), (5, v14), (6, (.map (some B16))), (7, v3085), (8, (.int .i64 (k2316:Int))), (11, (.int .u8 ((lst x3099 : Nat) : Int))), (13, (.slice none 0 0)), (14, (.slice none 0 0)), (35, v14), (36, (.int .i64 (((partsD x5).length : Nat) : Int))), (37, (.int .i64 (k3089:Int))), (49, v3108), (50, (.int .i64 (x3105.length:Int))), (51, (.int .i64 ((0 : Nat) : Int)))]) (.cons rfl (.cons rfl (.cons rfl (.cons rfl (.cons rfl (.cons rfl (.cons rfl (.cons rfl (.cons rfl (.cons rfl (.cons rfl (.cons rfl (.cons rfl (.cons (lk_int rfl (by omega)) (.nil))))))))))))))) <| Wp.loopE (fun m LL HH OO => ∃ (l3329 : List Int), ∃ (l3333 : List Int), ∃ (k3337 : Nat), ∃ (v3330 : Value), ∃ (xs3331 : List Value), ∃ (v3334 : Value), ∃ (xs3335 : List Value), [(0, (ptr B0 0)), (5, v14), (6, (.map (some B16))), (7, v3085), (8, (.int .i64 (k2316:Int))), (11, (.int .u8 ((lst x3099 : Nat) : Int))), (13, v3330), (14, v3334), (35, v14), (36, (.int .i64 (((partsD x5).length : Nat) : Int))), (37, (.int .i64 (k3089:Int))), (49, v3108), (50, (.int .i64 (x3105.length:Int))), (51, (.int .i64 (k3337:Int)))] = LL ∧ .row v3334 3 1 l3333.length xs3335 :: .row v3330 3 1 l3329.length xs3331 :: .blk B3102 (.cells #[(w64 (word x3099 0)), (w64 (word x3099 1)), (w64 (word x3099 2)), (w64 (word x3099 3))] 43 (0, 0)) :: .row v3085 67 1 l3084.length xs3086 :: .blk B0 (.cells #[v1, v3, (.int .i64 a0.2.2)] 62 (0, 0)) :: mapR (mkS Tryd.underlying9) (meB Tryd.underlying4) B16 m3088 :: O = OO ∧ loopK m (fun p nx => au_net_many_b3 fu a0 l3084 m3088 k3089 nx3083 x3099 x3105 p.1 p.2.1 p.2.2 nx) (l3329, l3333, k3337) = some r ∧ LayL cI64 HH l3329 xs3331 ∧ LayL cI64 HH l3333 xs3335) fu ⟨([] : List Int), ([] : List Int), 0, (.slice none 0 0), [], (.slice none 0 0), [], rfl, rfl, hd, (LayL.nil (c := cI64) (H := H3093)), (LayL.nil (c := cI64) (H := H3093))⟩ ?_
   intro m3339 L3343 H3341 O3344 hl3342 hI3338
   obtain ⟨l3329, l3333, k3337, v3330, xs3331, v3334, xs3335, rfl, rfl, hd, hq3332, hq3336⟩ := hI3338
   replace hd := loopK_some hd; obtain ⟨m3340, rfl, hd⟩ := hd
   obtain ⟨nx3328, hn3345⟩ : ∃ f, f = loopK m3340 (fun p nx => au_net_many_b3 fu a0 l3084 m3088 k3089 nx3083 x3099 x3105 p.1 p.2.1 p.2.2 nx) := ⟨_, rfl⟩
   rw [← hn3345] at hd
   replace hd : au_net_many_b3 fu a0 l3084 m3088 k3089 nx3083 x3099 x3105 l3329 l3333 k3337 nx3328 = some r := hd
   unfold au_net_many_b3 at hd
   refine Wp.sr <| Seg.op (OpT.lss rfl rfl) rfl <| Seg.nilT <| Wp.seq ?_
   refine Wp.cond (b := decide ((k3337:Int) < (x3105.length:Int))) rfl (fun hb3346 => ?_) (fun hb3346 => ?_)
   ·
    replace hd := brT hb3346 hd
    replace hb3346 := of_decide_eq_true hb3346
    refine Wp.skip <| At.then_n <| Wp.seq <| Wp.block <| Wp.seq ?_
    obtain ⟨x3347, hx3348, hd⟩ := bnd_some hd
    have hx3348_ := idx_bd hx3348
    refine Wp.region ?_
    obtain ⟨_, rfl, hc3349⟩ := SlD.get (hv3109.mono hl3342) hx3348
    refine Seg.op (OpT.ixSl Tryd.underlying67 ti3 rfl (hv3109.mono hl3342).sl rfl (idx_bd hx3348)) rfl <| Seg.op (OpT.ldH Tryd.underlying3 rfl rfl (hc3349 0 _ rfl)) rfl <| Seg.op (OpT.assign rfl) rfl <| Seg.nilT <| Wp.seq ?_
    obtain ⟨x3350, hx3351, hd⟩ := bnd_some hd
    have hx3351_ := idx_bd hx3351
    refine Wp.region <| Seg.op (OpT.move rfl) rfl <| Seg.op (OpT.nilCheck rfl) rfl <| Seg.op (OpT.fld (o' := 1) fl62_1 rfl rfl) rfl <| Seg.op (OpT.ldBlk (i := 4) (v := v3) Tryd.underlying60 rfl rfl rfl rfl) rfl <| Seg.op (OpT.move rfl) rfl ?_
    obtain ⟨_, ⟨v3353, rfl, hv3354⟩, hc3352⟩ := SlD.get (hv4.mono (((((hl8.trans hl13).trans hl23).trans hl2321).trans hl3094).trans hl3342)) hx3351
    refine Seg.op (OpT.ixSl Tryd.underlying60 ti79 rfl (hv4.mono (((((hl8.trans hl13).trans hl23).trans hl2321).trans hl3094).trans hl3342)).sl rfl (idx_bd hx3351)) rfl <| Seg.op (OpT.ldH Tryd.underlying79 rfl rfl (hc3352 0 _ rfl)) rfl ?_
    have hb3355 := hv3354.le
    refine Seg.op (OpT.len Tryd.underlying79 rfl hv3354.sl) rfl <| Seg.op (OpT.move rfl) rfl <| Seg.nilT <| Wp.block <| Wp.sub (L' := [(0, (ptr B0 0)), (5, v14), (6, (.map (some B16))), (7, v3085), (8, (.int .i64 (k2316:Int))), (11, (.int .u8 ((lst x3099 : Nat) : Int))), (13, v3330), (14, v3334), (35, v14), (36, (.int .i64 (((partsD x5).length : Nat) : Int))), (37, (.int .i64 (k3089:Int))), (49, v3108), (50, (.int .i64 (x3105.length:Int))), (51, (.int .i64 (k3337:Int))), (61, v3353), (62, (.int .i64 (x3350.length:Int))), (63, (.int .i64 ((0 : Nat) : Int)))]) (.cons rfl (.cons rfl (.cons rfl (.cons rfl (.cons rfl (.cons rfl (.cons rfl (.cons rfl (.cons rfl (.cons rfl (.cons rfl (.cons rfl (.cons rfl (.cons rfl (.cons rfl (.cons rfl (.cons (lk_int rfl (by omega)) (.nil)))))))))))))))))) <| Wp.loopE (fun m LL HH OO => ∃ (l3416 : List Int), ∃ (l3420 : List Int), ∃ (k3424 : Nat), ∃ (v3417 : Value), ∃ (xs3418 : List Value), ∃ (v3421 : Value), ∃ (xs3422 : List Value), [(0, (ptr B0 0)), (5, v14), (6, (.map (some B16))), (7, v3085), (8, (.int .i64 (k2316:Int))), (11, (.int .u8 ((lst x3099 : Nat) : Int))), (13, v3417), (14, v3421), (35, v14), (36, (.int .i64 (((partsD x5).length : Nat) : Int))), (37, (.int .i64 (k3089:Int))), (49, v3108), (50, (.int .i64 (x3105.length:Int))), (51, (.int .i64 (k3337:Int))), (61, v3353), (62, (.int .i64 (x3350.length:Int))), (63, (.int .i64 (k3424:Int)))] = LL ∧ .row v3421 3 1 l3420.length xs3422 :: .row v3417 3 1 l3416.length xs3418 :: .blk B3102 (.cells #[(w64 (word x3099 0)), (w64 (word x3099 1)), (w64 (word x3099 2)), (w64 (word x3099 3))] 43 (0, 0)) :: .row v3085 67 1 l3084.length xs3086 :: .blk B0 (.cells #[v1, v3, (.int .i64 a0.2.2)] 62 (0, 0)) :: mapR (mkS Tryd.underlying9) (meB Tryd.underlying4) B16 m3088 :: O = OO ∧ loopK m (fun p nx => au_net_many_b4 fu x3099 k3337 nx3328 x3350 p.1 p.2.1 p.2.2 nx) (l3416, l3420, k3424) = some r ∧ LayL cI64 HH l3416 xs3418 ∧ LayL cI64 HH l3420 xs3422) fu ⟨l3329, l3333, 0, v3330, xs3331, v3334, xs3335, rfl, rfl, hd, hq3332, hq3336⟩ ?_
    intro m3426 L3430 H3428 O3431 hl3429 hI3425
    obtain ⟨l3416, l3420, k3424, v3417, xs3418, v3421, xs3422, rfl, rfl, hd, hq3419, hq3423⟩ := hI3425
    replace hd := loopK_some hd; obtain ⟨m3427, rfl, hd⟩ := hd
    obtain ⟨nx3415, hn3432⟩ : ∃ f, f = loopK m3427 (fun p nx => au_net_many_b4 fu x3099 k3337 nx3328 x3350 p.1 p.2.1 p.2.2 nx) := ⟨_, rfl⟩
    rw [← hn3432] at hd
    replace hd : au_net_many_b4 fu x3099 k3337 nx3328 x3350 l3416 l3420 k3424 nx3415 = some r := hd
    unfold au_net_many_b4 at hd
    refine Wp.sr <| Seg.op (OpT.lss rfl rfl) rfl <| Seg.nilT <| Wp.seq ?_
    refine Wp.cond (b := decide ((k3424:Int) < (x3350.length:Int))) rfl (fun hb3433 => ?_) (fun hb3433 => ?_)
    ·
     replace hd := brT hb3433 hd
     replace hb3433 := of_decide_eq_true hb3433
     refine Wp.skip <| At.then_n <| Wp.seq <| Wp.block <| Wp.seq ?_
     obtain ⟨x3434, hx3435, hd⟩ := bnd_some hd
     have hx3435_ := idx_bd hx3435
     refine Wp.region ?_
     obtain ⟨_, ⟨_, _, rfl, rfl, ⟨_, _, rfl, rfl, rfl⟩⟩, hc3436⟩ := SlD.get (hv3354.mono hl3429) hx3435
     refine Seg.op (OpT.ixSl Tryd.underlying79 ti81 rfl (hv3354.mono hl3429).sl rfl (idx_bd hx3435)) rfl <| Seg.op (OpT.ldHA (vs := [(w64 (word x3434.1 0)), (w64 (word x3434.1 1)), (w64 (word x3434.1 2)), (w64 (word x3434.1 3)), (.int .i64 x3434.2.1), (.int .i64 x3434.2.2)]) Tryd.underlying81 rfl ti81 rfl rfl (fun j u hj => (hc3436 j u hj))) rfl <| Seg.alloc (cs := #[(w64 (word (fun _ => false) 0)), (w64 (word (fun _ => false) 1)), (w64 (word (fun _ => false) 2)), (w64 (word (fun _ => false) 3)), (.int .i64 0), (.int .i64 0)]) ti81 (by simp only [zw]; rfl) rfl fun B3437 => Seg.stBlkW (i := 0) (cs' := #[(w64 (word x3434.1 0)), (w64 (word x3434.1 1)), (w64 (word x3434.1 2)), (w64 (word x3434.1 3)), (.int .i64 x3434.2.1), (.int .i64 x3434.2.2)]) rfl rfl ti81 rfl rfl (onesA (ones_cons rfl (ones_cons rfl (ones_cons rfl (ones_cons rfl (ones_cons rfl (ones_cons rfl (ones_nil)))))))) rfl ?_
     refine Seg.own (O := .blk B3437 (.cells #[(w64 (word x3434.1 0)), (w64 (word x3434.1 1)), (w64 (word x3434.1 2)), (w64 (word x3434.1 3)), (.int .i64 x3434.2.1), (.int .i64 x3434.2.2)] 81 (0, 0)) :: .row v3421 3 1 l3420.length xs3422 :: .row v3417 3 1 l3416.length xs3418 :: .blk B3102 (.cells #[(w64 (word x3099 0)), (w64 (word x3099 1)), (w64 (word x3099 2)), (w64 (word x3099 3))] 43 (0, 0)) :: .row v3085 67 1 l3084.length xs3086 :: .blk B0 (.cells #[v1, v3, (.int .i64 a0.2.2)] 62 (0, 0)) :: mapR (mkS Tryd.underlying9) (meB Tryd.underlying4) B16 m3088 :: O) ?_ rfl
     refine Seg.nilT <| Wp.sr <| Seg.op (OpT.fld (o' := 0) fl81_0 rfl rfl) rfl <| Seg.op (OpT.ldBlkX (i := 0) (vs := [(w64 (word x3434.1 0)), (w64 (word x3434.1 1)), (w64 (word x3434.1 2)), (w64 (word x3434.1 3))]) Tryd.underlying43 rfl ti43 rfl rfl rfl) rfl <| Seg.op (OpT.move rfl) rfl <| Seg.op (OpT.call ent42 rfl (@has_i _ _ x3434.1 ((lst x3099 : Nat) : Int) (by omega) (by omega))) rfl <| Seg.nilT ?_
     refine Wp.cond (b := x3434.1 (((lst x3099 : Nat) : Int)).toNat) rfl (fun hb3438 => ?_) (fun hb3438 => ?_)
     ·
      replace hd := brT hb3438 hd
      replace hd := chk_some hd; obtain ⟨ha3449, hd⟩ := hd
      replace hd := chk_some hd; obtain ⟨ha3450, hd⟩ := hd
      refine Wp.emp <| Wp.emp <| SegO.runK 9 [an0, an0, ⟨[2], [], []⟩, ⟨[0], [0], [3]⟩, ⟨[0, 4], [4], [4]⟩, an0, an0, ⟨[2], [], []⟩, ⟨[1], [1], [8]⟩, ⟨[1, 3], [3], [9]⟩, ⟨[], [], [4]⟩, ⟨[], [], [9]⟩] follows rfl (by kernel_rfl) <| SegO.op (val := fun p3448 => v3417) rfl rfl (fun _ => rfl) (fun _ p3448 _ hx hf hy => OpT.move rfl) rfl <| SegO.op (val := fun p3448 => (ptr B3437 5)) rfl rfl (fun _ => rfl) (fun _ p3448 _ hx hf hy => OpT.fld (o' := 5) fl81_2 rfl rfl) rfl <| SegO.op (val := fun p3448 => (.int .i64 x3434.2.2)) rfl rfl (fun _ => rfl) (fun _ p3448 _ hx hf hy => OpT.ldBlk (i := 2) (v := (.int .i64 x3434.2.2)) Tryd.underlying3 rfl rfl (hy 2 _ rfl rfl) rfl) rfl <| SegO.op1s (res := fun p3448 => .row (p3448 3) 3 1 1 [(.int .i64 x3434.2.2)]) 0 rfl rfl rfl (fun _ => rfl) (fun _ p3448 _ hx hf hy => OpS.buildR1 (v := (.int .i64 x3434.2.2)) (cs := [(.int .i64 x3434.2.2)]) 0 Tryd.underlying67 ti3 rfl rfl rfl rfl rfl (hy 0 _ rfl rfl)) rfl (fun _ => ⟨_, _, _, _, rfl⟩) <| SegO.op1s (res := fun p3448 => .row (p3448 4) 3 1 (l3416.length + 1) (xs3418 ++ [(.int .i64 x3434.2.2)])) 4 rfl rfl rfl (fun _ => rfl) (fun _ p3448 _ hx hf hy => OpS.appR 4 0 Tryd.underlying67 ti3 rfl rfl rfl rfl (hy 4 _ rfl rfl) (hy 0 _ rfl rfl) (ones_cons rfl (ones_nil)) rfl ha3449) rfl (fun _ => ⟨_, _, _, _, rfl⟩) ?_
      refine SegO.op (val := fun p3448 => v3421) rfl rfl (fun _ => rfl) (fun _ p3448 _ hx hf hy => OpT.move rfl) rfl <| SegO.op (val := fun p3448 => (ptr B3437 4)) rfl rfl (fun _ => rfl) (fun _ p3448 _ hx hf hy => OpT.fld (o' := 4) fl81_1 rfl rfl) rfl <| SegO.op (val := fun p3448 => (.int .i64 x3434.2.1)) rfl rfl (fun _ => rfl) (fun _ p3448 _ hx hf hy => OpT.ldBlk (i := 2) (v := (.int .i64 x3434.2.1)) Tryd.underlying3 rfl rfl (hy 2 _ rfl rfl) rfl) rfl <| SegO.op1s (res := fun p3448 => .row (p3448 8) 3 1 1 [(.int .i64 x3434.2.1)]) 1 rfl rfl rfl (fun _ => rfl) (fun _ p3448 _ hx hf hy => OpS.buildR1 (v := (.int .i64 x3434.2.1)) (cs := [(.int .i64 x3434.2.1)]) 1 Tryd.underlying67 ti3 rfl rfl rfl rfl rfl (hy 1 _ rfl rfl)) rfl (fun _ => ⟨_, _, _, _, rfl⟩) <| SegO.op1s (res := fun p3448 => .row (p3448 9) 3 1 (l3420.length + 1) (xs3422 ++ [(.int .i64 x3434.2.1)])) 3 rfl rfl rfl (fun _ => rfl) (fun _ p3448 _ hx hf hy => OpS.appR 3 1 Tryd.underlying67 ti3 rfl rfl rfl rfl (hy 3 _ rfl rfl) (hy 1 _ rfl rfl) (ones_cons rfl (ones_nil)) rfl ha3450) rfl (fun _ => ⟨_, _, _, _, rfl⟩) <| SegO.op (val := fun p3448 => (p3448 4)) rfl rfl (fun _ => rfl) (fun _ p3448 _ hx hf hy => OpT.assign rfl) rfl <| SegO.op (val := fun p3448 => (p3448 9)) rfl rfl (fun _ => rfl) (fun _ p3448 _ hx hf hy => OpT.assign rfl) rfl <| SegO.done fun H3451 p3448 hl3452 hF3453 => ?_
      refine At.sub (L' := [(0, (ptr B0 0)), (5, v14), (6, (.map (some B16))), (7, v3085), (8, (.int .i64 (k2316:Int))), (11, (.int .u8 ((lst x3099 : Nat) : Int))), (13, (p3448 4)), (14, (p3448 9)), (35, v14), (36, (.int .i64 (((partsD x5).length : Nat) : Int))), (37, (.int .i64 (k3089:Int))), (49, v3108), (50, (.int .i64 (x3105.length:Int))), (51, (.int .i64 (k3337:Int))), (61, v3353), (62, (.int .i64 (x3350.length:Int))), (63, (.int .i64 (k3424:Int)))]) (.cons rfl (.cons rfl (.cons rfl (.cons rfl (.cons rfl (.cons rfl (.cons rfl (.cons rfl (.cons rfl (.cons rfl (.cons rfl (.cons rfl (.cons rfl (.cons rfl (.cons rfl (.cons rfl (.cons rfl (.nil)))))))))))))))))) ?_
      refine At.own (O := .row (p3448 3) 3 1 ([x3434.2.2] : List Int).length [(.int .i64 x3434.2.2)] :: .row (p3448 8) 3 1 ([x3434.2.1] : List Int).length [(.int .i64 x3434.2.1)] :: .blk B3437 (.cells #[(w64 (word x3434.1 0)), (w64 (word x3434.1 1)), (w64 (word x3434.1 2)), (w64 (word x3434.1 3)), (.int .i64 x3434.2.1), (.int .i64 x3434.2.2)] 81 (0, 0)) :: .row (p3448 9) 3 1 (l3420 ++ ([x3434.2.1] : List Int)).length (xs3422 ++ [(.int .i64 x3434.2.1)]) :: .row (p3448 4) 3 1 (l3416 ++ ([x3434.2.2] : List Int)).length (xs3418 ++ [(.int .i64 x3434.2.2)]) :: .blk B3102 (.cells #[(w64 (word x3099 0)), (w64 (word x3099 1)), (w64 (word x3099 2)), (w64 (word x3099 3))] 43 (0, 0)) :: .row v3085 67 1 l3084.length xs3086 :: .blk B0 (.cells #[v1, v3, (.int .i64 a0.2.2)] 62 (0, 0)) :: mapR (mkS Tryd.underlying9) (meB Tryd.underlying4) B16 m3088 :: O) ?_ (by first | rfl | (simp only [List.length_append, List.length_set]; rfl) | simp)
      have hq3455 : LayL cI64 H3451 (l3420 ++ ([x3434.2.1] : List Int)) (xs3422 ++ [(.int .i64 x3434.2.1)]) := (LayL.app (hq3423.mono hl3452) (LayL.sing (c := cI64) (a := x3434.2.1) (cs := [(.int .i64 x3434.2.1)]) rfl))
      have hq3456 : LayL cI64 H3451 (l3416 ++ ([x3434.2.2] : List Int)) (xs3418 ++ [(.int .i64 x3434.2.2)]) := (LayL.app (hq3419.mono hl3452) (LayL.sing (c := cI64) (a := x3434.2.2) (cs := [(.int .i64 x3434.2.2)]) rfl))
      refine At.permK [2, 3, 4, 5, 6, 7, 8] 9 rfl rfl rfl <| At.blk_n <| At.then_n <| Wp.region <| Seg.op (OpT.add rfl rfl (fits64 (by omega))) rfl <| Seg.op (OpT.move rfl) rfl <| Seg.nil <| At.permK [1, 2, 3, 4, 5, 6] 7 rfl rfl rfl ?_
      refine At.nextE (L' := [(0, (ptr B0 0)), (5, v14), (6, (.map (some B16))), (7, v3085), (8, (.int .i64 (k2316:Int))), (11, (.int .u8 ((lst x3099 : Nat) : Int))), (13, (p3448 4)), (14, (p3448 9)), (35, v14), (36, (.int .i64 (((partsD x5).length : Nat) : Int))), (37, (.int .i64 (k3089:Int))), (49, v3108), (50, (.int .i64 (x3105.length:Int))), (51, (.int .i64 (k3337:Int))), (61, v3353), (62, (.int .i64 (x3350.length:Int))), (63, (.int .i64 ((k3424 + 1 : Nat) : Int)))]) m3427 (Nat.lt_succ_self _) hl3452 (.cons rfl (.cons rfl (.cons rfl (.cons rfl (.cons rfl (.cons rfl (.cons rfl (.cons rfl (.cons rfl (.cons rfl (.cons rfl (.cons rfl (.cons rfl (.cons rfl (.cons rfl (.cons rfl (.cons (lk_int rfl (by omega)) (.nil)))))))))))))))))) ⟨(l3416 ++ ([x3434.2.2] : List Int)), (l3420 ++ ([x3434.2.1] : List Int)), (k3424 + 1), (p3448 4), xs3418 ++ [(.int .i64 x3434.2.2)], (p3448 9), xs3422 ++ [(.int .i64 x3434.2.1)], rfl, rfl, (by rw [← hn3432]; exact hd), hq3456, hq3455⟩
     replace hd := brF hb3438 hd
     refine Wp.skip <| At.blk_n <| At.then_n <| Wp.region <| Seg.op (OpT.add rfl rfl (fits64 (by omega))) rfl <| Seg.op (OpT.move rfl) rfl <| Seg.nil <| At.permK [1, 2, 3, 4, 5, 6] 7 rfl rfl rfl ?_
     refine At.nextE (L' := [(0, (ptr B0 0)), (5, v14), (6, (.map (some B16))), (7, v3085), (8, (.int .i64 (k2316:Int))), (11, (.int .u8 ((lst x3099 : Nat) : Int))), (13, v3417), (14, v3421), (35, v14), (36, (.int .i64 (((partsD x5).length : Nat) : Int))), (37, (.int .i64 (k3089:Int))), (49, v3108), (50, (.int .i64 (x3105.length:Int))), (51, (.int .i64 (k3337:Int))), (61, v3353), (62, (.int .i64 (x3350.length:Int))), (63, (.int .i64 ((k3424 + 1 : Nat) : Int)))]) m3427 (Nat.lt_succ_self _) (Hp.le.refl _) (.cons rfl (.cons rfl (.cons rfl (.cons rfl (.cons rfl (.cons rfl (.cons rfl (.cons rfl (.cons rfl (.cons rfl (.cons rfl (.cons rfl (.cons rfl (.cons rfl (.cons rfl (.cons rfl (.cons (lk_int rfl (by omega)) (.nil)))))))))))))))))) ⟨l3416, l3420, (k3424 + 1), v3417, xs3418, v3421, xs3422, rfl, rfl, (by rw [← hn3432]; exact hd), hq3419, hq3423⟩
    replace hd := brF hb3433 hd
    replace hb3433 := of_decide_eq_false hb3433
    refine Wp.exit <| At.then_x <| At.then_x <| At.blk_hit <| At.blk_n <| At.then_n <| Wp.region <| Seg.op (OpT.add rfl rfl (fits64 (by omega))) rfl ?_
    refine Seg.op (OpT.move rfl) rfl <| Seg.nil ?_
    refine At.nextE (L' := [(0, (ptr B0 0)), (5, v14), (6, (.map (some B16))), (7, v3085), (8, (.int .i64 (k2316:Int))), (11, (.int .u8 ((lst x3099 : Nat) : Int))), (13, v3417), (14, v3421), (35, v14), (36, (.int .i64 (((partsD x5).length : Nat) : Int))), (37, (.int .i64 (k3089:Int))), (49, v3108), (50, (.int .i64 (x3105.length:Int))), (51, (.int .i64 ((k3337 + 1 : Nat) : Int)))]) m3340 (Nat.lt_succ_self _) hl3429 (.cons rfl (.cons rfl (.cons rfl (.cons rfl (.cons rfl (.cons rfl (.cons rfl (.cons rfl (.cons rfl (.cons rfl (.cons rfl (.cons rfl (.cons rfl (.cons (lk_int rfl (by omega)) (.nil))))))))))))))) ⟨l3416, l3420, (k3337 + 1), v3417, xs3418, v3421, xs3422, rfl, rfl, (by rw [← hn3345]; exact hd), hq3419, hq3423⟩
   replace hd := brF hb3346 hd
   replace hb3346 := of_decide_eq_false hb3346
   refine Wp.exit <| At.then_x <| At.then_x <| At.blk_hit <| At.then_n <| Wp.seq ?_
   replace hd := chk_some hd; obtain ⟨ha3457, hd⟩ := hd
   refine Wp.region <| Seg.op (OpT.move rfl) rfl <| Seg.permK [1, 0, 2, 3, 4, 5] 6 rfl rfl rfl <| Seg.opS (OpS.call ent43 rfl (sortT hq3332 ha3457)) rfl ?_
   rintro _ H3458 _ hl3459 ⟨xs3460, rfl, hq3461, rfl⟩
   refine Seg.nilT <| Wp.seq ?_
   obtain ⟨x3467, hx3468, hd⟩ := bnd_some hd
   refine Wp.region <| Seg.op (OpT.move rfl) rfl ?_
   refine Seg.rowLe (i := 0) rfl fun hb3462 => ?_
   refine Seg.freeze (i := 0) rfl fun H3463 hl3464 hs3465 => ?_
   have hv3466 := SlD.of (c := cI64) hs3465 rfl (hq3461.mono hl3464) hb3462
   refine Seg.op (OpT.call ent44 rfl (au_key_w hv3466 (hG.mono (((((((hl8.trans hl13).trans hl23).trans hl2321).trans hl3094).trans hl3342).trans hl3459).trans hl3464)) hx3468)) rfl <| Seg.op (OpT.assign rfl) rfl <| Seg.nilT <| Wp.seq <| Wp.seq ?_
   rcases Bool.eq_false_or_eq_true (decide ((((sortI l3329).length : Nat) : Int) = 0)) with hg3470 | hg3470
   ·
    replace hd := brT hg3470 hd
    have hg3470_ := of_decide_eq_true hg3470
    refine Wp.region <| Seg.op (OpT.move rfl) rfl ?_
    have hb3469 := hv3466.le
    refine Seg.op (OpT.len Tryd.underlying67 rfl hv3466.sl) rfl <| Seg.op (OpT.asB (b := decide ((((sortI l3329).length : Nat) : Int) = 0)) (c := true) (OpT.eql rfl rfl) hg3470) rfl <| Seg.op (OpT.move rfl) rfl <| Seg.skipG rfl rfl rfl rfl <| Seg.skipG rfl rfl rfl rfl <| Seg.skipG rfl rfl rfl rfl <| Seg.op (OpT.pickT rfl rfl) rfl <| Seg.nilT ?_
    refine Wp.condT rfl <| Wp.exit <| At.then_x <| At.blk_hit <| At.then_n <| Wp.region <| Seg.op (OpT.add rfl rfl (fits64 (by omega))) rfl <| Seg.op (OpT.move rfl) rfl ?_
    refine Seg.nil <| At.permK [2, 3, 4] 5 rfl rfl rfl ?_
    refine At.nextE (L' := [(0, (ptr B0 0)), (5, v14), (6, (.map (some B16))), (7, v3085), (8, (.int .i64 (k2316:Int))), (35, v14), (36, (.int .i64 (((partsD x5).length : Nat) : Int))), (37, (.int .i64 ((k3089 + 1 : Nat) : Int)))]) m3092 (Nat.lt_succ_self _) ((hl3342.trans hl3459).trans hl3464) (.cons rfl (.cons rfl (.cons rfl (.cons rfl (.cons rfl (.cons rfl (.cons rfl (.cons (lk_int rfl (by omega)) (.nil))))))))) ⟨l3084, m3088, (k3089 + 1), v3085, xs3086, rfl, rfl, (by rw [← hn3097]; exact hd), (hq3087.mono ((hl3342.trans hl3459).trans hl3464))⟩
   replace hd := brF hg3470 hd
   have hg3470_ := of_decide_eq_false hg3470
   replace hd := chk_some hd; obtain ⟨ha3471, hd⟩ := hd
   refine Wp.region <| Seg.op (OpT.move rfl) rfl ?_
   have hb3469 := hv3466.le
   refine Seg.op (OpT.len Tryd.underlying67 rfl hv3466.sl) rfl <| Seg.op (OpT.asB (b := decide ((((sortI l3329).length : Nat) : Int) = 0)) (c := false) (OpT.eql rfl rfl) hg3470) rfl <| Seg.op (OpT.move rfl) rfl <| Seg.opG rfl rfl (OpT.move rfl) rfl <| Seg.opG rfl rfl (OpT.move rfl) rfl <| Seg.opG rfl rfl (OpT.lookup (K := (mkS Tryd.underlying9)) (M := (meB Tryd.underlying4)) (i := 4) (k := x3467) (z := false) Tryd.underlying85 ti4 trivial rfl rfl ha3471 rfl) rfl <| Seg.op (OpT.pickF rfl rfl) rfl <| Seg.nilT ?_
   refine Wp.cond (b := (fmGet m3088 x3467).getD false) rfl (fun hb3472 => ?_) (fun hb3472 => ?_)
   ·
    replace hd := brT hb3472 hd
    refine Wp.exit <| At.then_x <| At.blk_hit <| At.then_n <| Wp.region <| Seg.op (OpT.add rfl rfl (fits64 (by omega))) rfl <| Seg.op (OpT.move rfl) rfl <| Seg.nil ?_
    refine At.permK [2, 3, 4] 5 rfl rfl rfl ?_
    refine At.nextE (L' := [(0, (ptr B0 0)), (5, v14), (6, (.map (some B16))), (7, v3085), (8, (.int .i64 (k2316:Int))), (35, v14), (36, (.int .i64 (((partsD x5).length : Nat) : Int))), (37, (.int .i64 ((k3089 + 1 : Nat) : Int)))]) m3092 (Nat.lt_succ_self _) ((hl3342.trans hl3459).trans hl3464) (.cons rfl (.cons rfl (.cons rfl (.cons rfl (.cons rfl (.cons rfl (.cons rfl (.cons (lk_int rfl (by omega)) (.nil))))))))) ⟨l3084, m3088, (k3089 + 1), v3085, xs3086, rfl, rfl, (by rw [← hn3097]; exact hd), (hq3087.mono ((hl3342.trans hl3459).trans hl3464))⟩
   replace hd := brF hb3472 hd
   refine Wp.skip <| At.then_n <| Wp.seq <| Wp.sr <| Seg.op (OpT.move rfl) rfl <| Seg.op (OpT.lenMap (K := (mkS Tryd.underlying9)) (M := (meB Tryd.underlying4)) (i := 4) Tryd.underlying85 rfl rfl) rfl <| Seg.op (OpT.eql rfl rfl) rfl <| Seg.nilT ?_
   refine Wp.cond (b := decide ((m3088.length:Int) = 500)) rfl (fun hb3473 => ?_) (fun hb3473 => ?_)
   ·
    replace hd := brT hb3473 hd
    replace hb3473 := of_decide_eq_true hb3473
    refine Wp.sr <| Seg.op (OpT.assign rfl) rfl <| Seg.nilT <| Wp.ret <| At.then_r <| At.blk_r <| At.then_r <| At.then_r ?_
    refine At.blk_r <| At.blk_r <| At.then_r <| At.then_r <| At.blk_r <| At.then_r ?_
    obtain rfl := Option.some.inj hd
    exact At.res1 rfl (RV.tmp (v := (.bool true)) rfl) (fun w hs => ⟨rfl, (hs.permK [3] 5 rfl rfl rfl).weaken (((((((hl8.trans hl13).trans hl23).trans hl2321).trans hl3094).trans hl3342).trans hl3459).trans hl3464)⟩)
   replace hd := brF hb3473 hd
   replace hb3473 := of_decide_eq_false hb3473
   refine Wp.skip <| At.then_n <| Wp.seq ?_
   replace hd := chk_some hd; obtain ⟨ha3474, hd⟩ := hd
   replace hd := chk_some hd; obtain ⟨ha3475, hd⟩ := hd
   refine Wp.region <| Seg.op (OpT.move rfl) rfl <| Seg.op (OpT.move rfl) rfl <| Seg.mapUpdate (K := (mkS Tryd.underlying9)) (M := (meB Tryd.underlying4)) (k := x3467) (v := true) 4 Tryd.underlying85 rfl rfl rfl ha3474 trivial ha3475 rfl <| Seg.nilT ?_
   obtain ⟨x3476, hx3477, hd⟩ := bnd_some hd
   replace hd := chk_some hd; obtain ⟨ha3485, hd⟩ := hd
   refine Wp.region <| Seg.op (OpT.move rfl) rfl <| Seg.op (OpT.move rfl) rfl <| Seg.op (OpT.move rfl) rfl <| Seg.permK [3, 0, 1, 2, 4] 5 rfl rfl rfl <| Seg.opS (OpS.call ent40 rfl (au_net_closure_w (hv2.mono (((((((hl8.trans hl13).trans hl23).trans hl2321).trans hl3094).trans hl3342).trans hl3459).trans hl3464)) (hv4.mono (((((((hl8.trans hl13).trans hl23).trans hl2321).trans hl3094).trans hl3342).trans hl3459).trans hl3464)) (hq3336.mono (hl3459.trans hl3464)) hx3477)) rfl ?_
   rintro _ H3478 _ hl3479 ⟨⟨v3480, rfl, hv3481⟩, rfl⟩
   refine Seg.buildD1 (c := (cL cI64)) (y := x3476) (cs := [v3480]) Tryd.underlying59 ti67 rfl rfl rfl (cellsL hv3481.one) (⟨_, rfl, hv3481⟩) rfl fun v3482 xs3483 hq3484 => Seg.appD (i := 3) (j := 0) (hq3087.mono (((hl3342.trans hl3459).trans hl3464).trans hl3479)) hq3484 Tryd.underlying59 ti67 rfl (by decide) rfl rfl rfl rfl (by decide) ha3485 rfl fun v3486 xs3487 hq3488 => Seg.drop (i := 0) <| Seg.op (OpT.assign rfl) rfl <| Seg.nil <| At.blk_n <| At.then_n <| Wp.region ?_
   refine Seg.op (OpT.add rfl rfl (fits64 (by omega))) rfl <| Seg.op (OpT.move rfl) rfl <| Seg.nil <| At.permK [2, 0, 3] 4 rfl rfl rfl ?_
   refine At.nextE (L' := [(0, (ptr B0 0)), (5, v14), (6, (.map (some B16))), (7, v3486), (8, (.int .i64 (k2316:Int))), (35, v14), (36, (.int .i64 (((partsD x5).length : Nat) : Int))), (37, (.int .i64 ((k3089 + 1 : Nat) : Int)))]) m3092 (Nat.lt_succ_self _) (((hl3342.trans hl3459).trans hl3464).trans hl3479) (.cons rfl (.cons rfl (.cons rfl (.cons rfl (.cons rfl (.cons rfl (.cons rfl (.cons (lk_int rfl (by omega)) (.nil))))))))) ⟨(l3084 ++ ([x3476] : List (List Int))), (fmPut m3088 x3467 true), (k3089 + 1), v3486, xs3487, rfl, rfl, (by rw [← hn3097]; exact hd), hq3488⟩
  replace hd := brF hb3098 hd
  replace hb3098 := of_decide_eq_false hb3098
  refine Wp.exit <| At.then_x <| At.then_x <| At.blk_hit <| At.blk_n <| At.then_n <| Wp.region <| Seg.op (OpT.move rfl) rfl ?_
  refine Seg.op (OpT.add rfl rfl (fits64 (by omega))) rfl <| Seg.op (OpT.assign rfl) rfl <| Seg.nil ?_
  refine At.nextE (L' := [(0, (ptr B0 0)), (5, v14), (6, (.map (some B16))), (7, v3085), (8, (.int .i64 ((k2316 + 1 : Nat) : Int)))]) m2319 (Nat.lt_succ_self _) hl3094 (.cons rfl (.cons rfl (.cons rfl (.cons rfl (.cons (lk_int rfl (by omega)) (.nil)))))) ⟨l3084, m3088, (k2316 + 1), v3085, xs3086, rfl, rfl, (by rw [← hn2324]; exact hd), hq3087⟩
 replace hd := brF hb2326 hd
 replace hb2326 := of_decide_eq_false hb2326
 refine Wp.exit <| At.then_x <| At.then_x <| At.blk_hit <| At.then_n <| Wp.sr <| Seg.op (OpT.assign rfl) rfl <| Seg.nilT ?_
 refine Wp.ret ?_
 obtain rfl := Option.some.inj hd
 exact At.res1 rfl (RV.tmp (v := (.bool false)) rfl) (fun w hs => ⟨rfl, (hs.permK [1] 3 rfl rfl rfl).weaken (((hl8.trans hl13).trans hl23).trans hl2321)⟩)

set_option maxRecDepth 100000 in
set_option maxHeartbeats 4000000 in
theorem slices_Index_w {fu : Nat} {a0 : List Int} {a1 : Int} {v1 : Value} {r : Int} (hv2 : SlD cI64 H a0 v1) (hd : slices_Index fu a0 a1 = some r) :
    TriV Tryd.prog 58 [v1, (.int .i64 a1)] H O (.int .i64 r) := by
 intro w hs
 refine wp_of Tryd.func58 rfl rfl rfl ?_ hs
 clear hs w
 unfold slices_Index at hd
 refine Wp.sr <| Seg.op (OpT.assign rfl) rfl <| Seg.nilT <| Wp.seq <| Wp.sr <| Seg.op (OpT.move rfl) rfl ?_
 have hb3 := hv2.le
 refine Seg.op (OpT.len Tryd.underlying67 rfl hv2.sl) rfl <| Seg.op (OpT.move rfl) rfl <| Seg.nilT <| Wp.block <| Wp.sub (L' := [(0, v1), (1, (.int .i64 a1)), (7, (.int .i64 (a0.length:Int))), (8, (.int .i64 ((0 : Nat) : Int)))]) (.cons rfl (.cons rfl (.cons rfl (.cons (lk_int rfl (by omega)) (.nil))))) <| Wp.loopE (fun m LL HH OO => ∃ (k17 : Nat), [(0, v1), (1, (.int .i64 a1)), (7, (.int .i64 (a0.length:Int))), (8, (.int .i64 (k17:Int)))] = LL ∧ O = OO ∧ loopK m (slices_Index_b1 fu a0 a1) k17 = some r) fu ⟨0, rfl, rfl, hd⟩ ?_
 intro m19 L23 H21 O24 hl22 hI18
 obtain ⟨k17, rfl, rfl, hd⟩ := hI18
 replace hd := loopK_some hd; obtain ⟨m20, rfl, hd⟩ := hd
 obtain ⟨nx16, hn25⟩ : ∃ f, f = loopK m20 (slices_Index_b1 fu a0 a1) := ⟨_, rfl⟩
 rw [← hn25] at hd
 replace hd : slices_Index_b1 fu a0 a1 k17 nx16 = some r := hd
 unfold slices_Index_b1 at hd
 refine Wp.sr <| Seg.op (OpT.lss rfl rfl) rfl <| Seg.nilT <| Wp.seq ?_
 refine Wp.cond (b := decide ((k17:Int) < (a0.length:Int))) rfl (fun hb26 => ?_) (fun hb26 => ?_)
 ·
  replace hd := brT hb26 hd
  replace hb26 := of_decide_eq_true hb26
  refine Wp.skip <| At.then_n <| Wp.seq <| Wp.block <| Wp.sr <| Seg.op (OpT.move rfl) rfl <| Seg.op (OpT.assign rfl) rfl <| Seg.nilT ?_
  refine Wp.seq ?_
  obtain ⟨x27, hx28, hd⟩ := bnd_some hd
  have hx28_ := idx_bd hx28
  refine Wp.region <| Seg.op (OpT.move rfl) rfl <| Seg.op (OpT.move rfl) rfl <| Seg.op (OpT.move rfl) rfl ?_
  obtain ⟨_, rfl, hc29⟩ := SlD.get (hv2.mono hl22) hx28
  refine Seg.op (OpT.ixSl Tryd.underlying67 ti3 rfl (hv2.mono hl22).sl rfl (idx_bd hx28)) rfl <| Seg.op (OpT.ldH Tryd.underlying3 rfl rfl (hc29 0 _ rfl)) rfl <| Seg.op (OpT.eql rfl rfl) rfl <| Seg.nilT ?_
  refine Wp.cond (b := decide (a1 = x27)) rfl (fun hb30 => ?_) (fun hb30 => ?_)
  ·
   replace hd := brT hb30 hd
   replace hb30 := of_decide_eq_true hb30
   refine Wp.sr <| Seg.op (OpT.move rfl) rfl <| Seg.op (OpT.assign rfl) rfl <| Seg.nilT <| Wp.ret <| At.blk_r <| At.then_r <| At.then_r ?_
   refine At.blk_r <| At.then_r ?_
   obtain rfl := Option.some.inj hd
   exact At.res1 rfl (RV.tmp (v := (.int .i64 (k17:Int))) rfl) (fun w hs => ⟨rfl, (hs.dropN 0).weaken hl22⟩)
  replace hd := brF hb30 hd
  replace hb30 := of_decide_eq_false hb30
  refine Wp.skip <| At.blk_n <| At.then_n <| Wp.region <| Seg.op (OpT.add rfl rfl (fits64 (by omega))) rfl <| Seg.op (OpT.move rfl) rfl <| Seg.nil ?_
  refine At.nextE (L' := [(0, v1), (1, (.int .i64 a1)), (7, (.int .i64 (a0.length:Int))), (8, (.int .i64 ((k17 + 1 : Nat) : Int)))]) m20 (Nat.lt_succ_self _) (Hp.le.refl _) (.cons rfl (.cons rfl (.cons rfl (.cons (lk_int rfl (by omega)) (.nil))))) ⟨(k17 + 1), rfl, rfl, (by rw [← hn25]; exact hd)⟩
 replace hd := brF hb26 hd
 replace hb26 := of_decide_eq_false hb26
 refine Wp.exit <| At.then_x <| At.then_x <| At.blk_hit <| At.then_n <| Wp.sr <| Seg.op (OpT.assign rfl) rfl <| Seg.nilT ?_
 refine Wp.ret ?_
 obtain rfl := Option.some.inj hd
 exact At.res1 rfl (RV.tmp (v := (.int .i64 (-1))) rfl) (fun w hs => ⟨rfl, (hs.dropN 0).weaken hl22⟩)

set_option maxRecDepth 100000 in
set_option maxHeartbeats 4000000 in
theorem slices_Contains_w {fu : Nat} {a0 : List Int} {a1 : Int} {v1 : Value} {r : Bool} (hv2 : SlD cI64 H a0 v1) (hd : slices_Contains fu a0 a1 = some r) :
    TriV Tryd.prog 45 [v1, (.int .i64 a1)] H O (.bool r) := by
 intro w hs
 refine wp_of Tryd.func45 rfl rfl rfl ?_ hs
 clear hs w
 unfold slices_Contains at hd
 refine Wp.sr <| Seg.op (OpT.assign rfl) rfl <| Seg.nilT <| Wp.seq ?_
 obtain ⟨x3, hx4, hd⟩ := bnd_some hd
 refine Wp.region <| Seg.op (OpT.move rfl) rfl <| Seg.op (OpT.move rfl) rfl <| Seg.op (OpT.call ent58 rfl (slices_Index_w hv2 hx4)) rfl <| Seg.op (OpT.geq rfl rfl) rfl <| Seg.op (OpT.assign rfl) rfl <| Seg.nilT <| Wp.ret ?_
 obtain rfl := Option.some.inj hd
 exact At.res1 rfl (RV.tmp (v := (.bool (decide (0 ≤ x3)))) rfl) (fun w hs => ⟨rfl, (hs.dropN 0).weaken (Hp.le.refl _)⟩)

set_option maxRecDepth 100000 in
set_option maxHeartbeats 4000000 in
theorem au_net_determine_w {fu : Nat} {a0 : (List (List Int)) × (List (List (BSet × Int × Int))) × Int} {a1 : Int} {a2 : Int} {v1 v3 : Value} {B0 : Nat} {r : List (Bool × (List (Int × Int × Int)))} (hv2 : SlD (cL cI64) H a0.1 v1) (hv4 : SlD (cL (cP cBs (cP cI64 cI64))) H a0.2.1 v3) (hG : LaidH Tryd.prog H) (hd : au_net_determine fu a0 a1 a2 = some r) :
    Tri Tryd.prog 32 [(ptr B0 0), (.int .i64 a1), (.int .i64 a2)] H (.blk B0 (.cells #[v1, v3, (.int .i64 a0.2.2)] 62 (0, 0)) :: O) (fun v H' O' => (∃ v3201 : Value, v3201 = v ∧ SlD (cP cB (cL (cP cU8 (cP cU8 cI64)))) H' r v3201) ∧ .blk B0 (.cells #[v1, v3, (.int .i64 a0.2.2)] 62 (0, 0)) :: O = O') := by
 intro w hs
 refine wp_of Tryd.func32 rfl rfl rfl ?_ hs
 clear hs w
 unfold au_net_determine at hd
 refine Wp.sr <| Seg.op (OpT.assign rfl) rfl <| Seg.nilT <| Wp.seq ?_
 obtain ⟨x6, hx7, hd⟩ := bnd_some hd
 replace hd := chk_some hd; obtain ⟨ha12, hd⟩ := hd
 refine Wp.region <| Seg.op (OpT.move rfl) rfl <| Seg.opS (OpS.call ent39 rfl (Tri.atR 0 rfl (au_net_sets_w hv2 hv4 hx7))) rfl ?_
 rintro _ H8 _ hl9 ⟨⟨v10, rfl, hv11⟩, rfl⟩
 refine Seg.opS (OpS.call ent38 rfl (part_i hv11 ha12)) rfl ?_
 rintro _ H13 _ hl14 ⟨⟨v15, rfl, hv16⟩, rfl⟩
 refine Seg.op (OpT.assign rfl) rfl <| Seg.nilT <| Wp.seq ?_
 obtain ⟨x20, hx21, hd⟩ := bnd_some hd
 refine Wp.region <| Seg.op (OpT.move rfl) rfl <| Seg.op (OpT.move rfl) rfl <| Seg.buildD1 (c := cI64) (y := a1) (cs := [(.int .i64 a1)]) Tryd.underlying67 ti3 rfl rfl rfl rfl (rfl) rfl fun v17 xs18 hq19 => Seg.permK [1, 0] 2 rfl rfl rfl <| Seg.opS (OpS.call ent40 rfl (au_net_closure_w (hv2.mono (hl9.trans hl14)) (hv4.mono (hl9.trans hl14)) hq19 hx21)) rfl ?_
 rintro _ H22 _ hl23 ⟨⟨v24, rfl, hv25⟩, rfl⟩
 refine Seg.buildD1 (c := (cL cI64)) (y := x20) (cs := [v24]) Tryd.underlying59 ti67 rfl rfl rfl (cellsL hv25.one) (⟨_, rfl, hv25⟩) rfl fun v26 xs27 hq28 => Seg.op (OpT.assign rfl) rfl <| Seg.nilT <| Wp.seq ?_
 obtain ⟨x30, hx31, hd⟩ := bnd_some hd
 have hx31_ := idx_bd hx31
 obtain ⟨x35, hx36, hd⟩ := bnd_some hd
 replace hd := chk_some hd; obtain ⟨ha37, hd⟩ := hd
 replace hd := chk_some hd; obtain ⟨ha38, hd⟩ := hd
 refine Wp.region <| Seg.makeMap (mkS Tryd.underlying9) (meI Tryd.underlying3) rfl fun B29 => Seg.op (OpT.move rfl) rfl ?_
 obtain ⟨_, ⟨v33, rfl, hv34⟩, hc32, hc32_⟩ := LayL.get hq28 (idx_some hx31).2
 refine Seg.op (OpT.ixRow (j := 1) Tryd.underlying59 ti67 rfl rfl rfl (idx_bd hx31)) rfl <| Seg.op (OpT.ldRow (i := 1) (k := 0 * 1 + 0) Tryd.underlying67 rfl rfl rfl (hc32 0 _ rfl)) rfl <| Seg.op (OpT.call ent44 rfl (au_key_w hv34 (hG.mono ((hl9.trans hl14).trans hl23)) hx36)) rfl <| Seg.insert (K := (mkS Tryd.underlying9)) (M := (meI Tryd.underlying3)) (k := x35) (v := 0) 0 Tryd.underlying73 rfl rfl rfl ha37 (show F64 0 by decide) ha38 rfl <| Seg.op (OpT.move rfl) rfl <| Seg.op (OpT.assign rfl) rfl <| Seg.nilT <| Wp.sr ?_
 refine Seg.op (OpT.assign rfl) rfl <| Seg.nilT <| Wp.seq <| Wp.sr <| Seg.op (OpT.assign rfl) rfl <| Seg.nilT <| Wp.block <| Wp.nilRow 40 2 ?_
 refine Wp.sub (L' := [(0, (ptr B0 0)), (2, (.int .i64 a2)), (7, v15), (8, v26), (9, (.map (some B29))), (10, (.slice none 0 0)), (11, (.int .i64 ((0 : Nat) : Int)))]) (.cons rfl (.cons rfl (.cons rfl (.cons rfl (.cons rfl (.cons rfl (.cons (lk_int rfl (by omega)) (.nil)))))))) <| Wp.loopE (fun m LL HH OO => ∃ (l2098 : List (List Int)), ∃ (l2102 : List (Bool × (List (Int × Int × Int)))), ∃ (m2106 : List (Str × Int)), ∃ (k2107 : Nat), ∃ (v2099 : Value), ∃ (xs2100 : List Value), ∃ (v2103 : Value), ∃ (xs2104 : List Value), [(0, (ptr B0 0)), (2, (.int .i64 a2)), (7, v15), (8, v2099), (9, (.map (some B29))), (10, v2103), (11, (.int .i64 (k2107:Int)))] = LL ∧ .row v2103 40 2 l2102.length xs2104 :: mapR (mkS Tryd.underlying9) (meI Tryd.underlying3) B29 m2106 :: .row v2099 67 1 l2098.length xs2100 :: .blk B0 (.cells #[v1, v3, (.int .i64 a0.2.2)] 62 (0, 0)) :: O = OO ∧ loopK m (fun p nx => au_net_determine_b7 fu a0 a2 x6 p.1 p.2.1 p.2.2.1 p.2.2.2 nx) (l2098, l2102, m2106, k2107) = some r ∧ LayL (cL cI64) HH l2098 xs2100 ∧ LayL (cP cB (cL (cP cU8 (cP cU8 cI64)))) HH l2102 xs2104) fu ⟨([x20] : List (List Int)), ([] : List (Bool × (List (Int × Int × Int)))), (fmPut ([] : List (Str × Int)) x35 0), 0, v26, xs27, (.slice none 0 0), [], rfl, rfl, hd, hq28, (LayL.nil (c := (cP cB (cL (cP cU8 (cP cU8 cI64))))) (H := H22))⟩ ?_
 intro m2109 L2113 H2111 O2114 hl2112 hI2108
 obtain ⟨l2098, l2102, m2106, k2107, v2099, xs2100, v2103, xs2104, rfl, rfl, hd, hq2101, hq2105⟩ := hI2108
 replace hd := loopK_some hd; obtain ⟨m2110, rfl, hd⟩ := hd
 obtain ⟨nx2097, hn2115⟩ : ∃ f, f = loopK m2110 (fun p nx => au_net_determine_b7 fu a0 a2 x6 p.1 p.2.1 p.2.2.1 p.2.2.2 nx) := ⟨_, rfl⟩
 rw [← hn2115] at hd
 replace hd : au_net_determine_b7 fu a0 a2 x6 l2098 l2102 m2106 k2107 nx2097 = some r := hd
 unfold au_net_determine_b7 at hd
 refine Wp.seq <| Wp.sr <| Seg.op (OpT.move rfl) rfl <| Seg.op (OpT.move rfl) rfl ?_
 refine Seg.rowLe (i := 2) rfl fun hb2116 => ?_
 refine Seg.op (OpT.lenRow (i := 2) Tryd.underlying59 rfl rfl) rfl <| Seg.op (OpT.lss rfl rfl) rfl <| Seg.nilT ?_
 refine Wp.cond (b := decide ((k2107:Int) < (l2098.length:Int))) rfl (fun hb2117 => ?_) (fun hb2117 => ?_)
 ·
  replace hd := brT hb2117 hd
  replace hb2117 := of_decide_eq_true hb2117
  refine Wp.skip <| At.then_n <| Wp.seq <| Wp.block <| Wp.sr <| Seg.op (OpT.assign rfl) rfl <| Seg.nilT <| Wp.seq ?_
  refine Wp.sr <| Seg.op (OpT.move rfl) rfl ?_
  have hb2119 := hv16.le
  refine Seg.op (OpT.len Tryd.underlying82 rfl (hv16.mono (hl23.trans hl2112)).sl) rfl <| Seg.op (OpT.move rfl) rfl <| Seg.nilT <| Wp.block <| Wp.nilRow 94 5 <| Wp.sub (L' := [(0, (ptr B0 0)), (2, (.int .i64 a2)), (7, v15), (8, v2099), (9, (.map (some B29))), (10, v2103), (11, (.int .i64 (k2107:Int))), (12, (.slice none 0 0)), (50, v15), (51, (.int .i64 (((partsD x6).length : Nat) : Int))), (52, (.int .i64 ((0 : Nat) : Int)))]) (.cons rfl (.cons rfl (.cons rfl (.cons rfl (.cons rfl (.cons rfl (.cons rfl (.cons rfl (.cons rfl (.cons rfl (.cons (lk_int rfl (by omega)) (.nil)))))))))))) <| Wp.loopE (fun m LL HH OO => ∃ (l2627 : List (List Int)), ∃ (l2631 : List (BSet × Int)), ∃ (m2635 : List (Str × Int)), ∃ (k2636 : Nat), ∃ (v2628 : Value), ∃ (xs2629 : List Value), ∃ (v2632 : Value), ∃ (xs2633 : List Value), [(0, (ptr B0 0)), (2, (.int .i64 a2)), (7, v15), (8, v2628), (9, (.map (some B29))), (10, v2103), (11, (.int .i64 (k2107:Int))), (12, v2632), (50, v15), (51, (.int .i64 (((partsD x6).length : Nat) : Int))), (52, (.int .i64 (k2636:Int)))] = LL ∧ .row v2632 94 5 l2631.length xs2633 :: .row v2103 40 2 l2102.length xs2104 :: mapR (mkS Tryd.underlying9) (meI Tryd.underlying3) B29 m2635 :: .row v2628 67 1 l2627.length xs2629 :: .blk B0 (.cells #[v1, v3, (.int .i64 a0.2.2)] 62 (0, 0)) :: O = OO ∧ loopK m (fun p nx => au_net_determine_b10 fu a0 a2 x6 l2102 k2107 nx2097 p.1 p.2.1 p.2.2.1 p.2.2.2 nx) (l2627, l2631, m2635, k2636) = some r ∧ LayL (cL cI64) HH l2627 xs2629 ∧ LayL (cP cBs cI64) HH l2631 xs2633) fu ⟨l2098, ([] : List (BSet × Int)), m2106, 0, v2099, xs2100, (.slice none 0 0), [], rfl, rfl, hd, hq2101, (LayL.nil (c := (cP cBs cI64)) (H := H2111))⟩ ?_
  intro m2638 L2642 H2640 O2643 hl2641 hI2637
  obtain ⟨l2627, l2631, m2635, k2636, v2628, xs2629, v2632, xs2633, rfl, rfl, hd, hq2630, hq2634⟩ := hI2637
  replace hd := loopK_some hd; obtain ⟨m2639, rfl, hd⟩ := hd
  obtain ⟨nx2626, hn2644⟩ : ∃ f, f = loopK m2639 (fun p nx => au_net_determine_b10 fu a0 a2 x6 l2102 k2107 nx2097 p.1 p.2.1 p.2.2.1 p.2.2.2 nx) := ⟨_, rfl⟩
  rw [← hn2644] at hd
  replace hd : au_net_determine_b10 fu a0 a2 x6 l2102 k2107 nx2097 l2627 l2631 m2635 k2636 nx2626 = some r := hd
  unfold au_net_determine_b10 at hd
  refine Wp.sr <| Seg.op (OpT.lss rfl rfl) rfl <| Seg.nilT <| Wp.seq ?_
  refine Wp.cond (b := decide ((k2636:Int) < (((partsD x6).length : Nat) : Int))) rfl (fun hb2645 => ?_) (fun hb2645 => ?_)
  ·
   replace hd := brT hb2645 hd
   replace hb2645 := of_decide_eq_true hb2645
   refine Wp.skip <| At.then_n <| Wp.seq <| Wp.block <| Wp.seq ?_
   obtain ⟨x2646, hx2647, hd⟩ := bnd_some hd
   have hx2647_ := idx_bd hx2647
   refine Wp.region ?_
   obtain ⟨_, rfl, hc2648⟩ := SlD.get (hv16.mono ((hl23.trans hl2112).trans hl2641)) hx2647
   refine Seg.op (OpT.ixSl Tryd.underlying82 ti43 rfl (hv16.mono ((hl23.trans hl2112).trans hl2641)).sl rfl (idx_bd hx2647)) rfl <| Seg.op (OpT.ldHA (vs := [(w64 (word x2646 0)), (w64 (word x2646 1)), (w64 (word x2646 2)), (w64 (word x2646 3))]) Tryd.underlying43 rfl ti43 rfl rfl (fun j u hj => (hc2648 j u hj))) rfl <| Seg.alloc (cs := bcs (fun _ => false)) ti43 bcs_empty rfl fun B2649 => Seg.stBlkW (i := 0) (cs' := #[(w64 (word x2646 0)), (w64 (word x2646 1)), (w64 (word x2646 2)), (w64 (word x2646 3))]) rfl rfl ti43 rfl rfl (onesA (ones_cons rfl (ones_cons rfl (ones_cons rfl (ones_cons rfl (ones_nil)))))) rfl ?_
   refine Seg.own (O := .blk B2649 (.cells #[(w64 (word x2646 0)), (w64 (word x2646 1)), (w64 (word x2646 2)), (w64 (word x2646 3))] 43 (0, 0)) :: .row v2632 94 5 l2631.length xs2633 :: .row v2103 40 2 l2102.length xs2104 :: mapR (mkS Tryd.underlying9) (meI Tryd.underlying3) B29 m2635 :: .row v2628 67 1 l2627.length xs2629 :: .blk B0 (.cells #[v1, v3, (.int .i64 a0.2.2)] 62 (0, 0)) :: O) ?_ rfl
   refine Seg.nilT <| Wp.seq ?_
   have := lst_lt x2646
   refine Wp.region <| Seg.op (OpT.ldBlkW (i := 0) Tryd.underlying43 rfl ti43 rfl rfl rfl) rfl <| Seg.op (OpT.call ent41 rfl (@least_i _ _ x2646)) rfl <| Seg.op (OpT.move rfl) rfl <| Seg.op (OpT.extract rfl rfl) rfl <| Seg.op (OpT.extract rfl rfl) rfl <| Seg.op (OpT.assign rfl) rfl <| Seg.op (OpT.assign rfl) rfl ?_
   refine Seg.nilT <| Wp.sr <| Seg.op (OpT.assign rfl) rfl <| Seg.nilT <| Wp.seq <| Wp.seq ?_
   obtain ⟨x2651, hx2652, hd⟩ := bnd_some hd
   have hx2652_ := idx_bd hx2652
   refine Wp.region <| Seg.op (OpT.move rfl) rfl <| Seg.op (OpT.move rfl) rfl ?_
   obtain ⟨_, ⟨v2654, rfl, hv2655⟩, hc2653, hc2653_⟩ := LayL.get hq2630 (idx_some hx2652).2
   refine Seg.op (OpT.ixRow (j := 4) Tryd.underlying59 ti67 rfl rfl rfl (idx_bd hx2652)) rfl <| Seg.op (OpT.ldRow (i := 4) (k := k2107 * 1 + 0) Tryd.underlying67 rfl rfl rfl (hc2653 0 _ rfl)) rfl ?_
   have hb2656 := hv2655.le
   refine Seg.op (OpT.len Tryd.underlying67 rfl hv2655.sl) rfl <| Seg.op (OpT.move rfl) rfl <| Seg.nilT <| Wp.block <| Wp.nilRow 3 1 <| Wp.sub (L' := [(0, (ptr B0 0)), (2, (.int .i64 a2)), (7, v15), (8, v2628), (9, (.map (some B29))), (10, v2103), (11, (.int .i64 (k2107:Int))), (12, v2632), (14, (ptr B2649 0)), (15, (.int .u8 ((lst x2646 : Nat) : Int))), (17, (.slice none 0 0)), (50, v15), (51, (.int .i64 (((partsD x6).length : Nat) : Int))), (52, (.int .i64 (k2636:Int))), (64, v2654), (65, (.int .i64 (x2651.length:Int))), (66, (.int .i64 ((0 : Nat) : Int)))]) (.cons rfl (.cons rfl (.cons rfl (.cons rfl (.cons rfl (.cons rfl (.cons rfl (.cons rfl (.cons rfl (.cons rfl (.cons rfl (.cons rfl (.cons rfl (.cons rfl (.cons rfl (.cons rfl (.cons (lk_int rfl (by omega)) (.nil)))))))))))))))))) <| Wp.loopE (fun m LL HH OO => ∃ (l2786 : List Int), ∃ (k2790 : Nat), ∃ (v2787 : Value), ∃ (xs2788 : List Value), [(0, (ptr B0 0)), (2, (.int .i64 a2)), (7, v15), (8, v2628), (9, (.map (some B29))), (10, v2103), (11, (.int .i64 (k2107:Int))), (12, v2632), (14, (ptr B2649 0)), (15, (.int .u8 ((lst x2646 : Nat) : Int))), (17, v2787), (50, v15), (51, (.int .i64 (((partsD x6).length : Nat) : Int))), (52, (.int .i64 (k2636:Int))), (64, v2654), (65, (.int .i64 (x2651.length:Int))), (66, (.int .i64 (k2790:Int)))] = LL ∧ .row v2787 3 1 l2786.length xs2788 :: .blk B2649 (.cells #[(w64 (word x2646 0)), (w64 (word x2646 1)), (w64 (word x2646 2)), (w64 (word x2646 3))] 43 (0, 0)) :: .row v2632 94 5 l2631.length xs2633 :: .row v2103 40 2 l2102.length xs2104 :: mapR (mkS Tryd.underlying9) (meI Tryd.underlying3) B29 m2635 :: .row v2628 67 1 l2627.length xs2629 :: .blk B0 (.cells #[v1, v3, (.int .i64 a0.2.2)] 62 (0, 0)) :: O = OO ∧ loopK m (fun p nx => au_net_determine_b11 fu a0 l2627 l2631 m2635 k2636 nx2626 x2646 x2651 p.1 p.2 nx) (l2786, k2790) = some r ∧ LayL cI64 HH l2786 xs2788) fu ⟨([] : List Int), 0, (.slice none 0 0), [], rfl, rfl, hd, (LayL.nil (c := cI64) (H := H2640))⟩ ?_
   intro m2792 L2796 H2794 O2797 hl2795 hI2791
   obtain ⟨l2786, k2790, v2787, xs2788, rfl, rfl, hd, hq2789⟩ := hI2791
   replace hd := loopK_some hd; obtain ⟨m2793, rfl, hd⟩ := hd
   obtain ⟨nx2785, hn2798⟩ : ∃ f, f = loopK m2793 (fun p nx => au_net_determine_b11 fu a0 l2627 l2631 m2635 k2636 nx2626 x2646 x2651 p.1 p.2 nx) := ⟨_, rfl⟩
   rw [← hn2798] at hd
   replace hd : au_net_determine_b11 fu a0 l2627 l2631 m2635 k2636 nx2626 x2646 x2651 l2786 k2790 nx2785 = some r := hd
   unfold au_net_determine_b11 at hd
   refine Wp.sr <| Seg.op (OpT.lss rfl rfl) rfl <| Seg.nilT <| Wp.seq ?_
   refine Wp.cond (b := decide ((k2790:Int) < (x2651.length:Int))) rfl (fun hb2799 => ?_) (fun hb2799 => ?_)
   ·
    replace hd := brT hb2799 hd
    replace hb2799 := of_decide_eq_true hb2799
    refine Wp.skip <| At.then_n <| Wp.seq <| Wp.block <| Wp.seq ?_
    obtain ⟨x2800, hx2801, hd⟩ := bnd_some hd
    have hx2801_ := idx_bd hx2801
    refine Wp.region ?_
    obtain ⟨_, rfl, hc2802⟩ := SlD.get (hv2655.mono hl2795) hx2801
    refine Seg.op (OpT.ixSl Tryd.underlying67 ti3 rfl (hv2655.mono hl2795).sl rfl (idx_bd hx2801)) rfl <| Seg.op (OpT.ldH Tryd.underlying3 rfl rfl (hc2802 0 _ rfl)) rfl <| Seg.op (OpT.assign rfl) rfl <| Seg.nilT <| Wp.seq ?_
    obtain ⟨x2803, hx2804, hd⟩ := bnd_some hd
    have hx2804_ := idx_bd hx2804
    refine Wp.region <| Seg.op (OpT.move rfl) rfl <| Seg.op (OpT.nilCheck rfl) rfl <| Seg.op (OpT.fld (o' := 1) fl62_1 rfl rfl) rfl <| Seg.op (OpT.ldBlk (i := 6) (v := v3) Tryd.underlying60 rfl rfl rfl rfl) rfl <| Seg.op (OpT.move rfl) rfl ?_
    obtain ⟨_, ⟨v2806, rfl, hv2807⟩, hc2805⟩ := SlD.get (hv4.mono (((((hl9.trans hl14).trans hl23).trans hl2112).trans hl2641).trans hl2795)) hx2804
    refine Seg.op (OpT.ixSl Tryd.underlying60 ti79 rfl (hv4.mono (((((hl9.trans hl14).trans hl23).trans hl2112).trans hl2641).trans hl2795)).sl rfl (idx_bd hx2804)) rfl <| Seg.op (OpT.ldH Tryd.underlying79 rfl rfl (hc2805 0 _ rfl)) rfl ?_
    have hb2808 := hv2807.le
    refine Seg.op (OpT.len Tryd.underlying79 rfl hv2807.sl) rfl <| Seg.op (OpT.move rfl) rfl <| Seg.nilT <| Wp.block <| Wp.sub (L' := [(0, (ptr B0 0)), (2, (.int .i64 a2)), (7, v15), (8, v2628), (9, (.map (some B29))), (10, v2103), (11, (.int .i64 (k2107:Int))), (12, v2632), (14, (ptr B2649 0)), (15, (.int .u8 ((lst x2646 : Nat) : Int))), (17, v2787), (50, v15), (51, (.int .i64 (((partsD x6).length : Nat) : Int))), (52, (.int .i64 (k2636:Int))), (64, v2654), (65, (.int .i64 (x2651.length:Int))), (66, (.int .i64 (k2790:Int))), (76, v2806), (77, (.int .i64 (x2803.length:Int))), (78, (.int .i64 ((0 : Nat) : Int)))]) (.cons rfl (.cons rfl (.cons rfl (.cons rfl (.cons rfl (.cons rfl (.cons rfl (.cons rfl (.cons rfl (.cons rfl (.cons rfl (.cons rfl (.cons rfl (.cons rfl (.cons rfl (.cons rfl (.cons rfl (.cons rfl (.cons rfl (.cons (lk_int rfl (by omega)) (.nil))))))))))))))))))))) <| Wp.loopE (fun m LL HH OO => ∃ (l2843 : List Int), ∃ (k2847 : Nat), ∃ (v2844 : Value), ∃ (xs2845 : List Value), [(0, (ptr B0 0)), (2, (.int .i64 a2)), (7, v15), (8, v2628), (9, (.map (some B29))), (10, v2103), (11, (.int .i64 (k2107:Int))), (12, v2632), (14, (ptr B2649 0)), (15, (.int .u8 ((lst x2646 : Nat) : Int))), (17, v2844), (50, v15), (51, (.int .i64 (((partsD x6).length : Nat) : Int))), (52, (.int .i64 (k2636:Int))), (64, v2654), (65, (.int .i64 (x2651.length:Int))), (66, (.int .i64 (k2790:Int))), (76, v2806), (77, (.int .i64 (x2803.length:Int))), (78, (.int .i64 (k2847:Int)))] = LL ∧ .row v2844 3 1 l2843.length xs2845 :: .blk B2649 (.cells #[(w64 (word x2646 0)), (w64 (word x2646 1)), (w64 (word x2646 2)), (w64 (word x2646 3))] 43 (0, 0)) :: .row v2632 94 5 l2631.length xs2633 :: .row v2103 40 2 l2102.length xs2104 :: mapR (mkS Tryd.underlying9) (meI Tryd.underlying3) B29 m2635 :: .row v2628 67 1 l2627.length xs2629 :: .blk B0 (.cells #[v1, v3, (.int .i64 a0.2.2)] 62 (0, 0)) :: O = OO ∧ loopK m (fun p nx => au_net_determine_b12 fu x2646 k2790 nx2785 x2803 p.1 p.2 nx) (l2843, k2847) = some r ∧ LayL cI64 HH l2843 xs2845) fu ⟨l2786, 0, v2787, xs2788, rfl, rfl, hd, hq2789⟩ ?_
    intro m2849 L2853 H2851 O2854 hl2852 hI2848
    obtain ⟨l2843, k2847, v2844, xs2845, rfl, rfl, hd, hq2846⟩ := hI2848
    replace hd := loopK_some hd; obtain ⟨m2850, rfl, hd⟩ := hd
    obtain ⟨nx2842, hn2855⟩ : ∃ f, f = loopK m2850 (fun p nx => au_net_determine_b12 fu x2646 k2790 nx2785 x2803 p.1 p.2 nx) := ⟨_, rfl⟩
    rw [← hn2855] at hd
    replace hd : au_net_determine_b12 fu x2646 k2790 nx2785 x2803 l2843 k2847 nx2842 = some r := hd
    unfold au_net_determine_b12 at hd
    refine Wp.sr <| Seg.op (OpT.lss rfl rfl) rfl <| Seg.nilT <| Wp.seq ?_
    refine Wp.cond (b := decide ((k2847:Int) < (x2803.length:Int))) rfl (fun hb2856 => ?_) (fun hb2856 => ?_)
    ·
     replace hd := brT hb2856 hd
     replace hb2856 := of_decide_eq_true hb2856
     refine Wp.skip <| At.then_n <| Wp.seq <| Wp.block <| Wp.seq ?_
     obtain ⟨x2857, hx2858, hd⟩ := bnd_some hd
     have hx2858_ := idx_bd hx2858
     refine Wp.region ?_
     obtain ⟨_, ⟨_, _, rfl, rfl, ⟨_, _, rfl, rfl, rfl⟩⟩, hc2859⟩ := SlD.get (hv2807.mono hl2852) hx2858
     refine Seg.op (OpT.ixSl Tryd.underlying79 ti81 rfl (hv2807.mono hl2852).sl rfl (idx_bd hx2858)) rfl <| Seg.op (OpT.ldHA (vs := [(w64 (word x2857.1 0)), (w64 (word x2857.1 1)), (w64 (word x2857.1 2)), (w64 (word x2857.1 3)), (.int .i64 x2857.2.1), (.int .i64 x2857.2.2)]) Tryd.underlying81 rfl ti81 rfl rfl (fun j u hj => (hc2859 j u hj))) rfl <| Seg.alloc (cs := #[(w64 (word (fun _ => false) 0)), (w64 (word (fun _ => false) 1)), (w64 (word (fun _ => false) 2)), (w64 (word (fun _ => false) 3)), (.int .i64 0), (.int .i64 0)]) ti81 (by simp only [zw]; rfl) rfl fun B2860 => Seg.stBlkW (i := 0) (cs' := #[(w64 (word x2857.1 0)), (w64 (word x2857.1 1)), (w64 (word x2857.1 2)), (w64 (word x2857.1 3)), (.int .i64 x2857.2.1), (.int .i64 x2857.2.2)]) rfl rfl ti81 rfl rfl (onesA (ones_cons rfl (ones_cons rfl (ones_cons rfl (ones_cons rfl (ones_cons rfl (ones_cons rfl (ones_nil)))))))) rfl ?_
     refine Seg.own (O := .blk B2860 (.cells #[(w64 (word x2857.1 0)), (w64 (word x2857.1 1)), (w64 (word x2857.1 2)), (w64 (word x2857.1 3)), (.int .i64 x2857.2.1), (.int .i64 x2857.2.2)] 81 (0, 0)) :: .row v2844 3 1 l2843.length xs2845 :: .blk B2649 (.cells #[(w64 (word x2646 0)), (w64 (word x2646 1)), (w64 (word x2646 2)), (w64 (word x2646 3))] 43 (0, 0)) :: .row v2632 94 5 l2631.length xs2633 :: .row v2103 40 2 l2102.length xs2104 :: mapR (mkS Tryd.underlying9) (meI Tryd.underlying3) B29 m2635 :: .row v2628 67 1 l2627.length xs2629 :: .blk B0 (.cells #[v1, v3, (.int .i64 a0.2.2)] 62 (0, 0)) :: O) ?_ rfl
     refine Seg.nilT <| Wp.sr <| Seg.op (OpT.fld (o' := 0) fl81_0 rfl rfl) rfl <| Seg.op (OpT.ldBlkX (i := 0) (vs := [(w64 (word x2857.1 0)), (w64 (word x2857.1 1)), (w64 (word x2857.1 2)), (w64 (word x2857.1 3))]) Tryd.underlying43 rfl ti43 rfl rfl rfl) rfl <| Seg.op (OpT.move rfl) rfl <| Seg.op (OpT.call ent42 rfl (@has_i _ _ x2857.1 ((lst x2646 : Nat) : Int) (by omega) (by omega))) rfl <| Seg.nilT ?_
     refine Wp.cond (b := x2857.1 (((lst x2646 : Nat) : Int)).toNat) rfl (fun hb2861 => ?_) (fun hb2861 => ?_)
     ·
      replace hd := brT hb2861 hd
      replace hd := chk_some hd; obtain ⟨ha2865, hd⟩ := hd
      refine Wp.region <| Seg.op (OpT.move rfl) rfl <| Seg.op (OpT.fld (o' := 4) fl81_1 rfl rfl) rfl <| Seg.op (OpT.ldBlk (i := 0) (v := (.int .i64 x2857.2.1)) Tryd.underlying3 rfl rfl rfl rfl) rfl <| Seg.buildD1 (c := cI64) (y := x2857.2.1) (cs := [(.int .i64 x2857.2.1)]) Tryd.underlying67 ti3 rfl rfl rfl rfl (rfl) rfl fun v2862 xs2863 hq2864 => Seg.appD (i := 2) (j := 0) hq2846 hq2864 Tryd.underlying67 ti3 rfl (by decide) rfl rfl rfl rfl (by decide) ha2865 rfl fun v2866 xs2867 hq2868 => Seg.drop (i := 0) <| Seg.op (OpT.assign rfl) rfl ?_
      refine Seg.nil <| At.blk_n <| At.then_n <| Wp.region <| Seg.op (OpT.add rfl rfl (fits64 (by omega))) rfl <| Seg.op (OpT.move rfl) rfl <| Seg.nil <| At.permK [1, 2, 3, 4, 5, 6, 7] 8 rfl rfl rfl ?_
      refine At.nextE (L' := [(0, (ptr B0 0)), (2, (.int .i64 a2)), (7, v15), (8, v2628), (9, (.map (some B29))), (10, v2103), (11, (.int .i64 (k2107:Int))), (12, v2632), (14, (ptr B2649 0)), (15, (.int .u8 ((lst x2646 : Nat) : Int))), (17, v2866), (50, v15), (51, (.int .i64 (((partsD x6).length : Nat) : Int))), (52, (.int .i64 (k2636:Int))), (64, v2654), (65, (.int .i64 (x2651.length:Int))), (66, (.int .i64 (k2790:Int))), (76, v2806), (77, (.int .i64 (x2803.length:Int))), (78, (.int .i64 ((k2847 + 1 : Nat) : Int)))]) m2850 (Nat.lt_succ_self _) (Hp.le.refl _) (.cons rfl (.cons rfl (.cons rfl (.cons rfl (.cons rfl (.cons rfl (.cons rfl (.cons rfl (.cons rfl (.cons rfl (.cons rfl (.cons rfl (.cons rfl (.cons rfl (.cons rfl (.cons rfl (.cons rfl (.cons rfl (.cons rfl (.cons (lk_int rfl (by omega)) (.nil))))))))))))))))))))) ⟨(l2843 ++ ([x2857.2.1] : List Int)), (k2847 + 1), v2866, xs2867, rfl, rfl, (by rw [← hn2855]; exact hd), hq2868⟩
     replace hd := brF hb2861 hd
     refine Wp.skip <| At.blk_n <| At.then_n <| Wp.region <| Seg.op (OpT.add rfl rfl (fits64 (by omega))) rfl <| Seg.op (OpT.move rfl) rfl <| Seg.nil <| At.permK [1, 2, 3, 4, 5, 6, 7] 8 rfl rfl rfl ?_
     refine At.nextE (L' := [(0, (ptr B0 0)), (2, (.int .i64 a2)), (7, v15), (8, v2628), (9, (.map (some B29))), (10, v2103), (11, (.int .i64 (k2107:Int))), (12, v2632), (14, (ptr B2649 0)), (15, (.int .u8 ((lst x2646 : Nat) : Int))), (17, v2844), (50, v15), (51, (.int .i64 (((partsD x6).length : Nat) : Int))), (52, (.int .i64 (k2636:Int))), (64, v2654), (65, (.int .i64 (x2651.length:Int))), (66, (.int .i64 (k2790:Int))), (76, v2806), (77, (.int .i64 (x2803.length:Int))), (78, (.int .i64 ((k2847 + 1 : Nat) : Int)))]) m2850 (Nat.lt_succ_self _) (Hp.le.refl _) (.cons rfl (.cons rfl (.cons rfl (.cons rfl (.cons rfl (.cons rfl (.cons rfl (.cons rfl (.cons rfl (.cons rfl (.cons rfl (.cons rfl (.cons rfl (.cons rfl (.cons rfl (.cons rfl (.cons rfl (.cons rfl (.cons rfl (.cons (lk_int rfl (by omega)) (.nil))))))))))))))))))))) ⟨l2843, (k2847 + 1), v2844, xs2845, rfl, rfl, (by rw [← hn2855]; exact hd), hq2846⟩
    replace hd := brF hb2856 hd
    replace hb2856 := of_decide_eq_false hb2856
    refine Wp.exit <| At.then_x <| At.then_x <| At.blk_hit <| At.blk_n <| At.then_n <| Wp.region <| Seg.op (OpT.add rfl rfl (fits64 (by omega))) rfl ?_
    refine Seg.op (OpT.move rfl) rfl <| Seg.nil ?_
    refine At.nextE (L' := [(0, (ptr B0 0)), (2, (.int .i64 a2)), (7, v15), (8, v2628), (9, (.map (some B29))), (10, v2103), (11, (.int .i64 (k2107:Int))), (12, v2632), (14, (ptr B2649 0)), (15, (.int .u8 ((lst x2646 : Nat) : Int))), (17, v2844), (50, v15), (51, (.int .i64 (((partsD x6).length : Nat) : Int))), (52, (.int .i64 (k2636:Int))), (64, v2654), (65, (.int .i64 (x2651.length:Int))), (66, (.int .i64 ((k2790 + 1 : Nat) : Int)))]) m2793 (Nat.lt_succ_self _) hl2852 (.cons rfl (.cons rfl (.cons rfl (.cons rfl (.cons rfl (.cons rfl (.cons rfl (.cons rfl (.cons rfl (.cons rfl (.cons rfl (.cons rfl (.cons rfl (.cons rfl (.cons rfl (.cons rfl (.cons (lk_int rfl (by omega)) (.nil)))))))))))))))))) ⟨l2843, (k2790 + 1), v2844, xs2845, rfl, rfl, (by rw [← hn2798]; exact hd), hq2846⟩
   replace hd := brF hb2799 hd
   replace hb2799 := of_decide_eq_false hb2799
   refine Wp.exit <| At.then_x <| At.then_x <| At.blk_hit <| At.then_n <| Wp.seq <| Wp.sr <| Seg.op (OpT.move rfl) rfl ?_
   refine Seg.rowLe (i := 0) rfl fun hb2869 => ?_
   refine Seg.op (OpT.lenRow (i := 0) Tryd.underlying67 rfl rfl) rfl <| Seg.op (OpT.eql rfl rfl) rfl <| Seg.nilT ?_
   refine Wp.cond (b := decide ((l2786.length:Int) = 0)) rfl (fun hb2870 => ?_) (fun hb2870 => ?_)
   ·
    replace hd := brT hb2870 hd
    replace hb2870 := of_decide_eq_true hb2870
    refine Wp.exit <| At.then_x <| At.blk_hit <| At.then_n <| Wp.region <| Seg.op (OpT.add rfl rfl (fits64 (by omega))) rfl <| Seg.op (OpT.move rfl) rfl <| Seg.nil ?_
    refine At.permK [2, 3, 4, 5, 6] 7 rfl rfl rfl ?_
    refine At.nextE (L' := [(0, (ptr B0 0)), (2, (.int .i64 a2)), (7, v15), (8, v2628), (9, (.map (some B29))), (10, v2103), (11, (.int .i64 (k2107:Int))), (12, v2632), (50, v15), (51, (.int .i64 (((partsD x6).length : Nat) : Int))), (52, (.int .i64 ((k2636 + 1 : Nat) : Int)))]) m2639 (Nat.lt_succ_self _) hl2795 (.cons rfl (.cons rfl (.cons rfl (.cons rfl (.cons rfl (.cons rfl (.cons rfl (.cons rfl (.cons rfl (.cons rfl (.cons (lk_int rfl (by omega)) (.nil)))))))))))) ⟨l2627, l2631, m2635, (k2636 + 1), v2628, xs2629, v2632, xs2633, rfl, rfl, (by rw [← hn2644]; exact hd), (hq2630.mono hl2795), (hq2634.mono hl2795)⟩
   replace hd := brF hb2870 hd
   replace hb2870 := of_decide_eq_false hb2870
   refine Wp.skip <| At.then_n <| Wp.seq ?_
   obtain ⟨x2871, hx2872, hd⟩ := bnd_some hd
   refine Wp.region <| Seg.op (OpT.move rfl) rfl <| Seg.op (OpT.move rfl) rfl <| Seg.permK [6, 0, 1, 2, 3, 4, 5] 7 rfl rfl rfl <| Seg.opS (OpS.call ent40 rfl (au_net_closure_w (hv2.mono (((((hl9.trans hl14).trans hl23).trans hl2112).trans hl2641).trans hl2795)) (hv4.mono (((((hl9.trans hl14).trans hl23).trans hl2112).trans hl2641).trans hl2795)) hq2789 hx2872)) rfl ?_
   rintro _ H2873 _ hl2874 ⟨⟨v2875, rfl, hv2876⟩, rfl⟩
   refine Seg.op (OpT.assign rfl) rfl <| Seg.nilT <| Wp.seq ?_
   obtain ⟨x2877, hx2878, hd⟩ := bnd_some hd
   refine Wp.region <| Seg.op (OpT.move rfl) rfl <| Seg.op (OpT.call ent44 rfl (au_key_w hv2876 (hG.mono ((((((hl9.trans hl14).trans hl23).trans hl2112).trans hl2641).trans hl2795).trans hl2874)) hx2878)) rfl <| Seg.op (OpT.assign rfl) rfl <| Seg.nilT <| Wp.seq <| Wp.seq ?_
   replace hd := chk_some hd; obtain ⟨ha2879, hd⟩ := hd
   refine Wp.region <| Seg.op (OpT.move rfl) rfl <| Seg.op (OpT.move rfl) rfl <| Seg.op (OpT.lookupOk (K := (mkS Tryd.underlying9)) (M := (meI Tryd.underlying3)) (i := 4) (k := x2877) (z := 0) Tryd.underlying73 ti3 (show F64 0 by decide) rfl rfl ha2879 rfl) rfl <| Seg.op (OpT.move rfl) rfl <| Seg.op (OpT.extract rfl rfl) rfl <| Seg.op (OpT.extract rfl rfl) rfl <| Seg.op (OpT.assign rfl) rfl ?_
   refine Seg.op (OpT.assign rfl) rfl <| Seg.nilT <| Wp.sr <| Seg.op (OpT.move rfl) rfl <| Seg.op (OpT.not rfl) rfl <| Seg.nilT ?_
   refine Wp.joinT (fun LL HH OO => ∃ (l2892 : List (List Int)), ∃ (m2896 : List (Str × Int)), ∃ (v2893 : Value), ∃ (xs2894 : List Value), [(0, (ptr B0 0)), (2, (.int .i64 a2)), (7, v15), (8, v2893), (9, (.map (some B29))), (10, v2103), (11, (.int .i64 (k2107:Int))), (12, v2632), (14, (ptr B2649 0)), (22, (sv x2877)), (50, v15), (51, (.int .i64 (((partsD x6).length : Nat) : Int))), (52, (.int .i64 (k2636:Int)))] = LL ∧ .blk B0 (.cells #[v1, v3, (.int .i64 a0.2.2)] 62 (0, 0)) :: .blk B2649 (.cells #[(w64 (word x2646 0)), (w64 (word x2646 1)), (w64 (word x2646 2)), (w64 (word x2646 3))] 43 (0, 0)) :: .row v2632 94 5 l2631.length xs2633 :: .row v2103 40 2 l2102.length xs2104 :: mapR (mkS Tryd.underlying9) (meI Tryd.underlying3) B29 m2896 :: .row v2893 67 1 l2892.length xs2894 :: O = OO ∧ au_net_determine_j13 fu l2631 k2636 nx2626 x2646 x2877 l2892 m2896 = some r ∧ LayL (cL cI64) HH l2892 xs2894) ?_ ?_
   ·
    refine Wp.cond (b := !((fmGet m2635 x2877).isSome)) rfl (fun hb2910 => ?_) (fun hb2910 => ?_)
    ·
     replace hd := brT hb2910 hd
     refine Wp.seq ?_
     replace hd := chk_some hd; obtain ⟨ha2912, hd⟩ := hd
     replace hd := chk_some hd; obtain ⟨ha2913, hd⟩ := hd
     replace hd := chk_some hd; obtain ⟨ha2914, hd⟩ := hd
     refine Wp.region <| Seg.op (OpT.move rfl) rfl <| Seg.op (OpT.move rfl) rfl <| Seg.op (OpT.move rfl) rfl ?_
     refine Seg.rowLe (i := 5) rfl fun hb2911 => ?_
     refine Seg.op (OpT.lenRow (i := 5) Tryd.underlying59 rfl rfl) rfl <| Seg.mapUpdate (K := (mkS Tryd.underlying9)) (M := (meI Tryd.underlying3)) (k := x2877) (v := (l2627.length:Int)) 4 Tryd.underlying73 rfl rfl rfl ha2912 ha2913 ha2914 rfl <| Seg.nilT ?_
     replace hd := chk_some hd; obtain ⟨ha2918, hd⟩ := hd
     refine Wp.region <| Seg.op (OpT.move rfl) rfl <| Seg.op (OpT.move rfl) rfl <| Seg.buildD1 (c := (cL cI64)) (y := x2871) (cs := [v2875]) Tryd.underlying59 ti67 rfl rfl rfl (cellsL hv2876.one) (⟨_, rfl, hv2876⟩) rfl fun v2915 xs2916 hq2917 => Seg.appD (i := 6) (j := 0) (hq2630.mono (hl2795.trans hl2874)) hq2917 Tryd.underlying59 ti67 rfl (by decide) rfl rfl rfl rfl (by decide) ha2918 rfl fun v2919 xs2920 hq2921 => Seg.drop (i := 0) <| Seg.op (OpT.assign rfl) rfl <| Seg.nil ?_
     refine At.joinE (L' := [(0, (ptr B0 0)), (2, (.int .i64 a2)), (7, v15), (8, v2919), (9, (.map (some B29))), (10, v2103), (11, (.int .i64 (k2107:Int))), (12, v2632), (14, (ptr B2649 0)), (22, (sv x2877)), (50, v15), (51, (.int .i64 (((partsD x6).length : Nat) : Int))), (52, (.int .i64 (k2636:Int)))]) (Hp.le.refl _) (.cons rfl (.cons rfl (.cons rfl (.cons rfl (.cons rfl (.cons rfl (.cons rfl (.cons rfl (.cons rfl (.cons rfl (.cons rfl (.cons rfl (.cons rfl (.nil)))))))))))))) ⟨(l2627 ++ ([x2871] : List (List Int))), (fmPut m2635 x2877 (l2627.length:Int)), v2919, xs2920, rfl, rfl, hd, hq2921⟩
    replace hd := brF hb2910 hd
    refine Wp.skip ?_
    refine At.joinE (L' := [(0, (ptr B0 0)), (2, (.int .i64 a2)), (7, v15), (8, v2628), (9, (.map (some B29))), (10, v2103), (11, (.int .i64 (k2107:Int))), (12, v2632), (14, (ptr B2649 0)), (22, (sv x2877)), (50, v15), (51, (.int .i64 (((partsD x6).length : Nat) : Int))), (52, (.int .i64 (k2636:Int)))]) (Hp.le.refl _) (.cons rfl (.cons rfl (.cons rfl (.cons rfl (.cons rfl (.cons rfl (.cons rfl (.cons rfl (.cons rfl (.cons rfl (.cons rfl (.cons rfl (.cons rfl (.nil)))))))))))))) ⟨l2627, m2635, v2628, xs2629, rfl, rfl, hd, (hq2630.mono (hl2795.trans hl2874))⟩
   intro L2900 H2898 O2901 hl2899 hI2897
   obtain ⟨l2892, m2896, v2893, xs2894, rfl, rfl, hd, hq2895⟩ := hI2897
   unfold au_net_determine_j13 at hd
   replace hd := chk_some hd; obtain ⟨ha2902, hd⟩ := hd
   replace hd := chk_some hd; obtain ⟨ha2906, hd⟩ := hd
   refine Wp.region <| Seg.op (OpT.move rfl) rfl <| Seg.op (OpT.ldBlkW (i := 1) Tryd.underlying43 rfl ti43 rfl rfl rfl) rfl <| Seg.op (OpT.move rfl) rfl <| Seg.op (OpT.move rfl) rfl <| Seg.op (OpT.lookup (K := (mkS Tryd.underlying9)) (M := (meI Tryd.underlying3)) (i := 4) (k := x2877) (z := 0) Tryd.underlying73 ti3 (show F64 0 by decide) rfl rfl ha2902 rfl) rfl <| Seg.op (OpT.buildS (vs := [(0, (.agg #[(w64 (word x2646 0)), (w64 (word x2646 1)), (w64 (word x2646 2)), (w64 (word x2646 3))])), (1, (.int .i64 ((fmGet m2896 x2877).getD 0)))]) (cs := #[(w64 (word x2646 0)), (w64 (word x2646 1)), (w64 (word x2646 2)), (w64 (word x2646 3)), (.int .i64 ((fmGet m2896 x2877).getD 0))]) plf94 ti94 rfl rfl (vc_cons rfl (vc_cons rfl (vc_nil))) rfl) rfl <| Seg.buildD1 (c := (cP cBs cI64)) (y := (x2646, (fmGet m2896 x2877).getD 0)) (cs := [(w64 (word x2646 0)), (w64 (word x2646 1)), (w64 (word x2646 2)), (w64 (word x2646 3)), (.int .i64 ((fmGet m2896 x2877).getD 0))]) Tryd.underlying92 ti94 rfl rfl rfl rfl (⟨[(w64 (word x2646 0)), (w64 (word x2646 1)), (w64 (word x2646 2)), (w64 (word x2646 3))], [(.int .i64 ((fmGet m2896 x2877).getD 0))], rfl, rfl, rfl⟩) rfl fun v2903 xs2904 hq2905 => ?_
   refine Seg.appD (i := 3) (j := 0) (hq2634.mono ((hl2795.trans hl2874).trans hl2899)) hq2905 Tryd.underlying92 ti94 rfl (by decide) rfl rfl rfl rfl (by decide) ha2906 rfl fun v2907 xs2908 hq2909 => Seg.drop (i := 0) <| Seg.op (OpT.assign rfl) rfl <| Seg.nil <| At.blk_n <| At.then_n <| Wp.region <| Seg.op (OpT.add rfl rfl (fits64 (by omega))) rfl ?_
   refine Seg.op (OpT.move rfl) rfl <| Seg.nil <| At.permK [2, 3, 4, 5, 0] 6 rfl rfl rfl ?_
   refine At.nextE (L' := [(0, (ptr B0 0)), (2, (.int .i64 a2)), (7, v15), (8, v2893), (9, (.map (some B29))), (10, v2103), (11, (.int .i64 (k2107:Int))), (12, v2907), (50, v15), (51, (.int .i64 (((partsD x6).length : Nat) : Int))), (52, (.int .i64 ((k2636 + 1 : Nat) : Int)))]) m2639 (Nat.lt_succ_self _) ((hl2795.trans hl2874).trans hl2899) (.cons rfl (.cons rfl (.cons rfl (.cons rfl (.cons rfl (.cons rfl (.cons rfl (.cons rfl (.cons rfl (.cons rfl (.cons (lk_int rfl (by omega)) (.nil)))))))))))) ⟨l2892, (l2631 ++ ([(x2646, (fmGet m2896 x2877).getD 0)] : List (BSet × Int))), m2896, (k2636 + 1), v2893, xs2894, v2907, xs2908, rfl, rfl, (by rw [← hn2644]; exact hd), hq2895, hq2909⟩
  replace hd := brF hb2645 hd
  replace hb2645 := of_decide_eq_false hb2645
  refine Wp.exit <| At.then_x <| At.then_x <| At.blk_hit <| At.then_n <| Wp.seq ?_
  obtain ⟨x2922, hx2923, hd⟩ := bnd_some hd
  have hx2923_ := idx_bd hx2923
  obtain ⟨x2927, hx2928, hd⟩ := bnd_some hd
  refine Wp.region <| Seg.op (OpT.move rfl) rfl <| Seg.op (OpT.move rfl) rfl ?_
  obtain ⟨_, ⟨v2925, rfl, hv2926⟩, hc2924, hc2924_⟩ := LayL.get hq2630 (idx_some hx2923).2
  refine Seg.op (OpT.ixRow (j := 3) Tryd.underlying59 ti67 rfl rfl rfl (idx_bd hx2923)) rfl <| Seg.op (OpT.ldRow (i := 3) (k := k2107 * 1 + 0) Tryd.underlying67 rfl rfl rfl (hc2924 0 _ rfl)) rfl <| Seg.op (OpT.move rfl) rfl <| Seg.op (OpT.call ent45 rfl (slices_Contains_w hv2926 hx2928)) rfl <| Seg.op (OpT.buildS (vs := [(0, (.bool x2927))]) (cs := #[(.bool x2927), (.slice none 0 0)]) plf40 ti40 rfl rfl (vc_cons rfl (vc_nil)) rfl) rfl <| Seg.alloc (cs := #[(.bool false), (.slice none 0 0)]) ti40 rfl rfl fun B2930 => Seg.stBlkW (i := 0) (cs' := #[(.bool x2927), (.slice none 0 0)]) rfl rfl ti40 rfl rfl (onesA (ones_cons rfl (ones_cons rfl (ones_nil)))) rfl ?_
  refine Seg.own (O := .blk B2930 (.cells #[(.bool x2927), (.slice none 0 0)] 40 (0, 0)) :: .row v2632 94 5 l2631.length xs2633 :: .row v2103 40 2 l2102.length xs2104 :: mapR (mkS Tryd.underlying9) (meI Tryd.underlying3) B29 m2635 :: .row v2628 67 1 l2627.length xs2629 :: .blk B0 (.cells #[v1, v3, (.int .i64 a0.2.2)] 62 (0, 0)) :: O) ?_ rfl
  refine Seg.nilT <| Wp.seq <| Wp.sr <| Seg.op (OpT.move rfl) rfl ?_
  refine Seg.rowLe (i := 1) rfl fun hb2932 => ?_
  refine Seg.op (OpT.lenRow (i := 1) Tryd.underlying92 rfl rfl) rfl <| Seg.op (OpT.move rfl) rfl <| Seg.nilT <| Wp.block <| Wp.nilRow 50 3 <| Wp.sub (L' := [(0, (ptr B0 0)), (2, (.int .i64 a2)), (7, v15), (8, v2628), (9, (.map (some B29))), (10, v2103), (11, (.int .i64 (k2107:Int))), (25, (ptr B2930 0)), (133, v2632), (134, (.int .i64 (l2631.length:Int))), (135, (.int .i64 ((0 : Nat) : Int)))]) (.cons rfl (.cons rfl (.cons rfl (.cons rfl (.cons rfl (.cons rfl (.cons rfl (.cons rfl (.cons rfl (.cons rfl (.cons (lk_int rfl (by omega)) (.nil)))))))))))) <| Wp.loopE (fun m LL HH OO => ∃ (l3084 : List (Int × Int × Int)), ∃ (k3088 : Nat), ∃ (v3085 : Value), ∃ (xs3086 : List Value), [(0, (ptr B0 0)), (2, (.int .i64 a2)), (7, v15), (8, v2628), (9, (.map (some B29))), (10, v2103), (11, (.int .i64 (k2107:Int))), (25, (ptr B2930 0)), (133, v2632), (134, (.int .i64 (l2631.length:Int))), (135, (.int .i64 (k3088:Int)))] = LL ∧ .row v3085 50 3 l3084.length xs3086 :: .blk B2930 (.cells #[(.bool x2927), v3085] 40 (0, 0)) :: .row v2632 94 5 l2631.length xs2633 :: .row v2103 40 2 l2102.length xs2104 :: mapR (mkS Tryd.underlying9) (meI Tryd.underlying3) B29 m2635 :: .row v2628 67 1 l2627.length xs2629 :: .blk B0 (.cells #[v1, v3, (.int .i64 a0.2.2)] 62 (0, 0)) :: O = OO ∧ loopK m (fun p nx => au_net_determine_b14 fu l2102 k2107 nx2097 l2627 l2631 m2635 x2927 p.1 p.2 nx) (l3084, k3088) = some r ∧ LayL (cP cU8 (cP cU8 cI64)) HH l3084 xs3086) fu ⟨([] : List (Int × Int × Int)), 0, (.slice none 0 0), [], rfl, rfl, hd, (LayL.nil (c := (cP cU8 (cP cU8 cI64))) (H := H2640))⟩ ?_
  intro m3090 L3094 H3092 O3095 hl3093 hI3089
  obtain ⟨l3084, k3088, v3085, xs3086, rfl, rfl, hd, hq3087⟩ := hI3089
  replace hd := loopK_some hd; obtain ⟨m3091, rfl, hd⟩ := hd
  obtain ⟨nx3083, hn3096⟩ : ∃ f, f = loopK m3091 (fun p nx => au_net_determine_b14 fu l2102 k2107 nx2097 l2627 l2631 m2635 x2927 p.1 p.2 nx) := ⟨_, rfl⟩
  rw [← hn3096] at hd
  replace hd : au_net_determine_b14 fu l2102 k2107 nx2097 l2627 l2631 m2635 x2927 l3084 k3088 nx3083 = some r := hd
  unfold au_net_determine_b14 at hd
  refine Wp.sr <| Seg.op (OpT.lss rfl rfl) rfl <| Seg.nilT <| Wp.seq ?_
  refine Wp.cond (b := decide ((k3088:Int) < (l2631.length:Int))) rfl (fun hb3097 => ?_) (fun hb3097 => ?_)
  ·
   replace hd := brT hb3097 hd
   replace hb3097 := of_decide_eq_true hb3097
   refine Wp.skip <| At.then_n <| Wp.seq <| Wp.block <| Wp.seq ?_
   obtain ⟨x3098, hx3099, hd⟩ := bnd_some hd
   have hx3099_ := idx_bd hx3099
   refine Wp.region ?_
   obtain ⟨_, ⟨_, _, rfl, rfl, rfl⟩, hc3100, hc3100_⟩ := LayL.get (hq2634.mono hl3093) (idx_some hx3099).2
   refine Seg.op (OpT.ixRow (j := 2) Tryd.underlying92 ti94 rfl rfl rfl (idx_bd hx3099)) rfl <| Seg.op (OpT.ldRowA (i := 2) (vs := [(w64 (word x3098.1 0)), (w64 (word x3098.1 1)), (w64 (word x3098.1 2)), (w64 (word x3098.1 3)), (.int .i64 x3098.2)]) Tryd.underlying94 rfl ti94 (by simp) rfl rfl hc3100) rfl <| Seg.alloc (cs := #[(w64 (word (fun _ => false) 0)), (w64 (word (fun _ => false) 1)), (w64 (word (fun _ => false) 2)), (w64 (word (fun _ => false) 3)), (.int .i64 0)]) ti94 (by simp only [zw]; rfl) rfl fun B3101 => Seg.stBlkW (i := 0) (cs' := #[(w64 (word x3098.1 0)), (w64 (word x3098.1 1)), (w64 (word x3098.1 2)), (w64 (word x3098.1 3)), (.int .i64 x3098.2)]) rfl rfl ti94 rfl rfl (onesA (ones_cons rfl (ones_cons rfl (ones_cons rfl (ones_cons rfl (ones_cons rfl (ones_nil))))))) rfl ?_
   refine Seg.own (O := .blk B3101 (.cells #[(w64 (word x3098.1 0)), (w64 (word x3098.1 1)), (w64 (word x3098.1 2)), (w64 (word x3098.1 3)), (.int .i64 x3098.2)] 94 (0, 0)) :: .row v3085 50 3 l3084.length xs3086 :: .blk B2930 (.cells #[(.bool x2927), v3085] 40 (0, 0)) :: .row v2632 94 5 l2631.length xs2633 :: .row v2103 40 2 l2102.length xs2104 :: mapR (mkS Tryd.underlying9) (meI Tryd.underlying3) B29 m2635 :: .row v2628 67 1 l2627.length xs2629 :: .blk B0 (.cells #[v1, v3, (.int .i64 a0.2.2)] 62 (0, 0)) :: O) ?_ rfl
   refine Seg.nilT <| Wp.sr <| Seg.op (OpT.fld (o' := 0) fl94_0 rfl rfl) rfl <| Seg.op (OpT.ldBlkX (i := 0) (vs := [(w64 (word x3098.1 0)), (w64 (word x3098.1 1)), (w64 (word x3098.1 2)), (w64 (word x3098.1 3))]) Tryd.underlying43 rfl ti43 rfl rfl rfl) rfl <| Seg.opS (OpS.call ent46 rfl (@ranges_i _ _ x3098.1)) rfl ?_
   rintro _ H3102 _ hl3103 ⟨⟨v3104, rfl, hv3105⟩, rfl⟩
   have hb3106 := hv3105.le
   refine Seg.op (OpT.len Tryd.underlying96 rfl hv3105.sl) rfl <| Seg.op (OpT.move rfl) rfl <| Seg.nilT <| Wp.block <| Wp.sub (L' := [(0, (ptr B0 0)), (2, (.int .i64 a2)), (7, v15), (8, v2628), (9, (.map (some B29))), (10, v2103), (11, (.int .i64 (k2107:Int))), (25, (ptr B2930 0)), (27, (ptr B3101 0)), (133, v2632), (134, (.int .i64 (l2631.length:Int))), (135, (.int .i64 (k3088:Int))), (141, v3104), (142, (.int .i64 (((rgD x3098.1).length : Nat) : Int))), (143, (.int .i64 ((0 : Nat) : Int)))]) (.cons rfl (.cons rfl (.cons rfl (.cons rfl (.cons rfl (.cons rfl (.cons rfl (.cons rfl (.cons rfl (.cons rfl (.cons rfl (.cons rfl (.cons rfl (.cons rfl (.cons (lk_int rfl (by omega)) (.nil)))))))))))))))) <| Wp.loopE (fun m LL HH OO => ∃ (l3148 : List (Int × Int × Int)), ∃ (k3152 : Nat), ∃ (v3149 : Value), ∃ (xs3150 : List Value), [(0, (ptr B0 0)), (2, (.int .i64 a2)), (7, v15), (8, v2628), (9, (.map (some B29))), (10, v2103), (11, (.int .i64 (k2107:Int))), (25, (ptr B2930 0)), (27, (ptr B3101 0)), (133, v2632), (134, (.int .i64 (l2631.length:Int))), (135, (.int .i64 (k3088:Int))), (141, v3104), (142, (.int .i64 (((rgD x3098.1).length : Nat) : Int))), (143, (.int .i64 (k3152:Int)))] = LL ∧ .blk B3101 (.cells #[(w64 (word x3098.1 0)), (w64 (word x3098.1 1)), (w64 (word x3098.1 2)), (w64 (word x3098.1 3)), (.int .i64 x3098.2)] 94 (0, 0)) :: .row v3149 50 3 l3148.length xs3150 :: .blk B2930 (.cells #[(.bool x2927), v3149] 40 (0, 0)) :: .row v2632 94 5 l2631.length xs2633 :: .row v2103 40 2 l2102.length xs2104 :: mapR (mkS Tryd.underlying9) (meI Tryd.underlying3) B29 m2635 :: .row v2628 67 1 l2627.length xs2629 :: .blk B0 (.cells #[v1, v3, (.int .i64 a0.2.2)] 62 (0, 0)) :: O = OO ∧ loopK m (fun p nx => au_net_determine_b15 fu k3088 nx3083 x3098 p.1 p.2 nx) (l3148, k3152) = some r ∧ LayL (cP cU8 (cP cU8 cI64)) HH l3148 xs3150) fu ⟨l3084, 0, v3085, xs3086, rfl, rfl, hd, (hq3087.mono hl3103)⟩ ?_
   intro m3154 L3158 H3156 O3159 hl3157 hI3153
   obtain ⟨l3148, k3152, v3149, xs3150, rfl, rfl, hd, hq3151⟩ := hI3153
   replace hd := loopK_some hd; obtain ⟨m3155, rfl, hd⟩ := hd
   obtain ⟨nx3147, hn3160⟩ : ∃ f, f = loopK m3155 (fun p nx => au_net_determine_b15 fu k3088 nx3083 x3098 p.1 p.2 nx) := ⟨_, rfl⟩
   rw [← hn3160] at hd
   replace hd : au_net_determine_b15 fu k3088 nx3083 x3098 l3148 k3152 nx3147 = some r := hd
   unfold au_net_determine_b15 at hd
   refine Wp.sr <| Seg.op (OpT.lss rfl rfl) rfl <| Seg.nilT <| Wp.seq ?_
   refine Wp.cond (b := decide ((k3152:Int) < (((rgD x3098.1).length : Nat) : Int))) rfl (fun hb3161 => ?_) (fun hb3161 => ?_)
   ·
    replace hd := brT hb3161 hd
    replace hb3161 := of_decide_eq_true hb3161
    refine Wp.skip <| At.then_n <| Wp.seq <| Wp.block <| Wp.seq ?_
    obtain ⟨x3162, hx3163, hd⟩ := bnd_some hd
    have hx3163_ := idx_bd hx3163
    refine Wp.region ?_
    obtain ⟨_, ⟨_, _, rfl, ⟨rfl, hr3165, hr3166⟩, ⟨rfl, hr3167, hr3168⟩⟩, hc3164⟩ := SlD.get (hv3105.mono hl3157) hx3163
    refine Seg.op (OpT.ixSl Tryd.underlying96 ti98 rfl (hv3105.mono hl3157).sl rfl (idx_bd hx3163)) rfl <| Seg.op (OpT.ldHA (vs := [(.int .u8 x3162.1), (.int .u8 x3162.2)]) Tryd.underlying98 rfl ti98 rfl rfl (fun j u hj => (hc3164 j u hj))) rfl <| Seg.alloc (cs := #[(.int .u8 0), (.int .u8 0)]) ti98 rfl rfl fun B3169 => Seg.stBlkW (i := 0) (cs' := #[(.int .u8 x3162.1), (.int .u8 x3162.2)]) rfl rfl ti98 rfl rfl (onesA (ones_cons rfl (ones_cons rfl (ones_nil)))) rfl ?_
    refine Seg.own (O := .blk B3169 (.cells #[(.int .u8 x3162.1), (.int .u8 x3162.2)] 98 (0, 0)) :: .blk B3101 (.cells #[(w64 (word x3098.1 0)), (w64 (word x3098.1 1)), (w64 (word x3098.1 2)), (w64 (word x3098.1 3)), (.int .i64 x3098.2)] 94 (0, 0)) :: .row v3149 50 3 l3148.length xs3150 :: .blk B2930 (.cells #[(.bool x2927), v3149] 40 (0, 0)) :: .row v2632 94 5 l2631.length xs2633 :: .row v2103 40 2 l2102.length xs2104 :: mapR (mkS Tryd.underlying9) (meI Tryd.underlying3) B29 m2635 :: .row v2628 67 1 l2627.length xs2629 :: .blk B0 (.cells #[v1, v3, (.int .i64 a0.2.2)] 62 (0, 0)) :: O) ?_ rfl
    refine Seg.nilT ?_
    replace hd := chk_some hd; obtain ⟨ha3173, hd⟩ := hd
    refine Wp.region <| Seg.op (OpT.fld (o' := 1) fl40_1 rfl rfl) rfl <| Seg.op (OpT.ldBlk (i := 3) (v := v3149) Tryd.underlying38 rfl rfl rfl rfl) rfl <| Seg.op (OpT.ixArr (off' := 0) Tryd.underlying98 ti5 rfl rfl (by decide) rfl) rfl <| Seg.op (OpT.ldBlk (i := 0) (v := (.int .u8 x3162.1)) Tryd.underlying5 rfl rfl rfl rfl) rfl <| Seg.op (OpT.ixArr (off' := 1) Tryd.underlying98 ti5 rfl rfl (by decide) rfl) rfl <| Seg.op (OpT.ldBlk (i := 0) (v := (.int .u8 x3162.2)) Tryd.underlying5 rfl rfl rfl rfl) rfl <| Seg.op (OpT.fld (o' := 4) fl94_1 rfl rfl) rfl ?_
    refine Seg.op (OpT.ldBlk (i := 1) (v := (.int .i64 x3098.2)) Tryd.underlying3 rfl rfl rfl rfl) rfl <| Seg.op (OpT.buildS (vs := [(0, (.int .u8 x3162.1)), (1, (.int .u8 x3162.2)), (2, (.int .i64 x3098.2))]) (cs := #[(.int .u8 x3162.1), (.int .u8 x3162.2), (.int .i64 x3098.2)]) plf50 ti50 rfl rfl (vc_cons rfl (vc_cons rfl (vc_cons rfl (vc_nil)))) rfl) rfl <| Seg.buildD1 (c := (cP cU8 (cP cU8 cI64))) (y := (x3162.1, x3162.2, x3098.2)) (cs := [(.int .u8 x3162.1), (.int .u8 x3162.2), (.int .i64 x3098.2)]) Tryd.underlying38 ti50 rfl rfl rfl rfl (⟨[(.int .u8 x3162.1)], [(.int .u8 x3162.2), (.int .i64 x3098.2)], rfl, ⟨rfl, (show (0 : Int) ≤ x3162.1 by omega), (show x3162.1 ≤ (255 : Int) by omega)⟩, ⟨[(.int .u8 x3162.2)], [(.int .i64 x3098.2)], rfl, ⟨rfl, (show (0 : Int) ≤ x3162.2 by omega), (show x3162.2 ≤ (255 : Int) by omega)⟩, rfl⟩⟩) rfl fun v3170 xs3171 hq3172 => Seg.appD (i := 3) (j := 0) hq3151 hq3172 Tryd.underlying38 ti50 rfl (by decide) rfl rfl rfl rfl (by decide) ha3173 rfl fun v3174 xs3175 hq3176 => Seg.drop (i := 0) <| Seg.op (OpT.fld (o' := 1) fl40_1 rfl rfl) rfl <| Seg.rowOne (i := 2) rfl fun ho3177 => Seg.stBlk1 (i := 3) rfl rfl ho3177 ti38 rfl (Nat.le_of_ble_eq_true rfl) ?_
    refine Seg.own (O := .blk B3169 (.cells #[(.int .u8 x3162.1), (.int .u8 x3162.2)] 98 (0, 0)) :: .blk B3101 (.cells #[(w64 (word x3098.1 0)), (w64 (word x3098.1 1)), (w64 (word x3098.1 2)), (w64 (word x3098.1 3)), (.int .i64 x3098.2)] 94 (0, 0)) :: .row v3174 50 3 (l3148 ++ ([(x3162.1, x3162.2, x3098.2)] : List (Int × Int × Int))).length xs3175 :: .blk B2930 (.cells #[(.bool x2927), v3174] 40 (0, 0)) :: .row v2632 94 5 l2631.length xs2633 :: .row v2103 40 2 l2102.length xs2104 :: mapR (mkS Tryd.underlying9) (meI Tryd.underlying3) B29 m2635 :: .row v2628 67 1 l2627.length xs2629 :: .blk B0 (.cells #[v1, v3, (.int .i64 a0.2.2)] 62 (0, 0)) :: O) ?_ rfl
    refine Seg.nil <| At.blk_n <| At.then_n <| Wp.region <| Seg.op (OpT.add rfl rfl (fits64 (by omega))) rfl <| Seg.op (OpT.move rfl) rfl <| Seg.nil <| At.permK [1, 2, 3, 4, 5, 6, 7, 8] 9 rfl rfl rfl ?_
    refine At.nextE (L' := [(0, (ptr B0 0)), (2, (.int .i64 a2)), (7, v15), (8, v2628), (9, (.map (some B29))), (10, v2103), (11, (.int .i64 (k2107:Int))), (25, (ptr B2930 0)), (27, (ptr B3101 0)), (133, v2632), (134, (.int .i64 (l2631.length:Int))), (135, (.int .i64 (k3088:Int))), (141, v3104), (142, (.int .i64 (((rgD x3098.1).length : Nat) : Int))), (143, (.int .i64 ((k3152 + 1 : Nat) : Int)))]) m3155 (Nat.lt_succ_self _) (Hp.le.refl _) (.cons rfl (.cons rfl (.cons rfl (.cons rfl (.cons rfl (.cons rfl (.cons rfl (.cons rfl (.cons rfl (.cons rfl (.cons rfl (.cons rfl (.cons rfl (.cons rfl (.cons (lk_int rfl (by omega)) (.nil)))))))))))))))) ⟨(l3148 ++ ([(x3162.1, x3162.2, x3098.2)] : List (Int × Int × Int))), (k3152 + 1), v3174, xs3175, rfl, rfl, (by rw [← hn3160]; exact hd), hq3176⟩
   replace hd := brF hb3161 hd
   replace hb3161 := of_decide_eq_false hb3161
   refine Wp.exit <| At.then_x <| At.then_x <| At.blk_hit <| At.blk_n <| At.then_n <| Wp.region <| Seg.op (OpT.add rfl rfl (fits64 (by omega))) rfl ?_
   refine Seg.op (OpT.move rfl) rfl <| Seg.nil <| At.permK [1, 2, 3, 4, 5, 6, 7] 8 rfl rfl rfl ?_
   refine At.nextE (L' := [(0, (ptr B0 0)), (2, (.int .i64 a2)), (7, v15), (8, v2628), (9, (.map (some B29))), (10, v2103), (11, (.int .i64 (k2107:Int))), (25, (ptr B2930 0)), (133, v2632), (134, (.int .i64 (l2631.length:Int))), (135, (.int .i64 ((k3088 + 1 : Nat) : Int)))]) m3091 (Nat.lt_succ_self _) (hl3103.trans hl3157) (.cons rfl (.cons rfl (.cons rfl (.cons rfl (.cons rfl (.cons rfl (.cons rfl (.cons rfl (.cons rfl (.cons rfl (.cons (lk_int rfl (by omega)) (.nil)))))))))))) ⟨l3148, (k3088 + 1), v3149, xs3150, rfl, rfl, (by rw [← hn3096]; exact hd), hq3151⟩
  replace hd := brF hb3097 hd
  replace hb3097 := of_decide_eq_false hb3097
  refine Wp.exit <| At.then_x <| At.then_x <| At.blk_hit <| At.then_n <| Wp.seq ?_
  replace hd := chk_some hd; obtain ⟨ha3178, hd⟩ := hd
  replace hd := chk_some hd; obtain ⟨ha3179, hd⟩ := hd
  refine Wp.region <| Seg.op (OpT.fld (o' := 1) fl40_1 rfl rfl) rfl <| Seg.op (OpT.ldBlk (i := 1) (v := v3085) Tryd.underlying38 rfl rfl rfl rfl) rfl <| Seg.opS (OpS.call ent47 rfl (sortFT hq3087 ha3178 ha3179)) rfl ?_
  rintro _ H3180 _ hl3181 ⟨xs3182, rfl, hq3183, rfl⟩
  refine Seg.nilT ?_
  replace hd := chk_some hd; obtain ⟨ha3192, hd⟩ := hd
  refine Wp.region <| Seg.op (OpT.move rfl) rfl <| Seg.op (OpT.ldBlkW (i := 1) Tryd.underlying40 rfl ti40 rfl rfl rfl) rfl ?_
  refine Seg.rowLe (i := 0) rfl fun hb3187 => ?_
  refine Seg.freeze (i := 0) rfl fun H3188 hl3189 hs3190 => ?_
  have hv3191 := SlD.of (c := (cP cU8 (cP cU8 cI64))) hs3190 rfl (hq3183.mono hl3189) hb3187
  refine Seg.buildD1 (c := (cP cB (cL (cP cU8 (cP cU8 cI64))))) (y := (x2927, sortF cmpLo l3084)) (cs := [(.bool x2927), v3085]) Tryd.underlying22 ti40 rfl rfl rfl rfl (⟨[(.bool x2927)], [v3085], rfl, rfl, ⟨_, rfl, hv3191⟩⟩) rfl fun v3184 xs3185 hq3186 => Seg.appD (i := 3) (j := 0) (hq2105.mono (((hl2641.trans hl3093).trans hl3181).trans hl3189)) hq3186 Tryd.underlying22 ti40 rfl (by decide) rfl rfl rfl rfl (by decide) ha3192 rfl fun v3193 xs3194 hq3195 => Seg.drop (i := 0) <| Seg.op (OpT.assign rfl) rfl <| Seg.nil <| At.blk_n <| At.then_n <| Wp.region ?_
  refine Seg.op (OpT.move rfl) rfl <| Seg.op (OpT.add rfl rfl (fits64 (by omega))) rfl <| Seg.op (OpT.assign rfl) rfl <| Seg.nil <| At.permK [2, 3, 4, 5] 6 rfl rfl rfl ?_
  refine At.nextE (L' := [(0, (ptr B0 0)), (2, (.int .i64 a2)), (7, v15), (8, v2628), (9, (.map (some B29))), (10, v3193), (11, (.int .i64 ((k2107 + 1 : Nat) : Int)))]) m2110 (Nat.lt_succ_self _) (((hl2641.trans hl3093).trans hl3181).trans hl3189) (.cons rfl (.cons rfl (.cons rfl (.cons rfl (.cons rfl (.cons rfl (.cons (lk_int rfl (by omega)) (.nil)))))))) ⟨l2627, (l2102 ++ ([(x2927, sortF cmpLo l3084)] : List (Bool × (List (Int × Int × Int))))), m2635, (k2107 + 1), v2628, xs2629, v3193, xs3194, rfl, rfl, (by rw [← hn2115]; exact hd), (hq2630.mono ((hl3093.trans hl3181).trans hl3189)), hq3195⟩
 replace hd := brF hb2117 hd
 replace hb2117 := of_decide_eq_false hb2117
 refine Wp.exit <| At.then_x <| At.then_x <| At.blk_hit <| At.then_n <| Wp.sr <| Seg.op (OpT.move rfl) rfl <| Seg.op (OpT.assign rfl) rfl ?_
 refine Seg.nilT <| Wp.ret ?_
 refine At.rowLe (i := 0) rfl fun hb3196 => ?_
 refine At.freeze (i := 0) rfl fun H3199 hl3200 hs3197 => ?_
 have hv3198 := SlD.of (c := (cP cB (cL (cP cU8 (cP cU8 cI64))))) hs3197 rfl (hq2105.mono hl3200) hb3196
 obtain rfl := Option.some.inj hd
 exact At.res1 rfl (RV.tmp (v := v2103) rfl) (fun w hs => ⟨_, _, _, rfl, ((((hl9.trans hl14).trans hl23).trans hl2112).trans hl3200), (hs.permK [2] 3 rfl rfl rfl), ⟨⟨v2103, rfl, hv3198⟩, rfl⟩⟩)

set_option maxRecDepth 100000 in
set_option maxHeartbeats 4000000 in
theorem rx_check_w {fu : Nat} : ∀ {H : Hp} {O : List Res} {a0 : Rx} {a1 : Int} {v1 : Value} {r : Int} (hv2 : SlD cRx H a0.subs v1) (hd : rx_check fu a0 a1 = some r),
    TriV Tryd.prog 37 [(.agg #[(.int .i64 a0.kind), (w64 (word a0.set 0)), (w64 (word a0.set 1)), (w64 (word a0.set 2)), (w64 (word a0.set 3)), v1]), (.int .i64 a1)] H O (.int .i64 r) := by
 induction fu with
 | zero => intros; rename_i hd; exact absurd hd (by simp [rx_check])
 | succ fu ih =>
 intro H O a0 a1 v1 r hv2 hd
 replace hd : rx_check_b0 fu (rx_check fu) a0 a1 = some r := hd
 generalize rx_check fu = slf at hd ih
 intro w hs
 refine wp_of Tryd.func37 rfl rfl rfl ?_ hs
 clear hs w
 unfold rx_check_b0 at hd
 refine Wp.sr <| Seg.box (cs := #[(.int .i64 a0.kind), (w64 (word a0.set 0)), (w64 (word a0.set 1)), (w64 (word a0.set 2)), (w64 (word a0.set 3)), v1]) rfl rfl rfl fun B3 => Seg.op (OpT.assign rfl) rfl <| Seg.nilT <| Wp.seq <| Wp.sr <| Seg.op (OpT.move rfl) rfl <| Seg.op (OpT.gtr rfl rfl) rfl ?_
 refine Seg.nilT ?_
 refine Wp.cond (b := decide (16 < a1)) rfl (fun hb4 => ?_) (fun hb4 => ?_)
 ·
  replace hd := brT hb4 hd
  replace hb4 := of_decide_eq_true hb4
  refine Wp.sr <| Seg.op (OpT.assign rfl) rfl <| Seg.nilT <| Wp.ret <| At.then_r ?_
  obtain rfl := Option.some.inj hd
  exact At.res1 rfl (RV.tmp (v := (.int .i64 9)) rfl) (fun w hs => ⟨rfl, (hs.dropN 1).weaken (Hp.le.refl _)⟩)
 replace hd := brF hb4 hd
 replace hb4 := of_decide_eq_false hb4
 refine Wp.skip <| At.then_n <| Wp.seq <| Wp.seq ?_
 rcases Bool.eq_false_or_eq_true (decide (a0.kind < 0)) with hg5 | hg5
 ·
  replace hd := brT hg5 hd
  have hg5_ := of_decide_eq_true hg5
  refine Wp.region <| Seg.op (OpT.fld (o' := 0) fl46_0 rfl rfl) rfl <| Seg.op (OpT.ldBlk (i := 0) (v := (.int .i64 a0.kind)) Tryd.underlying3 rfl rfl rfl rfl) rfl <| Seg.op (OpT.asB (b := decide (a0.kind < 0)) (c := true) (OpT.lss rfl rfl) hg5) rfl <| Seg.op (OpT.move rfl) rfl <| Seg.skipG rfl rfl rfl rfl <| Seg.skipG rfl rfl rfl rfl <| Seg.skipG rfl rfl rfl rfl ?_
  refine Seg.op (OpT.pickT rfl rfl) rfl <| Seg.op (OpT.move rfl) rfl <| Seg.skipG rfl rfl rfl rfl <| Seg.skipG rfl rfl rfl rfl <| Seg.skipG rfl rfl rfl rfl <| Seg.skipG rfl rfl rfl rfl <| Seg.skipU rfl rfl rfl <| Seg.skipU rfl rfl rfl ?_
  refine Seg.skipU rfl rfl rfl <| Seg.skipU rfl rfl rfl <| Seg.skipG rfl rfl rfl rfl <| Seg.op (OpT.pickT rfl rfl) rfl <| Seg.nilT <| Wp.condT rfl <| Wp.sr <| Seg.op (OpT.assign rfl) rfl ?_
  refine Seg.nilT <| Wp.ret <| At.then_r ?_
  obtain rfl := Option.some.inj hd
  exact At.res1 rfl (RV.tmp (v := (.int .i64 11)) rfl) (fun w hs => ⟨rfl, (hs.dropN 1).weaken (Hp.le.refl _)⟩)
 replace hd := brF hg5 hd
 have hg5_ := of_decide_eq_false hg5
 rcases Bool.eq_false_or_eq_true (decide (5 < a0.kind)) with hg6 | hg6
 ·
  replace hd := brT hg6 hd
  have hg6_ := of_decide_eq_true hg6
  refine Wp.region <| Seg.op (OpT.fld (o' := 0) fl46_0 rfl rfl) rfl <| Seg.op (OpT.ldBlk (i := 0) (v := (.int .i64 a0.kind)) Tryd.underlying3 rfl rfl rfl rfl) rfl <| Seg.op (OpT.asB (b := decide (a0.kind < 0)) (c := false) (OpT.lss rfl rfl) hg5) rfl <| Seg.op (OpT.move rfl) rfl <| Seg.opG rfl rfl (OpT.fld (o' := 0) fl46_0 rfl rfl) rfl <| Seg.opG rfl rfl (OpT.ldBlk (i := 0) (v := (.int .i64 a0.kind)) Tryd.underlying3 rfl rfl rfl rfl) rfl <| Seg.opG rfl rfl (OpT.asB (b := decide (5 < a0.kind)) (c := true) (OpT.gtr rfl rfl) hg6) rfl ?_
  refine Seg.op (OpT.pickF rfl rfl) rfl <| Seg.op (OpT.move rfl) rfl <| Seg.skipG rfl rfl rfl rfl <| Seg.skipG rfl rfl rfl rfl <| Seg.skipG rfl rfl rfl rfl <| Seg.skipG rfl rfl rfl rfl <| Seg.skipU rfl rfl rfl <| Seg.skipU rfl rfl rfl ?_
  refine Seg.skipU rfl rfl rfl <| Seg.skipU rfl rfl rfl <| Seg.skipG rfl rfl rfl rfl <| Seg.op (OpT.pickT rfl rfl) rfl <| Seg.nilT <| Wp.condT rfl <| Wp.sr <| Seg.op (OpT.assign rfl) rfl ?_
  refine Seg.nilT <| Wp.ret <| At.then_r ?_
  obtain rfl := Option.some.inj hd
  exact At.res1 rfl (RV.tmp (v := (.int .i64 11)) rfl) (fun w hs => ⟨rfl, (hs.dropN 1).weaken (Hp.le.refl _)⟩)
 replace hd := brF hg6 hd
 have hg6_ := of_decide_eq_false hg6
 rcases Bool.eq_false_or_eq_true (decide (a0.kind ≠ 2)) with hg7 | hg7
 ·
  replace hd := brT hg7 hd
  have hg7_ := of_decide_eq_true hg7
  refine Wp.region <| Seg.op (OpT.fld (o' := 0) fl46_0 rfl rfl) rfl <| Seg.op (OpT.ldBlk (i := 0) (v := (.int .i64 a0.kind)) Tryd.underlying3 rfl rfl rfl rfl) rfl <| Seg.op (OpT.asB (b := decide (a0.kind < 0)) (c := false) (OpT.lss rfl rfl) hg5) rfl <| Seg.op (OpT.move rfl) rfl <| Seg.opG rfl rfl (OpT.fld (o' := 0) fl46_0 rfl rfl) rfl <| Seg.opG rfl rfl (OpT.ldBlk (i := 0) (v := (.int .i64 a0.kind)) Tryd.underlying3 rfl rfl rfl rfl) rfl <| Seg.opG rfl rfl (OpT.asB (b := decide (5 < a0.kind)) (c := false) (OpT.gtr rfl rfl) hg6) rfl ?_
  refine Seg.op (OpT.pickF rfl rfl) rfl <| Seg.op (OpT.move rfl) rfl <| Seg.opG rfl rfl (OpT.fld (o' := 0) fl46_0 rfl rfl) rfl <| Seg.opG rfl rfl (OpT.ldBlk (i := 0) (v := (.int .i64 a0.kind)) Tryd.underlying3 rfl rfl rfl rfl) rfl <| Seg.opG rfl rfl (OpT.asB (b := decide (a0.kind ≠ 2)) (c := true) (OpT.neq rfl rfl) hg7) rfl <| Seg.opG rfl rfl (OpT.move rfl) rfl <| Seg.opG rfl rfl (OpT.fld (o' := 1) fl46_1 rfl rfl) rfl <| Seg.opG rfl rfl (OpT.ldBlkX (i := 0) (vs := [(w64 (word a0.set 0)), (w64 (word a0.set 1)), (w64 (word a0.set 2)), (w64 (word a0.set 3))]) Tryd.underlying43 rfl ti43 rfl rfl rfl) rfl ?_
  refine Seg.opG rfl rfl (OpT.cast (v' := (.agg #[(w64 (word (fun _ => false) 0)), (w64 (word (fun _ => false) 1)), (w64 (word (fun _ => false) 2)), (w64 (word (fun _ => false) 3))])) (OpT.buildA2 (vs := []) (cs := #[.int .u64 0, .int .u64 0, .int .u64 0, .int .u64 0]) Tryd.underlying43 ti43 ti41 rfl rfl (vc_nil) rfl) bs0) rfl <| Seg.opG rfl rfl (OpT.neBs (p := a0.set) (q := (fun _ => false)) eqg43 Tryd.underlying43 Tryd.underlying41 ti41 rfl rfl) rfl <| Seg.opG rfl rfl (OpT.pickT rfl rfl) rfl <| Seg.op (OpT.pickF rfl rfl) rfl <| Seg.nilT ?_
  refine Wp.cond (b := !eqS a0.set (fun _ => false)) rfl (fun hb8 => ?_) (fun hb8 => ?_)
  ·
   replace hd := brT hb8 hd
   refine Wp.sr <| Seg.op (OpT.assign rfl) rfl <| Seg.nilT <| Wp.ret <| At.then_r ?_
   obtain rfl := Option.some.inj hd
   exact At.res1 rfl (RV.tmp (v := (.int .i64 11)) rfl) (fun w hs => ⟨rfl, (hs.dropN 1).weaken (Hp.le.refl _)⟩)
  replace hd := brF hb8 hd
  refine Wp.skip <| At.then_n <| Wp.sr <| Seg.op (OpT.fld (o' := 5) fl46_2 rfl rfl) rfl <| Seg.op (OpT.ldBlk (i := 0) (v := v1) Tryd.underlying44 rfl rfl rfl rfl) rfl ?_
  have hb9 := hv2.le
  refine Seg.op (OpT.len Tryd.underlying44 rfl hv2.sl) rfl <| Seg.op (OpT.assign rfl) rfl <| Seg.nilT <| Wp.seq <| Wp.sr <| Seg.op (OpT.fld (o' := 0) fl46_0 rfl rfl) rfl <| Seg.op (OpT.ldBlk (i := 0) (v := (.int .i64 a0.kind)) Tryd.underlying3 rfl rfl rfl rfl) rfl <| Seg.nilT ?_
  refine Wp.joinT (fun LL HH OO => [(1, (.int .i64 a1)), (2, (ptr B3 0))] = LL ∧ .blk B3 (.cells #[(.int .i64 a0.kind), (w64 (word a0.set 0)), (w64 (word a0.set 1)), (w64 (word a0.set 2)), (w64 (word a0.set 3)), v1] 46 (0, 0)) :: O = OO ∧ rx_check_j2 fu a0 a1 slf = some r) ?_ ?_
  ·
   refine Wp.block <| Wp.seq <| Wp.sr <| Seg.op (OpT.eql rfl rfl) rfl <| Seg.op (OpT.assign rfl) rfl <| Seg.nilT ?_
   refine Wp.joinT (fun LL HH OO => ∃ (b80 : Bool), [(1, (.int .i64 a1)), (2, (ptr B3 0)), (5, (.int .i64 (a0.subs.length:Int))), (34, (.int .i64 a0.kind)), (37, (.bool b80))] = LL ∧ .blk B3 (.cells #[(.int .i64 a0.kind), (w64 (word a0.set 0)), (w64 (word a0.set 1)), (w64 (word a0.set 2)), (w64 (word a0.set 3)), v1] 46 (0, 0)) :: O = OO ∧ rx_check_j4 fu a0 a1 slf b80 = some r) ?_ ?_
   ·
    refine Wp.cond (b := decide (a0.kind = 3)) rfl (fun hb91 => ?_) (fun hb91 => ?_)
    ·
     replace hd := brT hb91 hd
     replace hb91 := of_decide_eq_true hb91
     refine Wp.skip ?_
     refine At.joinE (L' := [(1, (.int .i64 a1)), (2, (ptr B3 0)), (5, (.int .i64 (a0.subs.length:Int))), (34, (.int .i64 a0.kind)), (37, (.bool (decide (a0.kind = 3))))]) (Hp.le.refl _) (.cons rfl (.cons rfl (.cons rfl (.cons rfl (.cons rfl (.nil)))))) ⟨(decide (a0.kind = 3)), rfl, rfl, hd⟩
    replace hd := brF hb91 hd
    replace hb91 := of_decide_eq_false hb91
    refine Wp.region <| Seg.op (OpT.eql rfl rfl) rfl <| Seg.op (OpT.assign rfl) rfl <| Seg.nil ?_
    refine At.joinE (L' := [(1, (.int .i64 a1)), (2, (ptr B3 0)), (5, (.int .i64 (a0.subs.length:Int))), (34, (.int .i64 a0.kind)), (37, (.bool (decide (a0.kind = 4))))]) (Hp.le.refl _) (.cons rfl (.cons rfl (.cons rfl (.cons rfl (.cons rfl (.nil)))))) ⟨(decide (a0.kind = 4)), rfl, rfl, hd⟩
   intro L84 H82 O85 hl83 hI81
   obtain ⟨b80, rfl, rfl, hd⟩ := hI81
   unfold rx_check_j4 at hd
   refine Wp.cond (b := b80) rfl (fun hb86 => ?_) (fun hb86 => ?_)
   ·
    replace hd := brT hb86 hd
    refine Wp.sr <| Seg.op (OpT.move rfl) rfl <| Seg.op (OpT.lss rfl rfl) rfl <| Seg.nilT ?_
    refine Wp.cond (b := decide ((a0.subs.length:Int) < 2)) rfl (fun hb87 => ?_) (fun hb87 => ?_)
    ·
     replace hd := brT hb87 hd
     replace hb87 := of_decide_eq_true hb87
     refine Wp.sr <| Seg.op (OpT.assign rfl) rfl <| Seg.nilT <| Wp.ret <| At.blk_r <| At.then_r ?_
     obtain rfl := Option.some.inj hd
     exact At.res1 rfl (RV.tmp (v := (.int .i64 2)) rfl) (fun w hs => ⟨rfl, (hs.dropN 1).weaken hl83⟩)
    replace hd := brF hb87 hd
    replace hb87 := of_decide_eq_false hb87
    refine Wp.skip <| At.blk_n ?_
    refine At.joinE (L' := [(1, (.int .i64 a1)), (2, (ptr B3 0))]) hl83 (.cons rfl (.cons rfl (.nil))) ⟨rfl, rfl, hd⟩
   replace hd := brF hb86 hd
   refine Wp.sr <| Seg.op (OpT.eql rfl rfl) rfl <| Seg.op (OpT.assign rfl) rfl <| Seg.nilT ?_
   refine Wp.cond (b := decide (a0.kind = 5)) rfl (fun hb88 => ?_) (fun hb88 => ?_)
   ·
    replace hd := brT hb88 hd
    replace hb88 := of_decide_eq_true hb88
    refine Wp.sr <| Seg.op (OpT.move rfl) rfl <| Seg.op (OpT.neq rfl rfl) rfl <| Seg.nilT ?_
    refine Wp.cond (b := decide ((a0.subs.length:Int) ≠ 1)) rfl (fun hb89 => ?_) (fun hb89 => ?_)
    ·
     replace hd := brT hb89 hd
     replace hb89 := of_decide_eq_true hb89
     refine Wp.sr <| Seg.op (OpT.assign rfl) rfl <| Seg.nilT <| Wp.ret <| At.blk_r <| At.then_r ?_
     obtain rfl := Option.some.inj hd
     exact At.res1 rfl (RV.tmp (v := (.int .i64 2)) rfl) (fun w hs => ⟨rfl, (hs.dropN 1).weaken hl83⟩)
    replace hd := brF hb89 hd
    replace hb89 := of_decide_eq_false hb89
    refine Wp.skip <| At.blk_n ?_
    refine At.joinE (L' := [(1, (.int .i64 a1)), (2, (ptr B3 0))]) hl83 (.cons rfl (.cons rfl (.nil))) ⟨rfl, rfl, hd⟩
   replace hd := brF hb88 hd
   replace hb88 := of_decide_eq_false hb88
   refine Wp.sr <| Seg.op (OpT.move rfl) rfl <| Seg.op (OpT.neq rfl rfl) rfl <| Seg.nilT ?_
   refine Wp.cond (b := decide ((a0.subs.length:Int) ≠ 0)) rfl (fun hb90 => ?_) (fun hb90 => ?_)
   ·
    replace hd := brT hb90 hd
    replace hb90 := of_decide_eq_true hb90
    refine Wp.sr <| Seg.op (OpT.assign rfl) rfl <| Seg.nilT <| Wp.ret <| At.blk_r <| At.then_r ?_
    obtain rfl := Option.some.inj hd
    exact At.res1 rfl (RV.tmp (v := (.int .i64 2)) rfl) (fun w hs => ⟨rfl, (hs.dropN 1).weaken hl83⟩)
   replace hd := brF hb90 hd
   replace hb90 := of_decide_eq_false hb90
   refine Wp.skip <| At.blk_n ?_
   refine At.joinE (L' := [(1, (.int .i64 a1)), (2, (ptr B3 0))]) hl83 (.cons rfl (.cons rfl (.nil))) ⟨rfl, rfl, hd⟩
  intro L25 H23 O26 hl24 hI22
  obtain ⟨rfl, rfl, hd⟩ := hI22
  unfold rx_check_j2 at hd
  refine Wp.seq <| Wp.sr <| Seg.op (OpT.fld (o' := 5) fl46_2 rfl rfl) rfl <| Seg.op (OpT.ldBlk (i := 0) (v := v1) Tryd.underlying44 rfl rfl rfl rfl) rfl ?_
  have hb27 := hv2.le
  refine Seg.op (OpT.len Tryd.underlying44 rfl (hv2.mono hl24).sl) rfl <| Seg.op (OpT.move rfl) rfl <| Seg.nilT <| Wp.block <| Wp.sub (L' := [(1, (.int .i64 a1)), (47, v1), (48, (.int .i64 (a0.subs.length:Int))), (49, (.int .i64 ((0 : Nat) : Int)))]) (.cons rfl (.cons rfl (.cons rfl (.cons (lk_int rfl (by omega)) (.nil))))) <| Wp.loopE (fun m LL HH OO => ∃ (k57 : Nat), [(1, (.int .i64 a1)), (47, v1), (48, (.int .i64 (a0.subs.length:Int))), (49, (.int .i64 (k57:Int)))] = LL ∧ .blk B3 (.cells #[(.int .i64 a0.kind), (w64 (word a0.set 0)), (w64 (word a0.set 1)), (w64 (word a0.set 2)), (w64 (word a0.set 3)), v1] 46 (0, 0)) :: O = OO ∧ loopK m (rx_check_b3 fu a0 a1 slf) k57 = some r) fu ⟨0, rfl, rfl, hd⟩ ?_
  intro m59 L63 H61 O64 hl62 hI58
  obtain ⟨k57, rfl, rfl, hd⟩ := hI58
  replace hd := loopK_some hd; obtain ⟨m60, rfl, hd⟩ := hd
  obtain ⟨nx56, hn65⟩ : ∃ f, f = loopK m60 (rx_check_b3 fu a0 a1 slf) := ⟨_, rfl⟩
  rw [← hn65] at hd
  replace hd : rx_check_b3 fu a0 a1 slf k57 nx56 = some r := hd
  unfold rx_check_b3 at hd
  refine Wp.sr <| Seg.op (OpT.lss rfl rfl) rfl <| Seg.nilT <| Wp.seq ?_
  refine Wp.cond (b := decide ((k57:Int) < (a0.subs.length:Int))) rfl (fun hb66 => ?_) (fun hb66 => ?_)
  ·
   replace hd := brT hb66 hd
   replace hb66 := of_decide_eq_true hb66
   refine Wp.skip <| At.then_n <| Wp.seq <| Wp.block <| Wp.seq ?_
   obtain ⟨x67, hx68, hd⟩ := bnd_some hd
   have hx68_ := idx_bd hx68
   refine Wp.region ?_
   obtain ⟨_, hz72, hc69⟩ := SlD.get (hv2.mono (hl24.trans hl62)) hx68
   obtain ⟨v70, rfl, hv71⟩ := layRx.1 hz72
   refine Seg.op (OpT.ixSl Tryd.underlying44 ti46 rfl (hv2.mono (hl24.trans hl62)).sl rfl (idx_bd hx68)) rfl <| Seg.op (OpT.ldHA (vs := [(.int .i64 x67.kind), (w64 (word x67.set 0)), (w64 (word x67.set 1)), (w64 (word x67.set 2)), (w64 (word x67.set 3)), v70]) Tryd.underlying46 rfl ti46 rfl rfl (fun j u hj => (hc69 j u hj))) rfl <| Seg.alloc (cs := #[(.int .i64 0), (w64 (word (fun _ => false) 0)), (w64 (word (fun _ => false) 1)), (w64 (word (fun _ => false) 2)), (w64 (word (fun _ => false) 3)), (.slice none 0 0)]) ti46 (by simp only [zw]; rfl) rfl fun B73 => Seg.stBlkW (i := 0) (cs' := #[(.int .i64 x67.kind), (w64 (word x67.set 0)), (w64 (word x67.set 1)), (w64 (word x67.set 2)), (w64 (word x67.set 3)), v70]) rfl rfl ti46 rfl rfl (onesA (ones_cons rfl (ones_cons rfl (ones_cons rfl (ones_cons rfl (ones_cons rfl (ones_cons hv71.one (ones_nil)))))))) rfl ?_
   refine Seg.own (O := .blk B73 (.cells #[(.int .i64 x67.kind), (w64 (word x67.set 0)), (w64 (word x67.set 1)), (w64 (word x67.set 2)), (w64 (word x67.set 3)), v70] 46 (0, 0)) :: .blk B3 (.cells #[(.int .i64 a0.kind), (w64 (word a0.set 0)), (w64 (word a0.set 1)), (w64 (word a0.set 2)), (w64 (word a0.set 3)), v1] 46 (0, 0)) :: O) ?_ rfl
   refine Seg.nilT <| Wp.seq ?_
   replace hd := chk_some hd; obtain ⟨ha75, hd⟩ := hd
   obtain ⟨x76, hx77, hd⟩ := bnd_some hd
   refine Wp.region <| Seg.op (OpT.ldBlkW (i := 0) Tryd.underlying46 rfl ti46 rfl rfl rfl) rfl <| Seg.op (OpT.move rfl) rfl <| Seg.op (OpT.add rfl rfl (fits64 ha75)) rfl <| Seg.op (OpT.call ent37 rfl (ih hv71 hx77)) rfl <| Seg.op (OpT.assign rfl) rfl <| Seg.nilT <| Wp.sr ?_
   refine Seg.op (OpT.move rfl) rfl <| Seg.op (OpT.neq rfl rfl) rfl <| Seg.nilT ?_
   refine Wp.cond (b := decide (x76 ≠ 0)) rfl (fun hb78 => ?_) (fun hb78 => ?_)
   ·
    replace hd := brT hb78 hd
    replace hb78 := of_decide_eq_true hb78
    refine Wp.sr <| Seg.op (OpT.move rfl) rfl <| Seg.op (OpT.assign rfl) rfl <| Seg.nilT <| Wp.ret <| At.blk_r <| At.then_r <| At.then_r ?_
    refine At.blk_r <| At.then_r ?_
    obtain rfl := Option.some.inj hd
    exact At.res1 rfl (RV.tmp (v := (.int .i64 x76)) rfl) (fun w hs => ⟨rfl, (hs.dropN 2).weaken (hl24.trans hl62)⟩)
   replace hd := brF hb78 hd
   replace hb78 := of_decide_eq_false hb78
   refine Wp.skip <| At.blk_n <| At.then_n <| Wp.region <| Seg.op (OpT.add rfl rfl (fits64 (by omega))) rfl <| Seg.op (OpT.move rfl) rfl <| Seg.nil <| At.permK [1] 2 rfl rfl rfl ?_
   refine At.nextE (L' := [(1, (.int .i64 a1)), (47, v1), (48, (.int .i64 (a0.subs.length:Int))), (49, (.int .i64 ((k57 + 1 : Nat) : Int)))]) m60 (Nat.lt_succ_self _) (Hp.le.refl _) (.cons rfl (.cons rfl (.cons rfl (.cons (lk_int rfl (by omega)) (.nil))))) ⟨(k57 + 1), rfl, rfl, (by rw [← hn65]; exact hd)⟩
  replace hd := brF hb66 hd
  replace hb66 := of_decide_eq_false hb66
  refine Wp.exit <| At.then_x <| At.then_x <| At.blk_hit <| At.then_n <| Wp.sr <| Seg.op (OpT.assign rfl) rfl <| Seg.nilT ?_
  refine Wp.ret ?_
  obtain rfl := Option.some.inj hd
  exact At.res1 rfl (RV.tmp (v := (.int .i64 0)) rfl) (fun w hs => ⟨rfl, (hs.dropN 1).weaken (hl24.trans hl62)⟩)
 replace hd := brF hg7 hd
 have hg7_ := of_decide_eq_false hg7
 refine Wp.region <| Seg.op (OpT.fld (o' := 0) fl46_0 rfl rfl) rfl <| Seg.op (OpT.ldBlk (i := 0) (v := (.int .i64 a0.kind)) Tryd.underlying3 rfl rfl rfl rfl) rfl <| Seg.op (OpT.asB (b := decide (a0.kind < 0)) (c := false) (OpT.lss rfl rfl) hg5) rfl <| Seg.op (OpT.move rfl) rfl <| Seg.opG rfl rfl (OpT.fld (o' := 0) fl46_0 rfl rfl) rfl <| Seg.opG rfl rfl (OpT.ldBlk (i := 0) (v := (.int .i64 a0.kind)) Tryd.underlying3 rfl rfl rfl rfl) rfl <| Seg.opG rfl rfl (OpT.asB (b := decide (5 < a0.kind)) (c := false) (OpT.gtr rfl rfl) hg6) rfl ?_
 refine Seg.op (OpT.pickF rfl rfl) rfl <| Seg.op (OpT.move rfl) rfl <| Seg.opG rfl rfl (OpT.fld (o' := 0) fl46_0 rfl rfl) rfl <| Seg.opG rfl rfl (OpT.ldBlk (i := 0) (v := (.int .i64 a0.kind)) Tryd.underlying3 rfl rfl rfl rfl) rfl <| Seg.opG rfl rfl (OpT.asB (b := decide (a0.kind ≠ 2)) (c := false) (OpT.neq rfl rfl) hg7) rfl <| Seg.opG rfl rfl (OpT.move rfl) rfl <| Seg.skipG rfl rfl rfl rfl <| Seg.skipG rfl rfl rfl rfl ?_
 refine Seg.skipG rfl rfl rfl rfl <| Seg.skipG rfl rfl rfl rfl <| Seg.opG rfl rfl (OpT.pickF rfl rfl) rfl <| Seg.op (OpT.pickF rfl rfl) rfl <| Seg.nilT <| Wp.condF rfl <| Wp.skip <| At.then_n ?_
 refine Wp.sr <| Seg.op (OpT.fld (o' := 5) fl46_2 rfl rfl) rfl <| Seg.op (OpT.ldBlk (i := 0) (v := v1) Tryd.underlying44 rfl rfl rfl rfl) rfl ?_
 have hb92 := hv2.le
 refine Seg.op (OpT.len Tryd.underlying44 rfl hv2.sl) rfl <| Seg.op (OpT.assign rfl) rfl <| Seg.nilT <| Wp.seq <| Wp.sr <| Seg.op (OpT.fld (o' := 0) fl46_0 rfl rfl) rfl <| Seg.op (OpT.ldBlk (i := 0) (v := (.int .i64 a0.kind)) Tryd.underlying3 rfl rfl rfl rfl) rfl <| Seg.nilT ?_
 refine Wp.joinT (fun LL HH OO => [(1, (.int .i64 a1)), (2, (ptr B3 0))] = LL ∧ .blk B3 (.cells #[(.int .i64 a0.kind), (w64 (word a0.set 0)), (w64 (word a0.set 1)), (w64 (word a0.set 2)), (w64 (word a0.set 3)), v1] 46 (0, 0)) :: O = OO ∧ rx_check_j6 fu a0 a1 slf = some r) ?_ ?_
 ·
  refine Wp.block <| Wp.seq <| Wp.sr <| Seg.op (OpT.eql rfl rfl) rfl <| Seg.op (OpT.assign rfl) rfl <| Seg.nilT ?_
  refine Wp.joinT (fun LL HH OO => ∃ (b163 : Bool), [(1, (.int .i64 a1)), (2, (ptr B3 0)), (5, (.int .i64 (a0.subs.length:Int))), (34, (.int .i64 a0.kind)), (37, (.bool b163))] = LL ∧ .blk B3 (.cells #[(.int .i64 a0.kind), (w64 (word a0.set 0)), (w64 (word a0.set 1)), (w64 (word a0.set 2)), (w64 (word a0.set 3)), v1] 46 (0, 0)) :: O = OO ∧ rx_check_j8 fu a0 a1 slf b163 = some r) ?_ ?_
  ·
   refine Wp.cond (b := decide (a0.kind = 3)) rfl (fun hb174 => ?_) (fun hb174 => ?_)
   ·
    replace hd := brT hb174 hd
    replace hb174 := of_decide_eq_true hb174
    refine Wp.skip ?_
    refine At.joinE (L' := [(1, (.int .i64 a1)), (2, (ptr B3 0)), (5, (.int .i64 (a0.subs.length:Int))), (34, (.int .i64 a0.kind)), (37, (.bool (decide (a0.kind = 3))))]) (Hp.le.refl _) (.cons rfl (.cons rfl (.cons rfl (.cons rfl (.cons rfl (.nil)))))) ⟨(decide (a0.kind = 3)), rfl, rfl, hd⟩
   replace hd := brF hb174 hd
   replace hb174 := of_decide_eq_false hb174
   refine Wp.region <| Seg.op (OpT.eql rfl rfl) rfl <| Seg.op (OpT.assign rfl) rfl <| Seg.nil ?_
   refine At.joinE (L' := [(1, (.int .i64 a1)), (2, (ptr B3 0)), (5, (.int .i64 (a0.subs.length:Int))), (34, (.int .i64 a0.kind)), (37, (.bool (decide (a0.kind = 4))))]) (Hp.le.refl _) (.cons rfl (.cons rfl (.cons rfl (.cons rfl (.cons rfl (.nil)))))) ⟨(decide (a0.kind = 4)), rfl, rfl, hd⟩
  intro L167 H165 O168 hl166 hI164
  obtain ⟨b163, rfl, rfl, hd⟩ := hI164
  unfold rx_check_j8 at hd
  refine Wp.cond (b := b163) rfl (fun hb169 => ?_) (fun hb169 => ?_)
  ·
   replace hd := brT hb169 hd
   refine Wp.sr <| Seg.op (OpT.move rfl) rfl <| Seg.op (OpT.lss rfl rfl) rfl <| Seg.nilT ?_
   refine Wp.cond (b := decide ((a0.subs.length:Int) < 2)) rfl (fun hb170 => ?_) (fun hb170 => ?_)
   ·
    replace hd := brT hb170 hd
    replace hb170 := of_decide_eq_true hb170
    refine Wp.sr <| Seg.op (OpT.assign rfl) rfl <| Seg.nilT <| Wp.ret <| At.blk_r <| At.then_r ?_
    obtain rfl := Option.some.inj hd
    exact At.res1 rfl (RV.tmp (v := (.int .i64 2)) rfl) (fun w hs => ⟨rfl, (hs.dropN 1).weaken hl166⟩)
   replace hd := brF hb170 hd
   replace hb170 := of_decide_eq_false hb170
   refine Wp.skip <| At.blk_n ?_
   refine At.joinE (L' := [(1, (.int .i64 a1)), (2, (ptr B3 0))]) hl166 (.cons rfl (.cons rfl (.nil))) ⟨rfl, rfl, hd⟩
  replace hd := brF hb169 hd
  refine Wp.sr <| Seg.op (OpT.eql rfl rfl) rfl <| Seg.op (OpT.assign rfl) rfl <| Seg.nilT ?_
  refine Wp.cond (b := decide (a0.kind = 5)) rfl (fun hb171 => ?_) (fun hb171 => ?_)
  ·
   replace hd := brT hb171 hd
   replace hb171 := of_decide_eq_true hb171
   refine Wp.sr <| Seg.op (OpT.move rfl) rfl <| Seg.op (OpT.neq rfl rfl) rfl <| Seg.nilT ?_
   refine Wp.cond (b := decide ((a0.subs.length:Int) ≠ 1)) rfl (fun hb172 => ?_) (fun hb172 => ?_)
   ·
    replace hd := brT hb172 hd
    replace hb172 := of_decide_eq_true hb172
    refine Wp.sr <| Seg.op (OpT.assign rfl) rfl <| Seg.nilT <| Wp.ret <| At.blk_r <| At.then_r ?_
    obtain rfl := Option.some.inj hd
    exact At.res1 rfl (RV.tmp (v := (.int .i64 2)) rfl) (fun w hs => ⟨rfl, (hs.dropN 1).weaken hl166⟩)
   replace hd := brF hb172 hd
   replace hb172 := of_decide_eq_false hb172
   refine Wp.skip <| At.blk_n ?_
   refine At.joinE (L' := [(1, (.int .i64 a1)), (2, (ptr B3 0))]) hl166 (.cons rfl (.cons rfl (.nil))) ⟨rfl, rfl, hd⟩
  replace hd := brF hb171 hd
  replace hb171 := of_decide_eq_false hb171
  refine Wp.sr <| Seg.op (OpT.move rfl) rfl <| Seg.op (OpT.neq rfl rfl) rfl <| Seg.nilT ?_
  refine Wp.cond (b := decide ((a0.subs.length:Int) ≠ 0)) rfl (fun hb173 => ?_) (fun hb173 => ?_)
  ·
   replace hd := brT hb173 hd
   replace hb173 := of_decide_eq_true hb173
   refine Wp.sr <| Seg.op (OpT.assign rfl) rfl <| Seg.nilT <| Wp.ret <| At.blk_r <| At.then_r ?_
   obtain rfl := Option.some.inj hd
   exact At.res1 rfl (RV.tmp (v := (.int .i64 2)) rfl) (fun w hs => ⟨rfl, (hs.dropN 1).weaken hl166⟩)
  replace hd := brF hb173 hd
  replace hb173 := of_decide_eq_false hb173
  refine Wp.skip <| At.blk_n ?_
  refine At.joinE (L' := [(1, (.int .i64 a1)), (2, (ptr B3 0))]) hl166 (.cons rfl (.cons rfl (.nil))) ⟨rfl, rfl, hd⟩
 intro L108 H106 O109 hl107 hI105
 obtain ⟨rfl, rfl, hd⟩ := hI105
 unfold rx_check_j6 at hd
 refine Wp.seq <| Wp.sr <| Seg.op (OpT.fld (o' := 5) fl46_2 rfl rfl) rfl <| Seg.op (OpT.ldBlk (i := 0) (v := v1) Tryd.underlying44 rfl rfl rfl rfl) rfl ?_
 have hb110 := hv2.le
 refine Seg.op (OpT.len Tryd.underlying44 rfl (hv2.mono hl107).sl) rfl <| Seg.op (OpT.move rfl) rfl <| Seg.nilT <| Wp.block <| Wp.sub (L' := [(1, (.int .i64 a1)), (47, v1), (48, (.int .i64 (a0.subs.length:Int))), (49, (.int .i64 ((0 : Nat) : Int)))]) (.cons rfl (.cons rfl (.cons rfl (.cons (lk_int rfl (by omega)) (.nil))))) <| Wp.loopE (fun m LL HH OO => ∃ (k140 : Nat), [(1, (.int .i64 a1)), (47, v1), (48, (.int .i64 (a0.subs.length:Int))), (49, (.int .i64 (k140:Int)))] = LL ∧ .blk B3 (.cells #[(.int .i64 a0.kind), (w64 (word a0.set 0)), (w64 (word a0.set 1)), (w64 (word a0.set 2)), (w64 (word a0.set 3)), v1] 46 (0, 0)) :: O = OO ∧ loopK m (rx_check_b7 fu a0 a1 slf) k140 = some r) fu ⟨0, rfl, rfl, hd⟩ ?_
 intro m142 L146 H144 O147 hl145 hI141
 obtain ⟨k140, rfl, rfl, hd⟩ := hI141
 replace hd := loopK_some hd; obtain ⟨m143, rfl, hd⟩ := hd
 obtain ⟨nx139, hn148⟩ : ∃ f, f = loopK m143 (rx_check_b7 fu a0 a1 slf) := ⟨_, rfl⟩
 rw [← hn148] at hd
 replace hd : rx_check_b7 fu a0 a1 slf k140 nx139 = some r := hd
 unfold rx_check_b7 at hd
 refine Wp.sr <| Seg.op (OpT.lss rfl rfl) rfl <| Seg.nilT <| Wp.seq ?_
 refine Wp.cond (b := decide ((k140:Int) < (a0.subs.length:Int))) rfl (fun hb149 => ?_) (fun hb149 => ?_)
 ·
  replace hd := brT hb149 hd
  replace hb149 := of_decide_eq_true hb149
  refine Wp.skip <| At.then_n <| Wp.seq <| Wp.block <| Wp.seq ?_
  obtain ⟨x150, hx151, hd⟩ := bnd_some hd
  have hx151_ := idx_bd hx151
  refine Wp.region ?_
  obtain ⟨_, hz155, hc152⟩ := SlD.get (hv2.mono (hl107.trans hl145)) hx151
  obtain ⟨v153, rfl, hv154⟩ := layRx.1 hz155
  refine Seg.op (OpT.ixSl Tryd.underlying44 ti46 rfl (hv2.mono (hl107.trans hl145)).sl rfl (idx_bd hx151)) rfl <| Seg.op (OpT.ldHA (vs := [(.int .i64 x150.kind), (w64 (word x150.set 0)), (w64 (word x150.set 1)), (w64 (word x150.set 2)), (w64 (word x150.set 3)), v153]) Tryd.underlying46 rfl ti46 rfl rfl (fun j u hj => (hc152 j u hj))) rfl <| Seg.alloc (cs := #[(.int .i64 0), (w64 (word (fun _ => false) 0)), (w64 (word (fun _ => false) 1)), (w64 (word (fun _ => false) 2)), (w64 (word (fun _ => false) 3)), (.slice none 0 0)]) ti46 (by simp only [zw]; rfl) rfl fun B156 => Seg.stBlkW (i := 0) (cs' := #[(.int .i64 x150.kind), (w64 (word x150.set 0)), (w64 (word x150.set 1)), (w64 (word x150.set 2)), (w64 (word x150.set 3)), v153]) rfl rfl ti46 rfl rfl (onesA (ones_cons rfl (ones_cons rfl (ones_cons rfl (ones_cons rfl (ones_cons rfl (ones_cons hv154.one (ones_nil)))))))) rfl ?_
  refine Seg.own (O := .blk B156 (.cells #[(.int .i64 x150.kind), (w64 (word x150.set 0)), (w64 (word x150.set 1)), (w64 (word x150.set 2)), (w64 (word x150.set 3)), v153] 46 (0, 0)) :: .blk B3 (.cells #[(.int .i64 a0.kind), (w64 (word a0.set 0)), (w64 (word a0.set 1)), (w64 (word a0.set 2)), (w64 (word a0.set 3)), v1] 46 (0, 0)) :: O) ?_ rfl
  refine Seg.nilT <| Wp.seq ?_
  replace hd := chk_some hd; obtain ⟨ha158, hd⟩ := hd
  obtain ⟨x159, hx160, hd⟩ := bnd_some hd
  refine Wp.region <| Seg.op (OpT.ldBlkW (i := 0) Tryd.underlying46 rfl ti46 rfl rfl rfl) rfl <| Seg.op (OpT.move rfl) rfl <| Seg.op (OpT.add rfl rfl (fits64 ha158)) rfl <| Seg.op (OpT.call ent37 rfl (ih hv154 hx160)) rfl <| Seg.op (OpT.assign rfl) rfl <| Seg.nilT <| Wp.sr ?_
  refine Seg.op (OpT.move rfl) rfl <| Seg.op (OpT.neq rfl rfl) rfl <| Seg.nilT ?_
  refine Wp.cond (b := decide (x159 ≠ 0)) rfl (fun hb161 => ?_) (fun hb161 => ?_)
  ·
   replace hd := brT hb161 hd
   replace hb161 := of_decide_eq_true hb161
   refine Wp.sr <| Seg.op (OpT.move rfl) rfl <| Seg.op (OpT.assign rfl) rfl <| Seg.nilT <| Wp.ret <| At.blk_r <| At.then_r <| At.then_r ?_
   refine At.blk_r <| At.then_r ?_
   obtain rfl := Option.some.inj hd
   exact At.res1 rfl (RV.tmp (v := (.int .i64 x159)) rfl) (fun w hs => ⟨rfl, (hs.dropN 2).weaken (hl107.trans hl145)⟩)
  replace hd := brF hb161 hd
  replace hb161 := of_decide_eq_false hb161
  refine Wp.skip <| At.blk_n <| At.then_n <| Wp.region <| Seg.op (OpT.add rfl rfl (fits64 (by omega))) rfl <| Seg.op (OpT.move rfl) rfl <| Seg.nil <| At.permK [1] 2 rfl rfl rfl ?_
  refine At.nextE (L' := [(1, (.int .i64 a1)), (47, v1), (48, (.int .i64 (a0.subs.length:Int))), (49, (.int .i64 ((k140 + 1 : Nat) : Int)))]) m143 (Nat.lt_succ_self _) (Hp.le.refl _) (.cons rfl (.cons rfl (.cons rfl (.cons (lk_int rfl (by omega)) (.nil))))) ⟨(k140 + 1), rfl, rfl, (by rw [← hn148]; exact hd)⟩
 replace hd := brF hb149 hd
 replace hb149 := of_decide_eq_false hb149
 refine Wp.exit <| At.then_x <| At.then_x <| At.blk_hit <| At.then_n <| Wp.sr <| Seg.op (OpT.assign rfl) rfl <| Seg.nilT ?_
 refine Wp.ret ?_
 obtain rfl := Option.some.inj hd
 exact At.res1 rfl (RV.tmp (v := (.int .i64 0)) rfl) (fun w hs => ⟨rfl, (hs.dropN 1).weaken (hl107.trans hl145)⟩)

set_option maxRecDepth 100000 in
set_option maxHeartbeats 4000000 in
theorem rx_Check_w {fu : Nat} {a0 : Rx} {v1 : Value} {r : Int} (hv2 : SlD cRx H a0.subs v1) (hd : rx_Check fu a0 = some r) :
    TriV Tryd.prog 28 [(.agg #[(.int .i64 a0.kind), (w64 (word a0.set 0)), (w64 (word a0.set 1)), (w64 (word a0.set 2)), (w64 (word a0.set 3)), v1])] H O (.int .i64 r) := by
 intro w hs
 refine wp_of Tryd.func28 rfl rfl rfl ?_ hs
 clear hs w
 unfold rx_Check at hd
 refine Wp.sr <| Seg.box (cs := #[(.int .i64 a0.kind), (w64 (word a0.set 0)), (w64 (word a0.set 1)), (w64 (word a0.set 2)), (w64 (word a0.set 3)), v1]) rfl rfl rfl fun B3 => Seg.op (OpT.assign rfl) rfl <| Seg.nilT <| Wp.seq ?_
 obtain ⟨x4, hx5, hd⟩ := bnd_some hd
 refine Wp.region <| Seg.op (OpT.ldBlkW (i := 0) Tryd.underlying46 rfl ti46 rfl rfl rfl) rfl <| Seg.op (OpT.call ent37 rfl (rx_check_w hv2 hx5)) rfl <| Seg.op (OpT.assign rfl) rfl <| Seg.nilT <| Wp.ret ?_
 obtain rfl := Option.some.inj hd
 exact At.res1 rfl (RV.tmp (v := (.int .i64 x4)) rfl) (fun w hs => ⟨rfl, (hs.dropN 1).weaken (Hp.le.refl _)⟩)

set_option maxRecDepth 100000 in
set_option maxHeartbeats 4000000 in
theorem au_net_add_w {fu : Nat} : ∀ {H : Hp} {O : List Res} {a0 : (List (List Int)) × (List (List (BSet × Int × Int))) × Int} {a1 : Rx} {a2 : Int} {a3 : Int} {u1 u2 : Value} {F0 : Fam Int} {G0 : Fam (BSet × Int × Int)} {B0 : Nat} {v1 : Value} {r : (List (List Int)) × (List (List (BSet × Int × Int))) × Int} (hNF : FamOk cI64 H a0.1 F0) (hNG : FamOk cAr H a0.2.1 G0) (hv2 : SlD cRx H a1.subs v1) (hd : au_net_add fu a0 a1 a2 a3 = some r),
    Tri Tryd.prog 30 [(ptr B0 0), (.agg #[(.int .i64 a1.kind), (w64 (word a1.set 0)), (w64 (word a1.set 1)), (w64 (word a1.set 2)), (w64 (word a1.set 3)), v1]), (.int .i64 a2), (.int .i64 a3)] H (.blk B0 (.cells #[u1, u2, (.int .i64 a0.2.2)] 62 (0, 0)) :: .row u1 67 1 (famV F0).length (famV F0) :: .row u2 79 1 (famV G0).length (famV G0) :: (famR 3 1 F0 ++ (famR 81 6 G0 ++ O))) (fun v H' O' => ∃ v1 v2 F G, .tuple #[] = v ∧ FamOk cI64 H' r.1 F ∧ FamOk cAr H' r.2.1 G ∧ net B0 v1 v2 r.2.2 F G O = O') := by
 induction fu with
 | zero => intros; rename_i hd; exact absurd hd (by simp [au_net_add])
 | succ fu ih =>
 intro H O a0 a1 a2 a3 u1 u2 F0 G0 B0 v1 r hNF hNG hv2 hd
 replace hd : au_net_add_b0 fu (au_net_add fu) a0 a1 a2 a3 = some r := hd
 generalize au_net_add fu = slf at hd ih
 intro w hs
 refine wp_of Tryd.func30 rfl rfl rfl ?_ hs
 clear hs w
 unfold au_net_add_b0 at hd
 refine Wp.sr <| Seg.box (cs := #[(.int .i64 a1.kind), (w64 (word a1.set 0)), (w64 (word a1.set 1)), (w64 (word a1.set 2)), (w64 (word a1.set 3)), v1]) rfl rfl rfl fun B3 => Seg.nilT <| Wp.sr <| Seg.op (OpT.fld (o' := 0) fl46_0 rfl rfl) rfl <| Seg.op (OpT.ldBlk (i := 0) (v := (.int .i64 a1.kind)) Tryd.underlying3 rfl rfl rfl rfl) rfl <| Seg.nilT <| Wp.block ?_
 refine Wp.sr <| Seg.op (OpT.eql rfl rfl) rfl <| Seg.op (OpT.assign rfl) rfl <| Seg.nilT ?_
 refine Wp.cond (b := decide (a1.kind = 1)) rfl (fun hb4 => ?_) (fun hb4 => ?_)
 ·
  replace hd := brT hb4 hd
  replace hb4 := of_decide_eq_true hb4
  obtain ⟨x6, hx7, hd⟩ := bnd_some hd
  obtain ⟨v8, xs9, hf10, hL11, hi12⟩ := FamOk.get hNF hx7
  refine Wp.lend [.blk B3 (.cells #[(.int .i64 a1.kind), (w64 (word a1.set 0)), (w64 (word a1.set 1)), (w64 (word a1.set 2)), (w64 (word a1.set 3)), v1] 46 (0, 0)), .blk B0 (.cells #[u1, u2, (.int .i64 a0.2.2)] 62 (0, 0)), .row u1 67 1 (famV F0).length (famV F0), .row u2 79 1 (famV G0).length (famV G0)] hf10 ?_
  replace hd := chk_some hd; obtain ⟨ha26, hd⟩ := hd
  obtain ⟨_, ⟨rfl, _⟩, hc25, hc25_⟩ := LayL.get (FamOk.row hNF) (idx_some hi12).2
  obtain ⟨_, ⟨rfl, _⟩, hc27, hc27_⟩ := LayL.get (FamOk.row hNF) (idx_some hi12).2
  refine Wp.emp <| SegO.runK 6 [an0, an0, an0, ⟨[3], [], []⟩, an0, an0, an0, an0, ⟨[3], [], []⟩, an0, ⟨[4], [], []⟩, ⟨[4], [], []⟩, an0, ⟨[0], [0], [13]⟩, ⟨[0, 1], [1], [14]⟩, ⟨[4], [], []⟩, ⟨[4], [4], [14]⟩] follows rfl (by kernel_rfl) <| SegO.op (val := fun p24 => (ptr B0 0)) rfl rfl (fun _ => rfl) (fun _ p24 _ hx hf hy => OpT.move rfl) rfl <| SegO.op (val := fun p24 => (ptr B0 0)) rfl rfl (fun _ => rfl) (fun _ p24 _ hx hf hy => OpT.nilCheck rfl) rfl <| SegO.op (val := fun p24 => (ptr B0 0)) rfl rfl (fun _ => rfl) (fun _ p24 _ hx hf hy => OpT.fld (o' := 0) fl62_0 rfl rfl) rfl <| SegO.op (val := fun p24 => u1) rfl rfl (fun _ => rfl) (fun _ p24 _ hx hf hy => OpT.ldBlk (i := 3) (v := u1) Tryd.underlying59 rfl rfl (hy 3 _ rfl rfl) rfl) rfl <| SegO.op (val := fun p24 => (.int .i64 a2)) rfl rfl (fun _ => rfl) (fun _ p24 _ hx hf hy => OpT.move rfl) rfl <| SegO.op (val := fun p24 => (ptr B0 0)) rfl rfl (fun _ => rfl) (fun _ p24 _ hx hf hy => OpT.move rfl) rfl ?_
  refine SegO.op (val := fun p24 => (ptr B0 0)) rfl rfl (fun _ => rfl) (fun _ p24 _ hx hf hy => OpT.nilCheck rfl) rfl <| SegO.op (val := fun p24 => (ptr B0 0)) rfl rfl (fun _ => rfl) (fun _ p24 _ hx hf hy => OpT.fld (o' := 0) fl62_0 rfl rfl) rfl <| SegO.op (val := fun p24 => u1) rfl rfl (fun _ => rfl) (fun _ p24 _ hx hf hy => OpT.ldBlk (i := 3) (v := u1) Tryd.underlying59 rfl rfl (hy 3 _ rfl rfl) rfl) rfl <| SegO.op (val := fun p24 => (.int .i64 a2)) rfl rfl (fun _ => rfl) (fun _ p24 _ hx hf hy => OpT.move rfl) rfl <| SegO.op (val := fun p24 => (elemPtr u1 ((Int.toNat a2) * 1))) rfl rfl (fun _ => rfl) (fun _ p24 _ hx hf hy => OpT.ixRow (j := 4) Tryd.underlying59 ti67 rfl (hy 4 _ rfl rfl) rfl (idx_bd hi12)) rfl <| SegO.op (val := fun p24 => v8) rfl rfl (fun _ => rfl) (fun _ p24 _ hx hf hy => OpT.ldRow (i := 4) (k := (Int.toNat a2) * 1 + 0) Tryd.underlying67 rfl rfl (hy 4 _ rfl rfl) (hc25 0 _ rfl)) rfl <| SegO.op (val := fun p24 => (.int .i64 a3)) rfl rfl (fun _ => rfl) (fun _ p24 _ hx hf hy => OpT.move rfl) rfl <| SegO.op1s (res := fun p24 => .row (p24 13) 3 1 1 [(.int .i64 a3)]) 0 rfl rfl rfl (fun _ => rfl) (fun _ p24 _ hx hf hy => OpS.buildR1 (v := (.int .i64 a3)) (cs := [(.int .i64 a3)]) 0 Tryd.underlying67 ti3 rfl rfl rfl rfl rfl (hy 0 _ rfl rfl)) rfl (fun _ => ⟨_, _, _, _, rfl⟩) ?_
  refine SegO.op1s (res := fun p24 => .row (p24 14) 3 1 (x6.length + 1) (xs9 ++ [(.int .i64 a3)])) 1 rfl rfl rfl (fun _ => rfl) (fun _ p24 _ hx hf hy => OpS.appR 1 0 Tryd.underlying67 ti3 rfl rfl rfl rfl (hy 1 _ rfl rfl) (hy 0 _ rfl rfl) (ones_cons rfl (ones_nil)) rfl ha26) rfl (fun _ => ⟨_, _, _, _, rfl⟩) <| SegO.op (val := fun p24 => (elemPtr u1 ((Int.toNat a2) * 1))) rfl rfl (fun _ => rfl) (fun _ p24 _ hx hf hy => OpT.ixRow (j := 4) Tryd.underlying59 ti67 rfl (hy 4 _ rfl rfl) rfl (idx_bd hi12)) rfl <| SegO.op1n (res := fun p24 => .row u1 67 1 (famV F0).length (spl (famV F0) ((Int.toNat a2) * 1 + 0) [(p24 14)])) 4 rfl rfl rfl (fun _ => rfl) (fun _ p24 _ hx hf hy => OpS.stRowR (k := (Int.toNat a2) * 1 + 0) (vs := [(p24 14)]) rfl rfl (cellsL (hf 14 rfl rfl)) ti67 rfl rfl (ones_cons (hf 14 rfl rfl) (ones_nil)) (hy 4 _ rfl rfl) (by have h1 : _ = _ * 1 := (FamOk.row hNF).len; have h2 := idx_bd hi12; simp only [List.length_cons, List.length_nil]; omega)) <| SegO.done fun H28 p24 hl29 hF30 => At.sub (L' := []) (.nil) ?_
  refine At.own (O := .row (p24 13) 3 1 ([a3] : List Int).length [(.int .i64 a3)] :: .row (p24 14) 3 1 (x6 ++ ([a3] : List Int)).length (xs9 ++ [(.int .i64 a3)]) :: .blk B3 (.cells #[(.int .i64 a1.kind), (w64 (word a1.set 0)), (w64 (word a1.set 1)), (w64 (word a1.set 2)), (w64 (word a1.set 3)), v1] 46 (0, 0)) :: .blk B0 (.cells #[u1, u2, (.int .i64 a0.2.2)] 62 (0, 0)) :: .row u1 67 1 ((famV F0).set (Int.toNat a2) (p24 14)).length (spl (famV F0) ((Int.toNat a2) * 1 + 0) [(p24 14)]) :: .row u2 79 1 (famV G0).length (famV G0) :: (famR 3 1 (List.eraseIdx F0 (Int.toNat a2)) ++ (famR 81 6 G0 ++ O))) ?_ (by first | rfl | (simp only [List.length_append, List.length_set]; rfl) | simp)
  have hq32 : LayL cI64 H28 (x6 ++ ([a3] : List Int)) (xs9 ++ [(.int .i64 a3)]) := (LayL.app (hL11.mono hl29) (LayL.sing (c := cI64) (a := a3) (cs := [(.int .i64 a3)]) rfl))
  refine At.rowOne (i := 1) rfl fun ho33 => ?_
  refine At.own (O := .row (p24 13) 3 1 ([a3] : List Int).length [(.int .i64 a3)] :: .row (p24 14) 3 1 (x6 ++ ([a3] : List Int)).length (xs9 ++ [(.int .i64 a3)]) :: .blk B3 (.cells #[(.int .i64 a1.kind), (w64 (word a1.set 0)), (w64 (word a1.set 1)), (w64 (word a1.set 2)), (w64 (word a1.set 3)), v1] 46 (0, 0)) :: .blk B0 (.cells #[u1, u2, (.int .i64 a0.2.2)] 62 (0, 0)) :: .row u1 67 1 (famV (List.set F0 (Int.toNat a2) ((p24 14), x6 ++ ([a3] : List Int), xs9 ++ [(.int .i64 a3)]))).length (famV (List.set F0 (Int.toNat a2) ((p24 14), x6 ++ ([a3] : List Int), xs9 ++ [(.int .i64 a3)]))) :: .row u2 79 1 (famV G0).length (famV G0) :: (famR 3 1 (List.eraseIdx F0 (Int.toNat a2)) ++ (famR 81 6 G0 ++ O))) ?_ (by rw [show spl (famV F0) ((Int.toNat a2) * 1 + 0) [(p24 14)] = famV (List.set F0 (Int.toNat a2) ((p24 14), x6 ++ ([a3] : List Int), xs9 ++ [(.int .i64 a3)])) from famSpl _ _ _ hf10, show (famV F0).set (Int.toNat a2) (p24 14) = famV (List.set F0 (Int.toNat a2) ((p24 14), x6 ++ ([a3] : List Int), xs9 ++ [(.int .i64 a3)])) from famSet _ _ _])
  refine At.permK [1, 2, 3, 4, 5] 6 rfl rfl rfl <| At.unlend [.blk B3 (.cells #[(.int .i64 a1.kind), (w64 (word a1.set 0)), (w64 (word a1.set 1)), (w64 (word a1.set 2)), (w64 (word a1.set 3)), v1] 46 (0, 0)), .blk B0 (.cells #[u1, u2, (.int .i64 a0.2.2)] 62 (0, 0)), .row u1 67 1 (famV (List.set F0 (Int.toNat a2) ((p24 14), x6 ++ ([a3] : List Int), xs9 ++ [(.int .i64 a3)]))).length (famV (List.set F0 (Int.toNat a2) ((p24 14), x6 ++ ([a3] : List Int), xs9 ++ [(.int .i64 a3)]))), .row u2 79 1 (famV G0).length (famV G0)] ((p24 14), x6 ++ ([a3] : List Int), xs9 ++ [(.int .i64 a3)]) hf10 ?_
  have hN34 : FamOk cI64 H28 (List.set a0.1 (Int.toNat a2) (x6 ++ ([a3] : List Int))) (List.set F0 (Int.toNat a2) ((p24 14), x6 ++ ([a3] : List Int), xs9 ++ [(.int .i64 a3)])) := FamOk.set (hNF.mono hl29) hq32 ho33
  refine At.blk_n ?_
  obtain rfl := Option.some.inj hd
  exact At.res0n rfl (fun w hs => ⟨_, _, _, rfl, hl29, (hs.dropN 1), u1, u2, (List.set F0 (Int.toNat a2) ((p24 14), x6 ++ ([a3] : List Int), xs9 ++ [(.int .i64 a3)])), G0, rfl, hN34, (hNG.mono hl29), rfl⟩)
 replace hd := brF hb4 hd
 replace hb4 := of_decide_eq_false hb4
 refine Wp.sr <| Seg.op (OpT.eql rfl rfl) rfl <| Seg.op (OpT.assign rfl) rfl <| Seg.nilT ?_
 refine Wp.cond (b := decide (a1.kind = 2)) rfl (fun hb35 => ?_) (fun hb35 => ?_)
 ·
  replace hd := brT hb35 hd
  replace hb35 := of_decide_eq_true hb35
  refine Wp.seq ?_
  obtain ⟨x37, hx38, hd⟩ := bnd_some hd
  obtain ⟨v39, xs40, hf41, hL42, hi43⟩ := FamOk.get hNG hx38
  refine Wp.lend2 [.blk B3 (.cells #[(.int .i64 a1.kind), (w64 (word a1.set 0)), (w64 (word a1.set 1)), (w64 (word a1.set 2)), (w64 (word a1.set 3)), v1] 46 (0, 0)), .blk B0 (.cells #[u1, u2, (.int .i64 a0.2.2)] 62 (0, 0)), .row u1 67 1 (famV F0).length (famV F0), .row u2 79 1 (famV G0).length (famV G0)] hf41 ?_
  replace hd := chk_some hd; obtain ⟨ha57, hd⟩ := hd
  obtain ⟨_, ⟨rfl, _⟩, hc56, hc56_⟩ := LayL.get (FamOk.row hNG) (idx_some hi43).2
  obtain ⟨_, ⟨rfl, _⟩, hc58, hc58_⟩ := LayL.get (FamOk.row hNG) (idx_some hi43).2
  refine Wp.emp <| SegO.runK 6 [an0, an0, an0, ⟨[3], [], []⟩, an0, an0, an0, an0, ⟨[3], [], []⟩, an0, ⟨[5], [], []⟩, ⟨[5], [], []⟩, an0, ⟨[2], [], []⟩, an0, an0, an0, an0, ⟨[3], [], []⟩, an0, ⟨[0], [0], [20]⟩, ⟨[0, 1], [1], [21]⟩, ⟨[5], [], []⟩, ⟨[5], [5], [21]⟩] follows rfl (by kernel_rfl) <| SegO.op (val := fun p55 => (ptr B0 0)) rfl rfl (fun _ => rfl) (fun _ p55 _ hx hf hy => OpT.move rfl) rfl <| SegO.op (val := fun p55 => (ptr B0 0)) rfl rfl (fun _ => rfl) (fun _ p55 _ hx hf hy => OpT.nilCheck rfl) rfl <| SegO.op (val := fun p55 => (ptr B0 1)) rfl rfl (fun _ => rfl) (fun _ p55 _ hx hf hy => OpT.fld (o' := 1) fl62_1 rfl rfl) rfl <| SegO.op (val := fun p55 => u2) rfl rfl (fun _ => rfl) (fun _ p55 _ hx hf hy => OpT.ldBlk (i := 3) (v := u2) Tryd.underlying60 rfl rfl (hy 3 _ rfl rfl) rfl) rfl <| SegO.op (val := fun p55 => (.int .i64 a2)) rfl rfl (fun _ => rfl) (fun _ p55 _ hx hf hy => OpT.move rfl) rfl <| SegO.op (val := fun p55 => (ptr B0 0)) rfl rfl (fun _ => rfl) (fun _ p55 _ hx hf hy => OpT.move rfl) rfl ?_
  refine SegO.op (val := fun p55 => (ptr B0 0)) rfl rfl (fun _ => rfl) (fun _ p55 _ hx hf hy => OpT.nilCheck rfl) rfl <| SegO.op (val := fun p55 => (ptr B0 1)) rfl rfl (fun _ => rfl) (fun _ p55 _ hx hf hy => OpT.fld (o' := 1) fl62_1 rfl rfl) rfl <| SegO.op (val := fun p55 => u2) rfl rfl (fun _ => rfl) (fun _ p55 _ hx hf hy => OpT.ldBlk (i := 3) (v := u2) Tryd.underlying60 rfl rfl (hy 3 _ rfl rfl) rfl) rfl <| SegO.op (val := fun p55 => (.int .i64 a2)) rfl rfl (fun _ => rfl) (fun _ p55 _ hx hf hy => OpT.move rfl) rfl <| SegO.op (val := fun p55 => (elemPtr u2 ((Int.toNat a2) * 1))) rfl rfl (fun _ => rfl) (fun _ p55 _ hx hf hy => OpT.ixRow (j := 5) Tryd.underlying60 ti79 rfl (hy 5 _ rfl rfl) rfl (idx_bd hi43)) rfl <| SegO.op (val := fun p55 => v39) rfl rfl (fun _ => rfl) (fun _ p55 _ hx hf hy => OpT.ldRow (i := 5) (k := (Int.toNat a2) * 1 + 0) Tryd.underlying79 rfl rfl (hy 5 _ rfl rfl) (hc56 0 _ rfl)) rfl <| SegO.op (val := fun p55 => (ptr B3 1)) rfl rfl (fun _ => rfl) (fun _ p55 _ hx hf hy => OpT.fld (o' := 1) fl46_1 rfl rfl) rfl <| SegO.op (val := fun p55 => (.agg #[(w64 (word a1.set 0)), (w64 (word a1.set 1)), (w64 (word a1.set 2)), (w64 (word a1.set 3))])) rfl rfl (fun _ => rfl) (fun _ p55 _ hx hf hy => OpT.ldBlkX (i := 2) (vs := [(w64 (word a1.set 0)), (w64 (word a1.set 1)), (w64 (word a1.set 2)), (w64 (word a1.set 3))]) Tryd.underlying43 rfl ti43 rfl (hy 2 _ rfl rfl) rfl) rfl ?_
  refine SegO.op (val := fun p55 => (.int .i64 a3)) rfl rfl (fun _ => rfl) (fun _ p55 _ hx hf hy => OpT.move rfl) rfl <| SegO.op (val := fun p55 => (ptr B0 0)) rfl rfl (fun _ => rfl) (fun _ p55 _ hx hf hy => OpT.move rfl) rfl <| SegO.op (val := fun p55 => (ptr B0 0)) rfl rfl (fun _ => rfl) (fun _ p55 _ hx hf hy => OpT.nilCheck rfl) rfl <| SegO.op (val := fun p55 => (ptr B0 2)) rfl rfl (fun _ => rfl) (fun _ p55 _ hx hf hy => OpT.fld (o' := 2) fl62_2 rfl rfl) rfl <| SegO.op (val := fun p55 => (.int .i64 a0.2.2)) rfl rfl (fun _ => rfl) (fun _ p55 _ hx hf hy => OpT.ldBlk (i := 3) (v := (.int .i64 a0.2.2)) Tryd.underlying3 rfl rfl (hy 3 _ rfl rfl) rfl) rfl <| SegO.op (val := fun p55 => (.agg #[(w64 (word a1.set 0)), (w64 (word a1.set 1)), (w64 (word a1.set 2)), (w64 (word a1.set 3)), (.int .i64 a3), (.int .i64 a0.2.2)])) rfl rfl (fun _ => rfl) (fun _ p55 _ hx hf hy => OpT.buildS (vs := [(0, (.agg #[(w64 (word a1.set 0)), (w64 (word a1.set 1)), (w64 (word a1.set 2)), (w64 (word a1.set 3))])), (1, (.int .i64 a3)), (2, (.int .i64 a0.2.2))]) (cs := #[(w64 (word a1.set 0)), (w64 (word a1.set 1)), (w64 (word a1.set 2)), (w64 (word a1.set 3)), (.int .i64 a3), (.int .i64 a0.2.2)]) plf81 ti81 rfl rfl (vc_cons rfl (vc_cons rfl (vc_cons rfl (vc_nil)))) rfl) rfl <| SegO.op1s (res := fun p55 => .row (p55 20) 81 6 1 [(w64 (word a1.set 0)), (w64 (word a1.set 1)), (w64 (word a1.set 2)), (w64 (word a1.set 3)), (.int .i64 a3), (.int .i64 a0.2.2)]) 0 rfl rfl rfl (fun _ => rfl) (fun _ p55 _ hx hf hy => OpS.buildR1 (v := (.agg #[(w64 (word a1.set 0)), (w64 (word a1.set 1)), (w64 (word a1.set 2)), (w64 (word a1.set 3)), (.int .i64 a3), (.int .i64 a0.2.2)])) (cs := [(w64 (word a1.set 0)), (w64 (word a1.set 1)), (w64 (word a1.set 2)), (w64 (word a1.set 3)), (.int .i64 a3), (.int .i64 a0.2.2)]) 0 Tryd.underlying79 ti81 rfl rfl rfl rfl rfl (hy 0 _ rfl rfl)) rfl (fun _ => ⟨_, _, _, _, rfl⟩) <| SegO.op1s (res := fun p55 => .row (p55 21) 81 6 (x37.length + 1) (xs40 ++ [(w64 (word a1.set 0)), (w64 (word a1.set 1)), (w64 (word a1.set 2)), (w64 (word a1.set 3)), (.int .i64 a3), (.int .i64 a0.2.2)])) 1 rfl rfl rfl (fun _ => rfl) (fun _ p55 _ hx hf hy => OpS.appR 1 0 Tryd.underlying79 ti81 rfl rfl rfl rfl (hy 1 _ rfl rfl) (hy 0 _ rfl rfl) (ones_cons rfl (ones_cons rfl (ones_cons rfl (ones_cons rfl (ones_cons rfl (ones_cons rfl (ones_nil))))))) rfl ha57) rfl (fun _ => ⟨_, _, _, _, rfl⟩) ?_
  refine SegO.op (val := fun p55 => (elemPtr u2 ((Int.toNat a2) * 1))) rfl rfl (fun _ => rfl) (fun _ p55 _ hx hf hy => OpT.ixRow (j := 5) Tryd.underlying60 ti79 rfl (hy 5 _ rfl rfl) rfl (idx_bd hi43)) rfl <| SegO.op1n (res := fun p55 => .row u2 79 1 (famV G0).length (spl (famV G0) ((Int.toNat a2) * 1 + 0) [(p55 21)])) 5 rfl rfl rfl (fun _ => rfl) (fun _ p55 _ hx hf hy => OpS.stRowR (k := (Int.toNat a2) * 1 + 0) (vs := [(p55 21)]) rfl rfl (cellsL (hf 21 rfl rfl)) ti79 rfl rfl (ones_cons (hf 21 rfl rfl) (ones_nil)) (hy 5 _ rfl rfl) (by have h1 : _ = _ * 1 := (FamOk.row hNG).len; have h2 := idx_bd hi43; simp only [List.length_cons, List.length_nil]; omega)) <| SegO.done fun H59 p55 hl60 hF61 => At.sub (L' := [(0, (ptr B0 0))]) (.cons rfl (.nil)) ?_
  refine At.own (O := .row (p55 20) 81 6 ([(a1.set, a3, a0.2.2)] : List (BSet × Int × Int)).length [(w64 (word a1.set 0)), (w64 (word a1.set 1)), (w64 (word a1.set 2)), (w64 (word a1.set 3)), (.int .i64 a3), (.int .i64 a0.2.2)] :: .row (p55 21) 81 6 (x37 ++ ([(a1.set, a3, a0.2.2)] : List (BSet × Int × Int))).length (xs40 ++ [(w64 (word a1.set 0)), (w64 (word a1.set 1)), (w64 (word a1.set 2)), (w64 (word a1.set 3)), (.int .i64 a3), (.int .i64 a0.2.2)]) :: .blk B3 (.cells #[(.int .i64 a1.kind), (w64 (word a1.set 0)), (w64 (word a1.set 1)), (w64 (word a1.set 2)), (w64 (word a1.set 3)), v1] 46 (0, 0)) :: .blk B0 (.cells #[u1, u2, (.int .i64 a0.2.2)] 62 (0, 0)) :: .row u1 67 1 (famV F0).length (famV F0) :: .row u2 79 1 ((famV G0).set (Int.toNat a2) (p55 21)).length (spl (famV G0) ((Int.toNat a2) * 1 + 0) [(p55 21)]) :: (famR 3 1 F0 ++ (famR 81 6 (List.eraseIdx G0 (Int.toNat a2)) ++ O))) ?_ (by first | rfl | (simp only [List.length_append, List.length_set]; rfl) | simp)
  have hq63 : LayL (cP cBs (cP cI64 cI64)) H59 (x37 ++ ([(a1.set, a3, a0.2.2)] : List (BSet × Int × Int))) (xs40 ++ [(w64 (word a1.set 0)), (w64 (word a1.set 1)), (w64 (word a1.set 2)), (w64 (word a1.set 3)), (.int .i64 a3), (.int .i64 a0.2.2)]) := (LayL.app (hL42.mono hl60) (LayL.sing (c := (cP cBs (cP cI64 cI64))) (a := (a1.set, a3, a0.2.2)) (cs := [(w64 (word a1.set 0)), (w64 (word a1.set 1)), (w64 (word a1.set 2)), (w64 (word a1.set 3)), (.int .i64 a3), (.int .i64 a0.2.2)]) (⟨[(w64 (word a1.set 0)), (w64 (word a1.set 1)), (w64 (word a1.set 2)), (w64 (word a1.set 3))], [(.int .i64 a3), (.int .i64 a0.2.2)], rfl, rfl, ⟨[(.int .i64 a3)], [(.int .i64 a0.2.2)], rfl, rfl, rfl⟩⟩)))
  refine At.rowOne (i := 1) rfl fun ho64 => ?_
  refine At.own (O := .row (p55 20) 81 6 ([(a1.set, a3, a0.2.2)] : List (BSet × Int × Int)).length [(w64 (word a1.set 0)), (w64 (word a1.set 1)), (w64 (word a1.set 2)), (w64 (word a1.set 3)), (.int .i64 a3), (.int .i64 a0.2.2)] :: .row (p55 21) 81 6 (x37 ++ ([(a1.set, a3, a0.2.2)] : List (BSet × Int × Int))).length (xs40 ++ [(w64 (word a1.set 0)), (w64 (word a1.set 1)), (w64 (word a1.set 2)), (w64 (word a1.set 3)), (.int .i64 a3), (.int .i64 a0.2.2)]) :: .blk B3 (.cells #[(.int .i64 a1.kind), (w64 (word a1.set 0)), (w64 (word a1.set 1)), (w64 (word a1.set 2)), (w64 (word a1.set 3)), v1] 46 (0, 0)) :: .blk B0 (.cells #[u1, u2, (.int .i64 a0.2.2)] 62 (0, 0)) :: .row u1 67 1 (famV F0).length (famV F0) :: .row u2 79 1 (famV (List.set G0 (Int.toNat a2) ((p55 21), x37 ++ ([(a1.set, a3, a0.2.2)] : List (BSet × Int × Int)), xs40 ++ [(w64 (word a1.set 0)), (w64 (word a1.set 1)), (w64 (word a1.set 2)), (w64 (word a1.set 3)), (.int .i64 a3), (.int .i64 a0.2.2)]))).length (famV (List.set G0 (Int.toNat a2) ((p55 21), x37 ++ ([(a1.set, a3, a0.2.2)] : List (BSet × Int × Int)), xs40 ++ [(w64 (word a1.set 0)), (w64 (word a1.set 1)), (w64 (word a1.set 2)), (w64 (word a1.set 3)), (.int .i64 a3), (.int .i64 a0.2.2)]))) :: (famR 3 1 F0 ++ (famR 81 6 (List.eraseIdx G0 (Int.toNat a2)) ++ O))) ?_ (by rw [show spl (famV G0) ((Int.toNat a2) * 1 + 0) [(p55 21)] = famV (List.set G0 (Int.toNat a2) ((p55 21), x37 ++ ([(a1.set, a3, a0.2.2)] : List (BSet × Int × Int)), xs40 ++ [(w64 (word a1.set 0)), (w64 (word a1.set 1)), (w64 (word a1.set 2)), (w64 (word a1.set 3)), (.int .i64 a3), (.int .i64 a0.2.2)])) from famSpl _ _ _ hf41, show (famV G0).set (Int.toNat a2) (p55 21) = famV (List.set G0 (Int.toNat a2) ((p55 21), x37 ++ ([(a1.set, a3, a0.2.2)] : List (BSet × Int × Int)), xs40 ++ [(w64 (word a1.set 0)), (w64 (word a1.set 1)), (w64 (word a1.set 2)), (w64 (word a1.set 3)), (.int .i64 a3), (.int .i64 a0.2.2)])) from famSet _ _ _])
  refine At.permK [1, 2, 3, 4, 5] 6 rfl rfl rfl <| At.unlend2 [.blk B3 (.cells #[(.int .i64 a1.kind), (w64 (word a1.set 0)), (w64 (word a1.set 1)), (w64 (word a1.set 2)), (w64 (word a1.set 3)), v1] 46 (0, 0)), .blk B0 (.cells #[u1, u2, (.int .i64 a0.2.2)] 62 (0, 0)), .row u1 67 1 (famV F0).length (famV F0), .row u2 79 1 (famV (List.set G0 (Int.toNat a2) ((p55 21), x37 ++ ([(a1.set, a3, a0.2.2)] : List (BSet × Int × Int)), xs40 ++ [(w64 (word a1.set 0)), (w64 (word a1.set 1)), (w64 (word a1.set 2)), (w64 (word a1.set 3)), (.int .i64 a3), (.int .i64 a0.2.2)]))).length (famV (List.set G0 (Int.toNat a2) ((p55 21), x37 ++ ([(a1.set, a3, a0.2.2)] : List (BSet × Int × Int)), xs40 ++ [(w64 (word a1.set 0)), (w64 (word a1.set 1)), (w64 (word a1.set 2)), (w64 (word a1.set 3)), (.int .i64 a3), (.int .i64 a0.2.2)])))] ((p55 21), x37 ++ ([(a1.set, a3, a0.2.2)] : List (BSet × Int × Int)), xs40 ++ [(w64 (word a1.set 0)), (w64 (word a1.set 1)), (w64 (word a1.set 2)), (w64 (word a1.set 3)), (.int .i64 a3), (.int .i64 a0.2.2)]) hf41 ?_
  have hN65 : FamOk cAr H59 (List.set a0.2.1 (Int.toNat a2) (x37 ++ ([(a1.set, a3, a0.2.2)] : List (BSet × Int × Int)))) (List.set G0 (Int.toNat a2) ((p55 21), x37 ++ ([(a1.set, a3, a0.2.2)] : List (BSet × Int × Int)), xs40 ++ [(w64 (word a1.set 0)), (w64 (word a1.set 1)), (w64 (word a1.set 2)), (w64 (word a1.set 3)), (.int .i64 a3), (.int .i64 a0.2.2)])) := FamOk.set (hNG.mono hl60) hq63 ho64
  refine At.then_n ?_
  replace hd := chk_some hd; obtain ⟨ha66, hd⟩ := hd
  refine Wp.region <| Seg.op (OpT.move rfl) rfl <| Seg.op (OpT.nilCheck rfl) rfl <| Seg.op (OpT.fld (o' := 2) fl62_2 rfl rfl) rfl <| Seg.op (OpT.ldBlk (i := 1) (v := (.int .i64 a0.2.2)) Tryd.underlying3 rfl rfl rfl rfl) rfl <| Seg.op (OpT.add rfl rfl (fits64 ha66)) rfl <| Seg.op (OpT.nilCheck rfl) rfl <| Seg.op (OpT.fld (o' := 2) fl62_2 rfl rfl) rfl ?_
  refine Seg.stBlk1 (i := 1) rfl rfl rfl ti3 rfl (Nat.le_of_ble_eq_true rfl) ?_
  refine Seg.own (O := .blk B3 (.cells #[(.int .i64 a1.kind), (w64 (word a1.set 0)), (w64 (word a1.set 1)), (w64 (word a1.set 2)), (w64 (word a1.set 3)), v1] 46 (0, 0)) :: .blk B0 (.cells #[u1, u2, (.int .i64 (a0.2.2 + 1))] 62 (0, 0)) :: .row u1 67 1 (famV F0).length (famV F0) :: .row u2 79 1 (famV (List.set G0 (Int.toNat a2) ((p55 21), x37 ++ ([(a1.set, a3, a0.2.2)] : List (BSet × Int × Int)), xs40 ++ [(w64 (word a1.set 0)), (w64 (word a1.set 1)), (w64 (word a1.set 2)), (w64 (word a1.set 3)), (.int .i64 a3), (.int .i64 a0.2.2)]))).length (famV (List.set G0 (Int.toNat a2) ((p55 21), x37 ++ ([(a1.set, a3, a0.2.2)] : List (BSet × Int × Int)), xs40 ++ [(w64 (word a1.set 0)), (w64 (word a1.set 1)), (w64 (word a1.set 2)), (w64 (word a1.set 3)), (.int .i64 a3), (.int .i64 a0.2.2)]))) :: (famR 3 1 F0 ++ (famR 81 6 (List.set G0 (Int.toNat a2) ((p55 21), x37 ++ ([(a1.set, a3, a0.2.2)] : List (BSet × Int × Int)), xs40 ++ [(w64 (word a1.set 0)), (w64 (word a1.set 1)), (w64 (word a1.set 2)), (w64 (word a1.set 3)), (.int .i64 a3), (.int .i64 a0.2.2)])) ++ O))) ?_ rfl
  refine Seg.nil <| At.blk_n ?_
  obtain rfl := Option.some.inj hd
  exact At.res0n rfl (fun w hs => ⟨_, _, _, rfl, hl60, (hs.dropN 1), u1, u2, F0, (List.set G0 (Int.toNat a2) ((p55 21), x37 ++ ([(a1.set, a3, a0.2.2)] : List (BSet × Int × Int)), xs40 ++ [(w64 (word a1.set 0)), (w64 (word a1.set 1)), (w64 (word a1.set 2)), (w64 (word a1.set 3)), (.int .i64 a3), (.int .i64 a0.2.2)])), rfl, (hNF.mono hl60), hN65, rfl⟩)
 replace hd := brF hb35 hd
 replace hb35 := of_decide_eq_false hb35
 refine Wp.sr <| Seg.op (OpT.eql rfl rfl) rfl <| Seg.op (OpT.assign rfl) rfl <| Seg.nilT ?_
 refine Wp.cond (b := decide (a1.kind = 4)) rfl (fun hb67 => ?_) (fun hb67 => ?_)
 ·
  replace hd := brT hb67 hd
  replace hb67 := of_decide_eq_true hb67
  refine Wp.sr <| Seg.op (OpT.fld (o' := 5) fl46_2 rfl rfl) rfl <| Seg.op (OpT.ldBlk (i := 0) (v := v1) Tryd.underlying44 rfl rfl rfl rfl) rfl ?_
  have hb68 := hv2.le
  refine Seg.op (OpT.len Tryd.underlying44 rfl hv2.sl) rfl <| Seg.op (OpT.move rfl) rfl <| Seg.nilT <| Wp.block <| Wp.sub (L' := [(0, (ptr B0 0)), (2, (.int .i64 a2)), (3, (.int .i64 a3)), (70, v1), (71, (.int .i64 (a1.subs.length:Int))), (72, (.int .i64 ((0 : Nat) : Int)))]) (.cons rfl (.cons rfl (.cons rfl (.cons rfl (.cons rfl (.cons (lk_int rfl (by omega)) (.nil))))))) <| Wp.loopE (fun m LL HH OO => ∃ (d119 : List (List Int)), ∃ (e120 : List (List (BSet × Int × Int))), ∃ (k127 : Nat), ∃ (i128 : Int), ∃ (F121 : Fam Int), ∃ (G122 : Fam (BSet × Int × Int)), ∃ (v123 : Value), ∃ (v124 : Value), [(0, (ptr B0 0)), (2, (.int .i64 a2)), (3, (.int .i64 a3)), (70, v1), (71, (.int .i64 (a1.subs.length:Int))), (72, (.int .i64 (k127:Int)))] = LL ∧ .blk B3 (.cells #[(.int .i64 a1.kind), (w64 (word a1.set 0)), (w64 (word a1.set 1)), (w64 (word a1.set 2)), (w64 (word a1.set 3)), v1] 46 (0, 0)) :: .blk B0 (.cells #[v123, v124, (.int .i64 i128)] 62 (0, 0)) :: .row v123 67 1 (famV F121).length (famV F121) :: .row v124 79 1 (famV G122).length (famV G122) :: (famR 3 1 F121 ++ (famR 81 6 G122 ++ O)) = OO ∧ loopK m (fun p nx => au_net_add_b1 fu a1 a2 a3 slf p.1 p.2.1 p.2.2.1 p.2.2.2 nx) (d119, e120, k127, i128) = some r ∧ FamOk cI64 HH d119 F121 ∧ FamOk cAr HH e120 G122) fu ⟨a0.1, a0.2.1, 0, a0.2.2, F0, G0, u1, u2, rfl, rfl, hd, hNF, hNG⟩ ?_
  intro m130 L134 H132 O135 hl133 hI129
  obtain ⟨d119, e120, k127, i128, F121, G122, v123, v124, rfl, rfl, hd, hN125, hN126⟩ := hI129
  replace hd := loopK_some hd; obtain ⟨m131, rfl, hd⟩ := hd
  obtain ⟨nx118, hn136⟩ : ∃ f, f = loopK m131 (fun p nx => au_net_add_b1 fu a1 a2 a3 slf p.1 p.2.1 p.2.2.1 p.2.2.2 nx) := ⟨_, rfl⟩
  rw [← hn136] at hd
  replace hd : au_net_add_b1 fu a1 a2 a3 slf d119 e120 k127 i128 nx118 = some r := hd
  unfold au_net_add_b1 at hd
  refine Wp.sr <| Seg.op (OpT.lss rfl rfl) rfl <| Seg.nilT <| Wp.seq ?_
  refine Wp.cond (b := decide ((k127:Int) < (a1.subs.length:Int))) rfl (fun hb137 => ?_) (fun hb137 => ?_)
  ·
   replace hd := brT hb137 hd
   replace hb137 := of_decide_eq_true hb137
   refine Wp.skip <| At.then_n <| Wp.seq <| Wp.block <| Wp.seq ?_
   obtain ⟨x138, hx139, hd⟩ := bnd_some hd
   have hx139_ := idx_bd hx139
   refine Wp.region ?_
   obtain ⟨_, hz143, hc140⟩ := SlD.get (hv2.mono hl133) hx139
   obtain ⟨v141, rfl, hv142⟩ := layRx.1 hz143
   refine Seg.op (OpT.ixSl Tryd.underlying44 ti46 rfl (hv2.mono hl133).sl rfl (idx_bd hx139)) rfl <| Seg.op (OpT.ldHA (vs := [(.int .i64 x138.kind), (w64 (word x138.set 0)), (w64 (word x138.set 1)), (w64 (word x138.set 2)), (w64 (word x138.set 3)), v141]) Tryd.underlying46 rfl ti46 rfl rfl (fun j u hj => (hc140 j u hj))) rfl <| Seg.alloc (cs := #[(.int .i64 0), (w64 (word (fun _ => false) 0)), (w64 (word (fun _ => false) 1)), (w64 (word (fun _ => false) 2)), (w64 (word (fun _ => false) 3)), (.slice none 0 0)]) ti46 (by simp only [zw]; rfl) rfl fun B144 => Seg.stBlkW (i := 0) (cs' := #[(.int .i64 x138.kind), (w64 (word x138.set 0)), (w64 (word x138.set 1)), (w64 (word x138.set 2)), (w64 (word x138.set 3)), v141]) rfl rfl ti46 rfl rfl (onesA (ones_cons rfl (ones_cons rfl (ones_cons rfl (ones_cons rfl (ones_cons rfl (ones_cons hv142.one (ones_nil)))))))) rfl ?_
   refine Seg.own (O := .blk B144 (.cells #[(.int .i64 x138.kind), (w64 (word x138.set 0)), (w64 (word x138.set 1)), (w64 (word x138.set 2)), (w64 (word x138.set 3)), v141] 46 (0, 0)) :: .blk B3 (.cells #[(.int .i64 a1.kind), (w64 (word a1.set 0)), (w64 (word a1.set 1)), (w64 (word a1.set 2)), (w64 (word a1.set 3)), v1] 46 (0, 0)) :: .blk B0 (.cells #[v123, v124, (.int .i64 i128)] 62 (0, 0)) :: .row v123 67 1 (famV F121).length (famV F121) :: .row v124 79 1 (famV G122).length (famV G122) :: (famR 3 1 F121 ++ (famR 81 6 G122 ++ O))) ?_ rfl
   refine Seg.nilT ?_
   obtain ⟨x146, hx147, hd⟩ := bnd_some hd
   refine Wp.region <| Seg.op (OpT.move rfl) rfl <| Seg.op (OpT.ldBlkW (i := 0) Tryd.underlying46 rfl ti46 rfl rfl rfl) rfl <| Seg.op (OpT.move rfl) rfl <| Seg.op (OpT.move rfl) rfl <| Seg.netOut [.blk B144 (.cells #[(.int .i64 x138.kind), (w64 (word x138.set 0)), (w64 (word x138.set 1)), (w64 (word x138.set 2)), (w64 (word x138.set 3)), v141] 46 (0, 0)), .blk B3 (.cells #[(.int .i64 a1.kind), (w64 (word a1.set 0)), (w64 (word a1.set 1)), (w64 (word a1.set 2)), (w64 (word a1.set 3)), v1] 46 (0, 0))] <| Seg.opS (OpS.call ent30 rfl (ih (a0 := (d119, e120, i128)) hN125 hN126 hv142 hx147)) rfl ?_
   rintro _ H148 _ hl149 ⟨v150, v151, F152, G153, rfl, hN154, hN155, rfl⟩
   refine Seg.netIn [.blk B144 (.cells #[(.int .i64 x138.kind), (w64 (word x138.set 0)), (w64 (word x138.set 1)), (w64 (word x138.set 2)), (w64 (word x138.set 3)), v141] 46 (0, 0)), .blk B3 (.cells #[(.int .i64 a1.kind), (w64 (word a1.set 0)), (w64 (word a1.set 1)), (w64 (word a1.set 2)), (w64 (word a1.set 3)), v1] 46 (0, 0))] ?_
   refine Seg.own (O := .blk B144 (.cells #[(.int .i64 x138.kind), (w64 (word x138.set 0)), (w64 (word x138.set 1)), (w64 (word x138.set 2)), (w64 (word x138.set 3)), v141] 46 (0, 0)) :: .blk B3 (.cells #[(.int .i64 a1.kind), (w64 (word a1.set 0)), (w64 (word a1.set 1)), (w64 (word a1.set 2)), (w64 (word a1.set 3)), v1] 46 (0, 0)) :: .blk B0 (.cells #[v150, v151, (.int .i64 x146.2.2)] 62 (0, 0)) :: .row v150 67 1 (famV F152).length (famV F152) :: .row v151 79 1 (famV G153).length (famV G153) :: (famR 3 1 F152 ++ (famR 81 6 G153 ++ O))) ?_ rfl
   refine Seg.nil <| At.blk_n <| At.then_n <| Wp.region <| Seg.op (OpT.add rfl rfl (fits64 (by omega))) rfl <| Seg.op (OpT.move rfl) rfl <| Seg.nil <| At.permK [1, 2, 3, 4] 5 rfl rfl rfl ?_
   refine At.nextE (L' := [(0, (ptr B0 0)), (2, (.int .i64 a2)), (3, (.int .i64 a3)), (70, v1), (71, (.int .i64 (a1.subs.length:Int))), (72, (.int .i64 ((k127 + 1 : Nat) : Int)))]) m131 (Nat.lt_succ_self _) hl149 (.cons rfl (.cons rfl (.cons rfl (.cons rfl (.cons rfl (.cons (lk_int rfl (by omega)) (.nil))))))) ⟨x146.1, x146.2.1, (k127 + 1), x146.2.2, F152, G153, v150, v151, rfl, rfl, (by rw [← hn136]; exact hd), hN154, hN155⟩
  replace hd := brF hb137 hd
  replace hb137 := of_decide_eq_false hb137
  refine Wp.exit <| At.then_x <| At.then_x <| At.blk_hit <| At.blk_n ?_
  obtain rfl := Option.some.inj hd
  exact At.res0n rfl (fun w hs => ⟨_, _, _, rfl, hl133, (hs.dropN 1), v123, v124, F121, G122, rfl, hN125, hN126, rfl⟩)
 replace hd := brF hb67 hd
 replace hb67 := of_decide_eq_false hb67
 refine Wp.sr <| Seg.op (OpT.eql rfl rfl) rfl <| Seg.op (OpT.assign rfl) rfl <| Seg.nilT ?_
 refine Wp.cond (b := decide (a1.kind = 3)) rfl (fun hb156 => ?_) (fun hb156 => ?_)
 ·
  replace hd := brT hb156 hd
  replace hb156 := of_decide_eq_true hb156
  refine Wp.sr <| Seg.op (OpT.move rfl) rfl <| Seg.op (OpT.assign rfl) rfl <| Seg.nilT <| Wp.sr <| Seg.op (OpT.fld (o' := 5) fl46_2 rfl rfl) rfl <| Seg.op (OpT.ldBlk (i := 0) (v := v1) Tryd.underlying44 rfl rfl rfl rfl) rfl ?_
  have hb157 := hv2.le
  refine Seg.op (OpT.len Tryd.underlying44 rfl hv2.sl) rfl <| Seg.op (OpT.move rfl) rfl <| Seg.nilT <| Wp.block <| Wp.sub (L' := [(0, (ptr B0 0)), (3, (.int .i64 a3)), (5, (ptr B3 0)), (10, (.int .i64 a2)), (86, v1), (87, (.int .i64 (a1.subs.length:Int))), (88, (.int .i64 ((0 : Nat) : Int)))]) (.cons rfl (.cons rfl (.cons rfl (.cons rfl (.cons rfl (.cons rfl (.cons (lk_int rfl (by omega)) (.nil)))))))) <| Wp.loopE (fun m LL HH OO => ∃ (d258 : List (List Int)), ∃ (e259 : List (List (BSet × Int × Int))), ∃ (i266 : Int), ∃ (k267 : Nat), ∃ (i268 : Int), ∃ (F260 : Fam Int), ∃ (G261 : Fam (BSet × Int × Int)), ∃ (v262 : Value), ∃ (v263 : Value), [(0, (ptr B0 0)), (3, (.int .i64 a3)), (5, (ptr B3 0)), (10, (.int .i64 i266)), (86, v1), (87, (.int .i64 (a1.subs.length:Int))), (88, (.int .i64 (k267:Int)))] = LL ∧ .blk B3 (.cells #[(.int .i64 a1.kind), (w64 (word a1.set 0)), (w64 (word a1.set 1)), (w64 (word a1.set 2)), (w64 (word a1.set 3)), v1] 46 (0, 0)) :: .blk B0 (.cells #[v262, v263, (.int .i64 i268)] 62 (0, 0)) :: .row v262 67 1 (famV F260).length (famV F260) :: .row v263 79 1 (famV G261).length (famV G261) :: (famR 3 1 F260 ++ (famR 81 6 G261 ++ O)) = OO ∧ loopK m (fun p nx => au_net_add_b4 fu a1 a3 slf p.1 p.2.1 p.2.2.1 p.2.2.2.1 p.2.2.2.2 nx) (d258, e259, i266, k267, i268) = some r ∧ FamOk cI64 HH d258 F260 ∧ FamOk cAr HH e259 G261) fu ⟨a0.1, a0.2.1, a2, 0, a0.2.2, F0, G0, u1, u2, rfl, rfl, hd, hNF, hNG⟩ ?_
  intro m270 L274 H272 O275 hl273 hI269
  obtain ⟨d258, e259, i266, k267, i268, F260, G261, v262, v263, rfl, rfl, hd, hN264, hN265⟩ := hI269
  replace hd := loopK_some hd; obtain ⟨m271, rfl, hd⟩ := hd
  obtain ⟨nx257, hn276⟩ : ∃ f, f = loopK m271 (fun p nx => au_net_add_b4 fu a1 a3 slf p.1 p.2.1 p.2.2.1 p.2.2.2.1 p.2.2.2.2 nx) := ⟨_, rfl⟩
  rw [← hn276] at hd
  replace hd : au_net_add_b4 fu a1 a3 slf d258 e259 i266 k267 i268 nx257 = some r := hd
  unfold au_net_add_b4 at hd
  refine Wp.sr <| Seg.op (OpT.lss rfl rfl) rfl <| Seg.nilT <| Wp.seq ?_
  refine Wp.cond (b := decide ((k267:Int) < (a1.subs.length:Int))) rfl (fun hb277 => ?_) (fun hb277 => ?_)
  ·
   replace hd := brT hb277 hd
   replace hb277 := of_decide_eq_true hb277
   refine Wp.skip <| At.then_n <| Wp.seq <| Wp.block <| Wp.seq ?_
   obtain ⟨x278, hx279, hd⟩ := bnd_some hd
   have hx279_ := idx_bd hx279
   refine Wp.region <| Seg.op (OpT.move rfl) rfl ?_
   obtain ⟨_, hz283, hc280⟩ := SlD.get (hv2.mono hl273) hx279
   obtain ⟨v281, rfl, hv282⟩ := layRx.1 hz283
   refine Seg.op (OpT.ixSl Tryd.underlying44 ti46 rfl (hv2.mono hl273).sl rfl (idx_bd hx279)) rfl <| Seg.op (OpT.ldHA (vs := [(.int .i64 x278.kind), (w64 (word x278.set 0)), (w64 (word x278.set 1)), (w64 (word x278.set 2)), (w64 (word x278.set 3)), v281]) Tryd.underlying46 rfl ti46 rfl rfl (fun j u hj => (hc280 j u hj))) rfl <| Seg.alloc (cs := #[(.int .i64 0), (w64 (word (fun _ => false) 0)), (w64 (word (fun _ => false) 1)), (w64 (word (fun _ => false) 2)), (w64 (word (fun _ => false) 3)), (.slice none 0 0)]) ti46 (by simp only [zw]; rfl) rfl fun B284 => Seg.op (OpT.assign rfl) rfl <| Seg.stBlkW (i := 0) (cs' := #[(.int .i64 x278.kind), (w64 (word x278.set 0)), (w64 (word x278.set 1)), (w64 (word x278.set 2)), (w64 (word x278.set 3)), v281]) rfl rfl ti46 rfl rfl (onesA (ones_cons rfl (ones_cons rfl (ones_cons rfl (ones_cons rfl (ones_cons rfl (ones_cons hv282.one (ones_nil)))))))) rfl ?_
   refine Seg.own (O := .blk B284 (.cells #[(.int .i64 x278.kind), (w64 (word x278.set 0)), (w64 (word x278.set 1)), (w64 (word x278.set 2)), (w64 (word x278.set 3)), v281] 46 (0, 0)) :: .blk B3 (.cells #[(.int .i64 a1.kind), (w64 (word a1.set 0)), (w64 (word a1.set 1)), (w64 (word a1.set 2)), (w64 (word a1.set 3)), v1] 46 (0, 0)) :: .blk B0 (.cells #[v262, v263, (.int .i64 i268)] 62 (0, 0)) :: .row v262 67 1 (famV F260).length (famV F260) :: .row v263 79 1 (famV G261).length (famV G261) :: (famR 3 1 F260 ++ (famR 81 6 G261 ++ O))) ?_ rfl
   refine Seg.nilT <| Wp.sr <| Seg.op (OpT.move rfl) rfl <| Seg.op (OpT.assign rfl) rfl <| Seg.nilT <| Wp.seq <| Wp.sr <| Seg.op (OpT.move rfl) rfl ?_
   refine Seg.op (OpT.add rfl rfl (fits64 (by omega))) rfl <| Seg.op (OpT.fld (o' := 5) fl46_2 rfl rfl) rfl <| Seg.op (OpT.ldBlk (i := 1) (v := v1) Tryd.underlying44 rfl rfl rfl rfl) rfl ?_
   have hb286 := hv2.le
   refine Seg.op (OpT.len Tryd.underlying44 rfl (hv2.mono hl273).sl) rfl <| Seg.op (OpT.lss rfl rfl) rfl <| Seg.nilT ?_
   refine Wp.joinT (fun LL HH OO => ∃ (d296 : List (List Int)), ∃ (e297 : List (List (BSet × Int × Int))), ∃ (i304 : Int), ∃ (F298 : Fam Int), ∃ (G299 : Fam (BSet × Int × Int)), ∃ (v300 : Value), ∃ (v301 : Value), [(0, (ptr B0 0)), (3, (.int .i64 a3)), (5, (ptr B3 0)), (10, (.int .i64 i266)), (12, (ptr B284 0)), (13, (.int .i64 i304)), (86, v1), (87, (.int .i64 (a1.subs.length:Int))), (88, (.int .i64 (k267:Int)))] = LL ∧ .blk B284 (.cells #[(.int .i64 x278.kind), (w64 (word x278.set 0)), (w64 (word x278.set 1)), (w64 (word x278.set 2)), (w64 (word x278.set 3)), v281] 46 (0, 0)) :: .blk B3 (.cells #[(.int .i64 a1.kind), (w64 (word a1.set 0)), (w64 (word a1.set 1)), (w64 (word a1.set 2)), (w64 (word a1.set 3)), v1] 46 (0, 0)) :: .blk B0 (.cells #[v300, v301, (.int .i64 i268)] 62 (0, 0)) :: .row v300 67 1 (famV F298).length (famV F298) :: .row v301 79 1 (famV G299).length (famV G299) :: (famR 3 1 F298 ++ (famR 81 6 G299 ++ O)) = OO ∧ au_net_add_j5 fu slf i266 k267 i268 nx257 x278 d296 e297 i304 = some r ∧ FamOk cI64 HH d296 F298 ∧ FamOk cAr HH e297 G299) ?_ ?_
   ·
    refine Wp.cond (b := decide (((k267:Int) + 1) < (a1.subs.length:Int))) rfl (fun hb320 => ?_) (fun hb320 => ?_)
    ·
     replace hd := brT hb320 hd
     replace hb320 := of_decide_eq_true hb320
     replace hd := chk_some hd; obtain ⟨ha321, hd⟩ := hd
     replace hd := chk_some hd; obtain ⟨ha322, hd⟩ := hd
     refine Wp.region <| Seg.op (OpT.move rfl) rfl <| Seg.netOut [.blk B284 (.cells #[(.int .i64 x278.kind), (w64 (word x278.set 0)), (w64 (word x278.set 1)), (w64 (word x278.set 2)), (w64 (word x278.set 3)), v281] 46 (0, 0)), .blk B3 (.cells #[(.int .i64 a1.kind), (w64 (word a1.set 0)), (w64 (word a1.set 1)), (w64 (word a1.set 2)), (w64 (word a1.set 3)), v1] 46 (0, 0))] <| Seg.opS (OpS.call ent29 rfl (state_w hN264 hN265 ha321 ha322)) rfl ?_
     rintro _ H323 _ hl324 ⟨v325, v326, rfl, rfl⟩
     refine Seg.netIn [.blk B284 (.cells #[(.int .i64 x278.kind), (w64 (word x278.set 0)), (w64 (word x278.set 1)), (w64 (word x278.set 2)), (w64 (word x278.set 3)), v281] 46 (0, 0)), .blk B3 (.cells #[(.int .i64 a1.kind), (w64 (word a1.set 0)), (w64 (word a1.set 1)), (w64 (word a1.set 2)), (w64 (word a1.set 3)), v1] 46 (0, 0))] ?_
     have hN327 := FamOk.mono (FamOk.add hN264) hl324; have hN328 := FamOk.mono (FamOk.add hN265) hl324
     refine Seg.own (O := .blk B284 (.cells #[(.int .i64 x278.kind), (w64 (word x278.set 0)), (w64 (word x278.set 1)), (w64 (word x278.set 2)), (w64 (word x278.set 3)), v281] 46 (0, 0)) :: .blk B3 (.cells #[(.int .i64 a1.kind), (w64 (word a1.set 0)), (w64 (word a1.set 1)), (w64 (word a1.set 2)), (w64 (word a1.set 3)), v1] 46 (0, 0)) :: .blk B0 (.cells #[v325, v326, (.int .i64 i268)] 62 (0, 0)) :: .row v325 67 1 (famV (F260 ++ [(Value.slice none 0 0, [], [])])).length (famV (F260 ++ [(Value.slice none 0 0, [], [])])) :: .row v326 79 1 (famV (G261 ++ [(Value.slice none 0 0, [], [])])).length (famV (G261 ++ [(Value.slice none 0 0, [], [])])) :: (famR 3 1 (F260 ++ [(Value.slice none 0 0, [], [])]) ++ (famR 81 6 (G261 ++ [(Value.slice none 0 0, [], [])]) ++ O))) ?_ rfl
     refine Seg.op (OpT.assign rfl) rfl <| Seg.nil ?_
     refine At.joinE (L' := [(0, (ptr B0 0)), (3, (.int .i64 a3)), (5, (ptr B3 0)), (10, (.int .i64 i266)), (12, (ptr B284 0)), (13, (.int .i64 (e259.length:Int))), (86, v1), (87, (.int .i64 (a1.subs.length:Int))), (88, (.int .i64 (k267:Int)))]) hl324 (.cons rfl (.cons rfl (.cons rfl (.cons rfl (.cons rfl (.cons rfl (.cons rfl (.cons rfl (.cons rfl (.nil)))))))))) ⟨(d258 ++ [[]]), (e259 ++ [[]]), (e259.length:Int), (F260 ++ [(Value.slice none 0 0, [], [])]), (G261 ++ [(Value.slice none 0 0, [], [])]), v325, v326, rfl, rfl, hd, hN327, hN328⟩
    replace hd := brF hb320 hd
    replace hb320 := of_decide_eq_false hb320
    refine Wp.skip ?_
    refine At.joinE (L' := [(0, (ptr B0 0)), (3, (.int .i64 a3)), (5, (ptr B3 0)), (10, (.int .i64 i266)), (12, (ptr B284 0)), (13, (.int .i64 a3)), (86, v1), (87, (.int .i64 (a1.subs.length:Int))), (88, (.int .i64 (k267:Int)))]) (Hp.le.refl _) (.cons rfl (.cons rfl (.cons rfl (.cons rfl (.cons rfl (.cons rfl (.cons rfl (.cons rfl (.cons rfl (.nil)))))))))) ⟨d258, e259, a3, F260, G261, v262, v263, rfl, rfl, hd, hN264, hN265⟩
   intro L308 H306 O309 hl307 hI305
   obtain ⟨d296, e297, i304, F298, G299, v300, v301, rfl, rfl, hd, hN302, hN303⟩ := hI305
   unfold au_net_add_j5 at hd
   refine Wp.seq ?_
   obtain ⟨x310, hx311, hd⟩ := bnd_some hd
   refine Wp.region <| Seg.op (OpT.move rfl) rfl <| Seg.op (OpT.ldBlkW (i := 0) Tryd.underlying46 rfl ti46 rfl rfl rfl) rfl <| Seg.op (OpT.move rfl) rfl <| Seg.op (OpT.move rfl) rfl <| Seg.netOut [.blk B284 (.cells #[(.int .i64 x278.kind), (w64 (word x278.set 0)), (w64 (word x278.set 1)), (w64 (word x278.set 2)), (w64 (word x278.set 3)), v281] 46 (0, 0)), .blk B3 (.cells #[(.int .i64 a1.kind), (w64 (word a1.set 0)), (w64 (word a1.set 1)), (w64 (word a1.set 2)), (w64 (word a1.set 3)), v1] 46 (0, 0))] <| Seg.opS (OpS.call ent30 rfl (ih (a0 := (d296, e297, i268)) hN302 hN303 (hv282.mono hl307) hx311)) rfl ?_
   rintro _ H312 _ hl313 ⟨v314, v315, F316, G317, rfl, hN318, hN319, rfl⟩
   refine Seg.netIn [.blk B284 (.cells #[(.int .i64 x278.kind), (w64 (word x278.set 0)), (w64 (word x278.set 1)), (w64 (word x278.set 2)), (w64 (word x278.set 3)), v281] 46 (0, 0)), .blk B3 (.cells #[(.int .i64 a1.kind), (w64 (word a1.set 0)), (w64 (word a1.set 1)), (w64 (word a1.set 2)), (w64 (word a1.set 3)), v1] 46 (0, 0))] ?_
   refine Seg.own (O := .blk B284 (.cells #[(.int .i64 x278.kind), (w64 (word x278.set 0)), (w64 (word x278.set 1)), (w64 (word x278.set 2)), (w64 (word x278.set 3)), v281] 46 (0, 0)) :: .blk B3 (.cells #[(.int .i64 a1.kind), (w64 (word a1.set 0)), (w64 (word a1.set 1)), (w64 (word a1.set 2)), (w64 (word a1.set 3)), v1] 46 (0, 0)) :: .blk B0 (.cells #[v314, v315, (.int .i64 x310.2.2)] 62 (0, 0)) :: .row v314 67 1 (famV F316).length (famV F316) :: .row v315 79 1 (famV G317).length (famV G317) :: (famR 3 1 F316 ++ (famR 81 6 G317 ++ O))) ?_ rfl
   refine Seg.nilT <| Wp.region <| Seg.op (OpT.move rfl) rfl <| Seg.op (OpT.assign rfl) rfl <| Seg.nil <| At.blk_n <| At.then_n <| Wp.region ?_
   refine Seg.op (OpT.add rfl rfl (fits64 (by omega))) rfl <| Seg.op (OpT.move rfl) rfl <| Seg.nil <| At.permK [1, 2, 3, 4] 5 rfl rfl rfl ?_
   refine At.nextE (L' := [(0, (ptr B0 0)), (3, (.int .i64 a3)), (5, (ptr B3 0)), (10, (.int .i64 i304)), (86, v1), (87, (.int .i64 (a1.subs.length:Int))), (88, (.int .i64 ((k267 + 1 : Nat) : Int)))]) m271 (Nat.lt_succ_self _) (hl307.trans hl313) (.cons rfl (.cons rfl (.cons rfl (.cons rfl (.cons rfl (.cons rfl (.cons (lk_int rfl (by omega)) (.nil)))))))) ⟨x310.1, x310.2.1, i304, (k267 + 1), x310.2.2, F316, G317, v314, v315, rfl, rfl, (by rw [← hn276]; exact hd), hN318, hN319⟩
  replace hd := brF hb277 hd
  replace hb277 := of_decide_eq_false hb277
  refine Wp.exit <| At.then_x <| At.then_x <| At.blk_hit <| At.blk_n ?_
  obtain rfl := Option.some.inj hd
  exact At.res0n rfl (fun w hs => ⟨_, _, _, rfl, hl273, (hs.dropN 1), v262, v263, F260, G261, rfl, hN264, hN265, rfl⟩)
 replace hd := brF hb156 hd
 replace hb156 := of_decide_eq_false hb156
 refine Wp.sr <| Seg.op (OpT.eql rfl rfl) rfl <| Seg.op (OpT.assign rfl) rfl <| Seg.nilT ?_
 refine Wp.cond (b := decide (a1.kind = 5)) rfl (fun hb329 => ?_) (fun hb329 => ?_)
 ·
  replace hd := brT hb329 hd
  replace hb329 := of_decide_eq_true hb329
  refine Wp.seq ?_
  replace hd := chk_some hd; obtain ⟨ha330, hd⟩ := hd
  replace hd := chk_some hd; obtain ⟨ha331, hd⟩ := hd
  refine Wp.region <| Seg.op (OpT.move rfl) rfl <| Seg.netOut [.blk B3 (.cells #[(.int .i64 a1.kind), (w64 (word a1.set 0)), (w64 (word a1.set 1)), (w64 (word a1.set 2)), (w64 (word a1.set 3)), v1] 46 (0, 0))] <| Seg.opS (OpS.call ent29 rfl (state_w hNF hNG ha330 ha331)) rfl ?_
  rintro _ H332 _ hl333 ⟨v334, v335, rfl, rfl⟩
  refine Seg.netIn [.blk B3 (.cells #[(.int .i64 a1.kind), (w64 (word a1.set 0)), (w64 (word a1.set 1)), (w64 (word a1.set 2)), (w64 (word a1.set 3)), v1] 46 (0, 0))] ?_
  have hN336 := FamOk.mono (FamOk.add hNF) hl333; have hN337 := FamOk.mono (FamOk.add hNG) hl333
  refine Seg.own (O := .blk B3 (.cells #[(.int .i64 a1.kind), (w64 (word a1.set 0)), (w64 (word a1.set 1)), (w64 (word a1.set 2)), (w64 (word a1.set 3)), v1] 46 (0, 0)) :: .blk B0 (.cells #[v334, v335, (.int .i64 a0.2.2)] 62 (0, 0)) :: .row v334 67 1 (famV (F0 ++ [(Value.slice none 0 0, [], [])])).length (famV (F0 ++ [(Value.slice none 0 0, [], [])])) :: .row v335 79 1 (famV (G0 ++ [(Value.slice none 0 0, [], [])])).length (famV (G0 ++ [(Value.slice none 0 0, [], [])])) :: (famR 3 1 (F0 ++ [(Value.slice none 0 0, [], [])]) ++ (famR 81 6 (G0 ++ [(Value.slice none 0 0, [], [])]) ++ O))) ?_ rfl
  refine Seg.op (OpT.assign rfl) rfl <| Seg.nilT <| Wp.seq ?_
  obtain ⟨x339, hx340, hd⟩ := bnd_some hd
  obtain ⟨v341, xs342, hf343, hL344, hi345⟩ := FamOk.get hN336 hx340
  refine Wp.lend [.blk B3 (.cells #[(.int .i64 a1.kind), (w64 (word a1.set 0)), (w64 (word a1.set 1)), (w64 (word a1.set 2)), (w64 (word a1.set 3)), v1] 46 (0, 0)), .blk B0 (.cells #[v334, v335, (.int .i64 a0.2.2)] 62 (0, 0)), .row v334 67 1 (famV (F0 ++ [(Value.slice none 0 0, [], [])])).length (famV (F0 ++ [(Value.slice none 0 0, [], [])])), .row v335 79 1 (famV (G0 ++ [(Value.slice none 0 0, [], [])])).length (famV (G0 ++ [(Value.slice none 0 0, [], [])]))] hf343 ?_
  replace hd := chk_some hd; obtain ⟨ha359, hd⟩ := hd
  obtain ⟨_, ⟨rfl, _⟩, hc358, hc358_⟩ := LayL.get (FamOk.row hN336) (idx_some hi345).2
  obtain ⟨_, ⟨rfl, _⟩, hc360, hc360_⟩ := LayL.get (FamOk.row hN336) (idx_some hi345).2
  refine Wp.emp <| SegO.runK 6 [an0, an0, an0, ⟨[3], [], []⟩, an0, an0, an0, an0, ⟨[3], [], []⟩, an0, ⟨[4], [], []⟩, ⟨[4], [], []⟩, an0, ⟨[0], [0], [13]⟩, ⟨[0, 1], [1], [14]⟩, ⟨[4], [], []⟩, ⟨[4], [4], [14]⟩] follows rfl (by kernel_rfl) <| SegO.op (val := fun p357 => (ptr B0 0)) rfl rfl (fun _ => rfl) (fun _ p357 _ hx hf hy => OpT.move rfl) rfl <| SegO.op (val := fun p357 => (ptr B0 0)) rfl rfl (fun _ => rfl) (fun _ p357 _ hx hf hy => OpT.nilCheck rfl) rfl <| SegO.op (val := fun p357 => (ptr B0 0)) rfl rfl (fun _ => rfl) (fun _ p357 _ hx hf hy => OpT.fld (o' := 0) fl62_0 rfl rfl) rfl <| SegO.op (val := fun p357 => v334) rfl rfl (fun _ => rfl) (fun _ p357 _ hx hf hy => OpT.ldBlk (i := 3) (v := v334) Tryd.underlying59 rfl rfl (hy 3 _ rfl rfl) rfl) rfl <| SegO.op (val := fun p357 => (.int .i64 a2)) rfl rfl (fun _ => rfl) (fun _ p357 _ hx hf hy => OpT.move rfl) rfl <| SegO.op (val := fun p357 => (ptr B0 0)) rfl rfl (fun _ => rfl) (fun _ p357 _ hx hf hy => OpT.move rfl) rfl ?_
  refine SegO.op (val := fun p357 => (ptr B0 0)) rfl rfl (fun _ => rfl) (fun _ p357 _ hx hf hy => OpT.nilCheck rfl) rfl <| SegO.op (val := fun p357 => (ptr B0 0)) rfl rfl (fun _ => rfl) (fun _ p357 _ hx hf hy => OpT.fld (o' := 0) fl62_0 rfl rfl) rfl <| SegO.op (val := fun p357 => v334) rfl rfl (fun _ => rfl) (fun _ p357 _ hx hf hy => OpT.ldBlk (i := 3) (v := v334) Tryd.underlying59 rfl rfl (hy 3 _ rfl rfl) rfl) rfl <| SegO.op (val := fun p357 => (.int .i64 a2)) rfl rfl (fun _ => rfl) (fun _ p357 _ hx hf hy => OpT.move rfl) rfl <| SegO.op (val := fun p357 => (elemPtr v334 ((Int.toNat a2) * 1))) rfl rfl (fun _ => rfl) (fun _ p357 _ hx hf hy => OpT.ixRow (j := 4) Tryd.underlying59 ti67 rfl (hy 4 _ rfl rfl) rfl (idx_bd hi345)) rfl <| SegO.op (val := fun p357 => v341) rfl rfl (fun _ => rfl) (fun _ p357 _ hx hf hy => OpT.ldRow (i := 4) (k := (Int.toNat a2) * 1 + 0) Tryd.underlying67 rfl rfl (hy 4 _ rfl rfl) (hc358 0 _ rfl)) rfl <| SegO.op (val := fun p357 => (.int .i64 (a0.2.1.length:Int))) rfl rfl (fun _ => rfl) (fun _ p357 _ hx hf hy => OpT.move rfl) rfl <| SegO.op1s (res := fun p357 => .row (p357 13) 3 1 1 [(.int .i64 (a0.2.1.length:Int))]) 0 rfl rfl rfl (fun _ => rfl) (fun _ p357 _ hx hf hy => OpS.buildR1 (v := (.int .i64 (a0.2.1.length:Int))) (cs := [(.int .i64 (a0.2.1.length:Int))]) 0 Tryd.underlying67 ti3 rfl rfl rfl rfl rfl (hy 0 _ rfl rfl)) rfl (fun _ => ⟨_, _, _, _, rfl⟩) ?_
  refine SegO.op1s (res := fun p357 => .row (p357 14) 3 1 (x339.length + 1) (xs342 ++ [(.int .i64 (a0.2.1.length:Int))])) 1 rfl rfl rfl (fun _ => rfl) (fun _ p357 _ hx hf hy => OpS.appR 1 0 Tryd.underlying67 ti3 rfl rfl rfl rfl (hy 1 _ rfl rfl) (hy 0 _ rfl rfl) (ones_cons rfl (ones_nil)) rfl ha359) rfl (fun _ => ⟨_, _, _, _, rfl⟩) <| SegO.op (val := fun p357 => (elemPtr v334 ((Int.toNat a2) * 1))) rfl rfl (fun _ => rfl) (fun _ p357 _ hx hf hy => OpT.ixRow (j := 4) Tryd.underlying59 ti67 rfl (hy 4 _ rfl rfl) rfl (idx_bd hi345)) rfl <| SegO.op1n (res := fun p357 => .row v334 67 1 (famV (F0 ++ [(Value.slice none 0 0, [], [])])).length (spl (famV (F0 ++ [(Value.slice none 0 0, [], [])])) ((Int.toNat a2) * 1 + 0) [(p357 14)])) 4 rfl rfl rfl (fun _ => rfl) (fun _ p357 _ hx hf hy => OpS.stRowR (k := (Int.toNat a2) * 1 + 0) (vs := [(p357 14)]) rfl rfl (cellsL (hf 14 rfl rfl)) ti67 rfl rfl (ones_cons (hf 14 rfl rfl) (ones_nil)) (hy 4 _ rfl rfl) (by have h1 : _ = _ * 1 := (FamOk.row hN336).len; have h2 := idx_bd hi345; simp only [List.length_cons, List.length_nil]; omega)) <| SegO.done fun H361 p357 hl362 hF363 => At.sub (L' := [(0, (ptr B0 0)), (3, (.int .i64 a3)), (5, (ptr B3 0)), (14, (.int .i64 (a0.2.1.length:Int)))]) (.cons rfl (.cons rfl (.cons rfl (.cons rfl (.nil))))) ?_
  refine At.own (O := .row (p357 13) 3 1 ([(a0.2.1.length:Int)] : List Int).length [(.int .i64 (a0.2.1.length:Int))] :: .row (p357 14) 3 1 (x339 ++ ([(a0.2.1.length:Int)] : List Int)).length (xs342 ++ [(.int .i64 (a0.2.1.length:Int))]) :: .blk B3 (.cells #[(.int .i64 a1.kind), (w64 (word a1.set 0)), (w64 (word a1.set 1)), (w64 (word a1.set 2)), (w64 (word a1.set 3)), v1] 46 (0, 0)) :: .blk B0 (.cells #[v334, v335, (.int .i64 a0.2.2)] 62 (0, 0)) :: .row v334 67 1 ((famV (F0 ++ [(Value.slice none 0 0, [], [])])).set (Int.toNat a2) (p357 14)).length (spl (famV (F0 ++ [(Value.slice none 0 0, [], [])])) ((Int.toNat a2) * 1 + 0) [(p357 14)]) :: .row v335 79 1 (famV (G0 ++ [(Value.slice none 0 0, [], [])])).length (famV (G0 ++ [(Value.slice none 0 0, [], [])])) :: (famR 3 1 (List.eraseIdx (F0 ++ [(Value.slice none 0 0, [], [])]) (Int.toNat a2)) ++ (famR 81 6 (G0 ++ [(Value.slice none 0 0, [], [])]) ++ O))) ?_ (by first | rfl | (simp only [List.length_append, List.length_set]; rfl) | simp)
  have hq365 : LayL cI64 H361 (x339 ++ ([(a0.2.1.length:Int)] : List Int)) (xs342 ++ [(.int .i64 (a0.2.1.length:Int))]) := (LayL.app (hL344.mono hl362) (LayL.sing (c := cI64) (a := (a0.2.1.length:Int)) (cs := [(.int .i64 (a0.2.1.length:Int))]) rfl))
  refine At.rowOne (i := 1) rfl fun ho366 => ?_
  refine At.own (O := .row (p357 13) 3 1 ([(a0.2.1.length:Int)] : List Int).length [(.int .i64 (a0.2.1.length:Int))] :: .row (p357 14) 3 1 (x339 ++ ([(a0.2.1.length:Int)] : List Int)).length (xs342 ++ [(.int .i64 (a0.2.1.length:Int))]) :: .blk B3 (.cells #[(.int .i64 a1.kind), (w64 (word a1.set 0)), (w64 (word a1.set 1)), (w64 (word a1.set 2)), (w64 (word a1.set 3)), v1] 46 (0, 0)) :: .blk B0 (.cells #[v334, v335, (.int .i64 a0.2.2)] 62 (0, 0)) :: .row v334 67 1 (famV (List.set (F0 ++ [(Value.slice none 0 0, [], [])]) (Int.toNat a2) ((p357 14), x339 ++ ([(a0.2.1.length:Int)] : List Int), xs342 ++ [(.int .i64 (a0.2.1.length:Int))]))).length (famV (List.set (F0 ++ [(Value.slice none 0 0, [], [])]) (Int.toNat a2) ((p357 14), x339 ++ ([(a0.2.1.length:Int)] : List Int), xs342 ++ [(.int .i64 (a0.2.1.length:Int))]))) :: .row v335 79 1 (famV (G0 ++ [(Value.slice none 0 0, [], [])])).length (famV (G0 ++ [(Value.slice none 0 0, [], [])])) :: (famR 3 1 (List.eraseIdx (F0 ++ [(Value.slice none 0 0, [], [])]) (Int.toNat a2)) ++ (famR 81 6 (G0 ++ [(Value.slice none 0 0, [], [])]) ++ O))) ?_ (by rw [show spl (famV (F0 ++ [(Value.slice none 0 0, [], [])])) ((Int.toNat a2) * 1 + 0) [(p357 14)] = famV (List.set (F0 ++ [(Value.slice none 0 0, [], [])]) (Int.toNat a2) ((p357 14), x339 ++ ([(a0.2.1.length:Int)] : List Int), xs342 ++ [(.int .i64 (a0.2.1.length:Int))])) from famSpl _ _ _ hf343, show (famV (F0 ++ [(Value.slice none 0 0, [], [])])).set (Int.toNat a2) (p357 14) = famV (List.set (F0 ++ [(Value.slice none 0 0, [], [])]) (Int.toNat a2) ((p357 14), x339 ++ ([(a0.2.1.length:Int)] : List Int), xs342 ++ [(.int .i64 (a0.2.1.length:Int))])) from famSet _ _ _])
  refine At.permK [1, 2, 3, 4, 5] 6 rfl rfl rfl <| At.unlend [.blk B3 (.cells #[(.int .i64 a1.kind), (w64 (word a1.set 0)), (w64 (word a1.set 1)), (w64 (word a1.set 2)), (w64 (word a1.set 3)), v1] 46 (0, 0)), .blk B0 (.cells #[v334, v335, (.int .i64 a0.2.2)] 62 (0, 0)), .row v334 67 1 (famV (List.set (F0 ++ [(Value.slice none 0 0, [], [])]) (Int.toNat a2) ((p357 14), x339 ++ ([(a0.2.1.length:Int)] : List Int), xs342 ++ [(.int .i64 (a0.2.1.length:Int))]))).length (famV (List.set (F0 ++ [(Value.slice none 0 0, [], [])]) (Int.toNat a2) ((p357 14), x339 ++ ([(a0.2.1.length:Int)] : List Int), xs342 ++ [(.int .i64 (a0.2.1.length:Int))]))), .row v335 79 1 (famV (G0 ++ [(Value.slice none 0 0, [], [])])).length (famV (G0 ++ [(Value.slice none 0 0, [], [])]))] ((p357 14), x339 ++ ([(a0.2.1.length:Int)] : List Int), xs342 ++ [(.int .i64 (a0.2.1.length:Int))]) hf343 ?_
  have hN367 : FamOk cI64 H361 (List.set (a0.1 ++ [[]]) (Int.toNat a2) (x339 ++ ([(a0.2.1.length:Int)] : List Int))) (List.set (F0 ++ [(Value.slice none 0 0, [], [])]) (Int.toNat a2) ((p357 14), x339 ++ ([(a0.2.1.length:Int)] : List Int), xs342 ++ [(.int .i64 (a0.2.1.length:Int))])) := FamOk.set (hN336.mono hl362) hq365 ho366
  refine At.then_n <| Wp.seq ?_
  obtain ⟨x369, hx370, hd⟩ := bnd_some hd
  obtain ⟨v371, xs372, hf373, hL374, hi375⟩ := FamOk.get hN367 hx370
  refine Wp.lend [.blk B3 (.cells #[(.int .i64 a1.kind), (w64 (word a1.set 0)), (w64 (word a1.set 1)), (w64 (word a1.set 2)), (w64 (word a1.set 3)), v1] 46 (0, 0)), .blk B0 (.cells #[v334, v335, (.int .i64 a0.2.2)] 62 (0, 0)), .row v334 67 1 (famV (List.set (F0 ++ [(Value.slice none 0 0, [], [])]) (Int.toNat a2) ((p357 14), x339 ++ ([(a0.2.1.length:Int)] : List Int), xs342 ++ [(.int .i64 (a0.2.1.length:Int))]))).length (famV (List.set (F0 ++ [(Value.slice none 0 0, [], [])]) (Int.toNat a2) ((p357 14), x339 ++ ([(a0.2.1.length:Int)] : List Int), xs342 ++ [(.int .i64 (a0.2.1.length:Int))]))), .row v335 79 1 (famV (G0 ++ [(Value.slice none 0 0, [], [])])).length (famV (G0 ++ [(Value.slice none 0 0, [], [])]))] hf373 ?_
  replace hd := chk_some hd; obtain ⟨ha389, hd⟩ := hd
  obtain ⟨_, ⟨rfl, _⟩, hc388, hc388_⟩ := LayL.get (FamOk.row hN367) (idx_some hi375).2
  obtain ⟨_, ⟨rfl, _⟩, hc390, hc390_⟩ := LayL.get (FamOk.row hN367) (idx_some hi375).2
  refine Wp.emp <| SegO.runK 6 [an0, an0, an0, ⟨[3], [], []⟩, an0, an0, an0, an0, ⟨[3], [], []⟩, an0, ⟨[4], [], []⟩, ⟨[4], [], []⟩, an0, ⟨[0], [0], [13]⟩, ⟨[0, 1], [1], [14]⟩, ⟨[4], [], []⟩, ⟨[4], [4], [14]⟩] follows rfl (by kernel_rfl) <| SegO.op (val := fun p387 => (ptr B0 0)) rfl rfl (fun _ => rfl) (fun _ p387 _ hx hf hy => OpT.move rfl) rfl <| SegO.op (val := fun p387 => (ptr B0 0)) rfl rfl (fun _ => rfl) (fun _ p387 _ hx hf hy => OpT.nilCheck rfl) rfl <| SegO.op (val := fun p387 => (ptr B0 0)) rfl rfl (fun _ => rfl) (fun _ p387 _ hx hf hy => OpT.fld (o' := 0) fl62_0 rfl rfl) rfl <| SegO.op (val := fun p387 => v334) rfl rfl (fun _ => rfl) (fun _ p387 _ hx hf hy => OpT.ldBlk (i := 3) (v := v334) Tryd.underlying59 rfl rfl (hy 3 _ rfl rfl) rfl) rfl <| SegO.op (val := fun p387 => (.int .i64 (a0.2.1.length:Int))) rfl rfl (fun _ => rfl) (fun _ p387 _ hx hf hy => OpT.move rfl) rfl <| SegO.op (val := fun p387 => (ptr B0 0)) rfl rfl (fun _ => rfl) (fun _ p387 _ hx hf hy => OpT.move rfl) rfl ?_
  refine SegO.op (val := fun p387 => (ptr B0 0)) rfl rfl (fun _ => rfl) (fun _ p387 _ hx hf hy => OpT.nilCheck rfl) rfl <| SegO.op (val := fun p387 => (ptr B0 0)) rfl rfl (fun _ => rfl) (fun _ p387 _ hx hf hy => OpT.fld (o' := 0) fl62_0 rfl rfl) rfl <| SegO.op (val := fun p387 => v334) rfl rfl (fun _ => rfl) (fun _ p387 _ hx hf hy => OpT.ldBlk (i := 3) (v := v334) Tryd.underlying59 rfl rfl (hy 3 _ rfl rfl) rfl) rfl <| SegO.op (val := fun p387 => (.int .i64 (a0.2.1.length:Int))) rfl rfl (fun _ => rfl) (fun _ p387 _ hx hf hy => OpT.move rfl) rfl <| SegO.op (val := fun p387 => (elemPtr v334 (a0.2.1.length * 1))) rfl rfl (fun _ => rfl) (fun _ p387 _ hx hf hy => OpT.ixRow (j := 4) Tryd.underlying59 ti67 rfl (hy 4 _ rfl rfl) rfl (idx_bd hi375)) rfl <| SegO.op (val := fun p387 => v371) rfl rfl (fun _ => rfl) (fun _ p387 _ hx hf hy => OpT.ldRow (i := 4) (k := a0.2.1.length * 1 + 0) Tryd.underlying67 rfl rfl (hy 4 _ rfl rfl) (hc388 0 _ rfl)) rfl <| SegO.op (val := fun p387 => (.int .i64 a3)) rfl rfl (fun _ => rfl) (fun _ p387 _ hx hf hy => OpT.move rfl) rfl <| SegO.op1s (res := fun p387 => .row (p387 13) 3 1 1 [(.int .i64 a3)]) 0 rfl rfl rfl (fun _ => rfl) (fun _ p387 _ hx hf hy => OpS.buildR1 (v := (.int .i64 a3)) (cs := [(.int .i64 a3)]) 0 Tryd.underlying67 ti3 rfl rfl rfl rfl rfl (hy 0 _ rfl rfl)) rfl (fun _ => ⟨_, _, _, _, rfl⟩) ?_
  refine SegO.op1s (res := fun p387 => .row (p387 14) 3 1 (x369.length + 1) (xs372 ++ [(.int .i64 a3)])) 1 rfl rfl rfl (fun _ => rfl) (fun _ p387 _ hx hf hy => OpS.appR 1 0 Tryd.underlying67 ti3 rfl rfl rfl rfl (hy 1 _ rfl rfl) (hy 0 _ rfl rfl) (ones_cons rfl (ones_nil)) rfl ha389) rfl (fun _ => ⟨_, _, _, _, rfl⟩) <| SegO.op (val := fun p387 => (elemPtr v334 (a0.2.1.length * 1))) rfl rfl (fun _ => rfl) (fun _ p387 _ hx hf hy => OpT.ixRow (j := 4) Tryd.underlying59 ti67 rfl (hy 4 _ rfl rfl) rfl (idx_bd hi375)) rfl <| SegO.op1n (res := fun p387 => .row v334 67 1 (famV (List.set (F0 ++ [(Value.slice none 0 0, [], [])]) (Int.toNat a2) ((p357 14), x339 ++ ([(a0.2.1.length:Int)] : List Int), xs342 ++ [(.int .i64 (a0.2.1.length:Int))]))).length (spl (famV (List.set (F0 ++ [(Value.slice none 0 0, [], [])]) (Int.toNat a2) ((p357 14), x339 ++ ([(a0.2.1.length:Int)] : List Int), xs342 ++ [(.int .i64 (a0.2.1.length:Int))]))) (a0.2.1.length * 1 + 0) [(p387 14)])) 4 rfl rfl rfl (fun _ => rfl) (fun _ p387 _ hx hf hy => OpS.stRowR (k := a0.2.1.length * 1 + 0) (vs := [(p387 14)]) rfl rfl (cellsL (hf 14 rfl rfl)) ti67 rfl rfl (ones_cons (hf 14 rfl rfl) (ones_nil)) (hy 4 _ rfl rfl) (by have h1 : _ = _ * 1 := (FamOk.row hN367).len; have h2 := idx_bd hi375; simp only [List.length_cons, List.length_nil]; omega)) <| SegO.done fun H391 p387 hl392 hF393 => At.sub (L' := [(0, (ptr B0 0)), (5, (ptr B3 0)), (14, (.int .i64 (a0.2.1.length:Int)))]) (.cons rfl (.cons rfl (.cons rfl (.nil)))) ?_
  refine At.own (O := .row (p387 13) 3 1 ([a3] : List Int).length [(.int .i64 a3)] :: .row (p387 14) 3 1 (x369 ++ ([a3] : List Int)).length (xs372 ++ [(.int .i64 a3)]) :: .blk B3 (.cells #[(.int .i64 a1.kind), (w64 (word a1.set 0)), (w64 (word a1.set 1)), (w64 (word a1.set 2)), (w64 (word a1.set 3)), v1] 46 (0, 0)) :: .blk B0 (.cells #[v334, v335, (.int .i64 a0.2.2)] 62 (0, 0)) :: .row v334 67 1 ((famV (List.set (F0 ++ [(Value.slice none 0 0, [], [])]) (Int.toNat a2) ((p357 14), x339 ++ ([(a0.2.1.length:Int)] : List Int), xs342 ++ [(.int .i64 (a0.2.1.length:Int))]))).set a0.2.1.length (p387 14)).length (spl (famV (List.set (F0 ++ [(Value.slice none 0 0, [], [])]) (Int.toNat a2) ((p357 14), x339 ++ ([(a0.2.1.length:Int)] : List Int), xs342 ++ [(.int .i64 (a0.2.1.length:Int))]))) (a0.2.1.length * 1 + 0) [(p387 14)]) :: .row v335 79 1 (famV (G0 ++ [(Value.slice none 0 0, [], [])])).length (famV (G0 ++ [(Value.slice none 0 0, [], [])])) :: (famR 3 1 (List.eraseIdx (List.set (F0 ++ [(Value.slice none 0 0, [], [])]) (Int.toNat a2) ((p357 14), x339 ++ ([(a0.2.1.length:Int)] : List Int), xs342 ++ [(.int .i64 (a0.2.1.length:Int))])) a0.2.1.length) ++ (famR 81 6 (G0 ++ [(Value.slice none 0 0, [], [])]) ++ O))) ?_ (by first | rfl | (simp only [List.length_append, List.length_set]; rfl) | simp)
  have hq395 : LayL cI64 H391 (x369 ++ ([a3] : List Int)) (xs372 ++ [(.int .i64 a3)]) := (LayL.app (hL374.mono hl392) (LayL.sing (c := cI64) (a := a3) (cs := [(.int .i64 a3)]) rfl))
  refine At.rowOne (i := 1) rfl fun ho396 => ?_
  refine At.own (O := .row (p387 13) 3 1 ([a3] : List Int).length [(.int .i64 a3)] :: .row (p387 14) 3 1 (x369 ++ ([a3] : List Int)).length (xs372 ++ [(.int .i64 a3)]) :: .blk B3 (.cells #[(.int .i64 a1.kind), (w64 (word a1.set 0)), (w64 (word a1.set 1)), (w64 (word a1.set 2)), (w64 (word a1.set 3)), v1] 46 (0, 0)) :: .blk B0 (.cells #[v334, v335, (.int .i64 a0.2.2)] 62 (0, 0)) :: .row v334 67 1 (famV (List.set (List.set (F0 ++ [(Value.slice none 0 0, [], [])]) (Int.toNat a2) ((p357 14), x339 ++ ([(a0.2.1.length:Int)] : List Int), xs342 ++ [(.int .i64 (a0.2.1.length:Int))])) a0.2.1.length ((p387 14), x369 ++ ([a3] : List Int), xs372 ++ [(.int .i64 a3)]))).length (famV (List.set (List.set (F0 ++ [(Value.slice none 0 0, [], [])]) (Int.toNat a2) ((p357 14), x339 ++ ([(a0.2.1.length:Int)] : List Int), xs342 ++ [(.int .i64 (a0.2.1.length:Int))])) a0.2.1.length ((p387 14), x369 ++ ([a3] : List Int), xs372 ++ [(.int .i64 a3)]))) :: .row v335 79 1 (famV (G0 ++ [(Value.slice none 0 0, [], [])])).length (famV (G0 ++ [(Value.slice none 0 0, [], [])])) :: (famR 3 1 (List.eraseIdx (List.set (F0 ++ [(Value.slice none 0 0, [], [])]) (Int.toNat a2) ((p357 14), x339 ++ ([(a0.2.1.length:Int)] : List Int), xs342 ++ [(.int .i64 (a0.2.1.length:Int))])) a0.2.1.length) ++ (famR 81 6 (G0 ++ [(Value.slice none 0 0, [], [])]) ++ O))) ?_ (by rw [show spl (famV (List.set (F0 ++ [(Value.slice none 0 0, [], [])]) (Int.toNat a2) ((p357 14), x339 ++ ([(a0.2.1.length:Int)] : List Int), xs342 ++ [(.int .i64 (a0.2.1.length:Int))]))) (a0.2.1.length * 1 + 0) [(p387 14)] = famV (List.set (List.set (F0 ++ [(Value.slice none 0 0, [], [])]) (Int.toNat a2) ((p357 14), x339 ++ ([(a0.2.1.length:Int)] : List Int), xs342 ++ [(.int .i64 (a0.2.1.length:Int))])) a0.2.1.length ((p387 14), x369 ++ ([a3] : List Int), xs372 ++ [(.int .i64 a3)])) from famSpl _ _ _ hf373, show (famV (List.set (F0 ++ [(Value.slice none 0 0, [], [])]) (Int.toNat a2) ((p357 14), x339 ++ ([(a0.2.1.length:Int)] : List Int), xs342 ++ [(.int .i64 (a0.2.1.length:Int))]))).set a0.2.1.length (p387 14) = famV (List.set (List.set (F0 ++ [(Value.slice none 0 0, [], [])]) (Int.toNat a2) ((p357 14), x339 ++ ([(a0.2.1.length:Int)] : List Int), xs342 ++ [(.int .i64 (a0.2.1.length:Int))])) a0.2.1.length ((p387 14), x369 ++ ([a3] : List Int), xs372 ++ [(.int .i64 a3)])) from famSet _ _ _])
  refine At.permK [1, 2, 3, 4, 5] 6 rfl rfl rfl <| At.unlend [.blk B3 (.cells #[(.int .i64 a1.kind), (w64 (word a1.set 0)), (w64 (word a1.set 1)), (w64 (word a1.set 2)), (w64 (word a1.set 3)), v1] 46 (0, 0)), .blk B0 (.cells #[v334, v335, (.int .i64 a0.2.2)] 62 (0, 0)), .row v334 67 1 (famV (List.set (List.set (F0 ++ [(Value.slice none 0 0, [], [])]) (Int.toNat a2) ((p357 14), x339 ++ ([(a0.2.1.length:Int)] : List Int), xs342 ++ [(.int .i64 (a0.2.1.length:Int))])) a0.2.1.length ((p387 14), x369 ++ ([a3] : List Int), xs372 ++ [(.int .i64 a3)]))).length (famV (List.set (List.set (F0 ++ [(Value.slice none 0 0, [], [])]) (Int.toNat a2) ((p357 14), x339 ++ ([(a0.2.1.length:Int)] : List Int), xs342 ++ [(.int .i64 (a0.2.1.length:Int))])) a0.2.1.length ((p387 14), x369 ++ ([a3] : List Int), xs372 ++ [(.int .i64 a3)]))), .row v335 79 1 (famV (G0 ++ [(Value.slice none 0 0, [], [])])).length (famV (G0 ++ [(Value.slice none 0 0, [], [])]))] ((p387 14), x369 ++ ([a3] : List Int), xs372 ++ [(.int .i64 a3)]) hf373 ?_
  have hN397 : FamOk cI64 H391 (List.set (List.set (a0.1 ++ [[]]) (Int.toNat a2) (x339 ++ ([(a0.2.1.length:Int)] : List Int))) a0.2.1.length (x369 ++ ([a3] : List Int))) (List.set (List.set (F0 ++ [(Value.slice none 0 0, [], [])]) (Int.toNat a2) ((p357 14), x339 ++ ([(a0.2.1.length:Int)] : List Int), xs342 ++ [(.int .i64 (a0.2.1.length:Int))])) a0.2.1.length ((p387 14), x369 ++ ([a3] : List Int), xs372 ++ [(.int .i64 a3)])) := FamOk.set (hN367.mono hl392) hq395 ho396
  refine At.then_n ?_
  obtain ⟨x398, hx399, hd⟩ := bnd_some hd
  have hx399_ := idx_bd hx399
  obtain ⟨x404, hx405, hd⟩ := bnd_some hd
  refine Wp.region <| Seg.op (OpT.move rfl) rfl <| Seg.op (OpT.fld (o' := 5) fl46_2 rfl rfl) rfl <| Seg.op (OpT.ldBlk (i := 0) (v := v1) Tryd.underlying44 rfl rfl rfl rfl) rfl ?_
  obtain ⟨_, hz403, hc400⟩ := SlD.get (hv2.mono ((hl333.trans hl362).trans hl392)) hx399
  obtain ⟨v401, rfl, hv402⟩ := layRx.1 hz403
  refine Seg.op (OpT.ixSl Tryd.underlying44 ti46 rfl (hv2.mono ((hl333.trans hl362).trans hl392)).sl rfl (idx_bd hx399)) rfl <| Seg.op (OpT.ldHA (vs := [(.int .i64 x398.kind), (w64 (word x398.set 0)), (w64 (word x398.set 1)), (w64 (word x398.set 2)), (w64 (word x398.set 3)), v401]) Tryd.underlying46 rfl ti46 rfl rfl (fun j u hj => (hc400 j u hj))) rfl <| Seg.op (OpT.move rfl) rfl <| Seg.op (OpT.move rfl) rfl <| Seg.netOut [.blk B3 (.cells #[(.int .i64 a1.kind), (w64 (word a1.set 0)), (w64 (word a1.set 1)), (w64 (word a1.set 2)), (w64 (word a1.set 3)), v1] 46 (0, 0))] <| Seg.opS (OpS.call ent30 rfl (ih (a0 := ((List.set (List.set (a0.1 ++ [[]]) (Int.toNat a2) (x339 ++ ([(a0.2.1.length:Int)] : List Int))) a0.2.1.length (x369 ++ ([a3] : List Int))), (a0.2.1 ++ [[]]), a0.2.2)) hN397 ((hN337.mono hl362).mono hl392) hv402 hx405)) rfl ?_
  rintro _ H406 _ hl407 ⟨v408, v409, F410, G411, rfl, hN412, hN413, rfl⟩
  refine Seg.netIn [.blk B3 (.cells #[(.int .i64 a1.kind), (w64 (word a1.set 0)), (w64 (word a1.set 1)), (w64 (word a1.set 2)), (w64 (word a1.set 3)), v1] 46 (0, 0))] ?_
  refine Seg.own (O := .blk B3 (.cells #[(.int .i64 a1.kind), (w64 (word a1.set 0)), (w64 (word a1.set 1)), (w64 (word a1.set 2)), (w64 (word a1.set 3)), v1] 46 (0, 0)) :: .blk B0 (.cells #[v408, v409, (.int .i64 x404.2.2)] 62 (0, 0)) :: .row v408 67 1 (famV F410).length (famV F410) :: .row v409 79 1 (famV G411).length (famV G411) :: (famR 3 1 F410 ++ (famR 81 6 G411 ++ O))) ?_ rfl
  refine Seg.nil <| At.blk_n ?_
  obtain rfl := Option.some.inj hd
  exact At.res0n rfl (fun w hs => ⟨_, _, _, rfl, (((hl333.trans hl362).trans hl392).trans hl407), (hs.dropN 1), v408, v409, F410, G411, rfl, hN412, hN413, rfl⟩)
 replace hd := brF hb329 hd
 replace hb329 := of_decide_eq_false hb329
 refine Wp.skip <| At.blk_n ?_
 obtain rfl := Option.some.inj hd
 exact At.res0n rfl (fun w hs => ⟨_, _, _, rfl, (Hp.le.refl _), (hs.dropN 1), u1, u2, F0, G0, rfl, hNF, hNG, rfl⟩)

set_option maxRecDepth 100000 in
set_option maxHeartbeats 4000000 in
theorem au_Of_w {fu : Nat} {a0 : Rx} {v1 : Value} {r : (List (Bool × (List (Int × Int × Int)))) × Int} (hv2 : SlD cRx H a0.subs v1) (hG : LaidH Tryd.prog H) (hd : au_Of fu a0 = some r) :
    Tri Tryd.prog 17 [(.agg #[(.int .i64 a0.kind), (w64 (word a0.set 0)), (w64 (word a0.set 1)), (w64 (word a0.set 2)), (w64 (word a0.set 3)), v1])] H O (fun v H' O' => (∃ v76 : Value, (.tuple #[(.agg #[v76]), (.int .i64 r.2)]) = v ∧ SlD (cP cB (cL (cP cU8 (cP cU8 cI64)))) H' r.1 v76) ∧ O = O') := by
 intro w hs
 refine wp_of Tryd.func17 rfl rfl rfl ?_ hs
 clear hs w
 unfold au_Of at hd
 refine Wp.sr <| Seg.box (cs := #[(.int .i64 a0.kind), (w64 (word a0.set 0)), (w64 (word a0.set 1)), (w64 (word a0.set 2)), (w64 (word a0.set 3)), v1]) rfl rfl rfl fun B3 => Seg.alloc (cs := #[(.slice none 0 0)]) ti26 rfl rfl fun B4 => Seg.op (OpT.assign rfl) rfl <| Seg.nilT <| Wp.seq <| Wp.seq ?_
 obtain ⟨x6, hx7, hd⟩ := bnd_some hd
 refine Wp.region <| Seg.op (OpT.ldBlkW (i := 1) Tryd.underlying46 rfl ti46 rfl rfl rfl) rfl <| Seg.op (OpT.call ent28 rfl (rx_Check_w hv2 hx7)) rfl <| Seg.op (OpT.assign rfl) rfl <| Seg.nilT <| Wp.sr <| Seg.op (OpT.move rfl) rfl <| Seg.op (OpT.neq rfl rfl) rfl ?_
 refine Seg.nilT ?_
 refine Wp.cond (b := decide (x6 ≠ 0)) rfl (fun hb8 => ?_) (fun hb8 => ?_)
 ·
  replace hd := brT hb8 hd
  replace hb8 := of_decide_eq_true hb8
  refine Wp.sr <| Seg.op (OpT.buildS (vs := []) (cs := #[(.slice none 0 0)]) plf26 ti26 rfl rfl (vc_nil) rfl) rfl <| Seg.op (OpT.move rfl) rfl <| Seg.stBlkW (i := 0) (cs' := #[(.slice none 0 0)]) rfl rfl ti26 rfl rfl (onesA (ones_cons rfl (ones_nil))) rfl ?_
  refine Seg.own (O := .blk B4 (.cells #[(.slice none 0 0)] 26 (0, 0)) :: .blk B3 (.cells #[(.int .i64 a0.kind), (w64 (word a0.set 0)), (w64 (word a0.set 1)), (w64 (word a0.set 2)), (w64 (word a0.set 3)), v1] 46 (0, 0)) :: O) ?_ rfl
  refine Seg.op (OpT.assign rfl) rfl <| Seg.nilT <| Wp.ret <| At.then_r ?_
  obtain rfl := Option.some.inj hd
  exact At.res2 rfl (RV.cellA (i := 0) rfl Tryd.underlying26 rfl ti26 rfl rfl) (RV.tmp (v := (.int .i64 x6)) rfl) (fun w hs => ⟨_, _, _, rfl, (Hp.le.refl _), (hs.dropN 2), ⟨⟨(.slice none 0 0), rfl, SlD.nil⟩, rfl⟩⟩)
 replace hd := brF hb8 hd
 replace hb8 := of_decide_eq_false hb8
 refine Wp.skip <| At.then_n <| Wp.sr <| Seg.op (OpT.buildS (vs := []) (cs := #[(.slice none 0 0), (.slice none 0 0), (.int .i64 0)]) plf62 ti62 rfl rfl (vc_nil) rfl) rfl <| Seg.box (cs := #[(.slice none 0 0), (.slice none 0 0), (.int .i64 0)]) rfl rfl rfl fun B12 => Seg.op (OpT.assign rfl) rfl <| Seg.nilT <| Wp.seq ?_
 replace hd := chk_some hd; obtain ⟨ha13, hd⟩ := hd
 replace hd := chk_some hd; obtain ⟨ha14, hd⟩ := hd
 replace hd := chk_some hd; obtain ⟨ha21, hd⟩ := hd
 replace hd := chk_some hd; obtain ⟨ha22, hd⟩ := hd
 refine Wp.region <| Seg.op (OpT.move rfl) rfl <| Seg.nilRow 79 1 <| Seg.nilRow 67 1 <| Seg.permK [3, 4, 2, 0, 1] 5 rfl rfl rfl ?_
 refine Seg.own (O := .blk B4 (.cells #[(.slice none 0 0)] 26 (0, 0)) :: .blk B3 (.cells #[(.int .i64 a0.kind), (w64 (word a0.set 0)), (w64 (word a0.set 1)), (w64 (word a0.set 2)), (w64 (word a0.set 3)), v1] 46 (0, 0)) :: .blk B12 (.cells #[(.slice none 0 0), (.slice none 0 0), (.int .i64 0)] 62 (0, 0)) :: .row (.slice none 0 0) 67 1 (famV ([] : Fam Int)).length (famV ([] : Fam Int)) :: .row (.slice none 0 0) 79 1 (famV ([] : Fam (BSet × Int × Int))).length (famV ([] : Fam (BSet × Int × Int))) :: (famR 3 1 ([] : Fam Int) ++ (famR 81 6 ([] : Fam (BSet × Int × Int)) ++ O))) ?_ rfl
 refine Seg.netOut [.blk B4 (.cells #[(.slice none 0 0)] 26 (0, 0)), .blk B3 (.cells #[(.int .i64 a0.kind), (w64 (word a0.set 0)), (w64 (word a0.set 1)), (w64 (word a0.set 2)), (w64 (word a0.set 3)), v1] 46 (0, 0))] <| Seg.opS (OpS.call ent29 rfl (state_w (FamOk.nil (c := cI64) (H := H)) (FamOk.nil (c := cAr) (H := H)) ha13 ha14)) rfl ?_
 rintro _ H15 _ hl16 ⟨v17, v18, rfl, rfl⟩
 refine Seg.netIn [.blk B4 (.cells #[(.slice none 0 0)] 26 (0, 0)), .blk B3 (.cells #[(.int .i64 a0.kind), (w64 (word a0.set 0)), (w64 (word a0.set 1)), (w64 (word a0.set 2)), (w64 (word a0.set 3)), v1] 46 (0, 0))] ?_
 have hN19 := FamOk.mono (FamOk.add (FamOk.nil (c := cI64) (H := H))) hl16; have hN20 := FamOk.mono (FamOk.add (FamOk.nil (c := cAr) (H := H))) hl16
 refine Seg.own (O := .blk B4 (.cells #[(.slice none 0 0)] 26 (0, 0)) :: .blk B3 (.cells #[(.int .i64 a0.kind), (w64 (word a0.set 0)), (w64 (word a0.set 1)), (w64 (word a0.set 2)), (w64 (word a0.set 3)), v1] 46 (0, 0)) :: .blk B12 (.cells #[v17, v18, (.int .i64 0)] 62 (0, 0)) :: .row v17 67 1 (famV (([] : Fam Int) ++ [(Value.slice none 0 0, [], [])])).length (famV (([] : Fam Int) ++ [(Value.slice none 0 0, [], [])])) :: .row v18 79 1 (famV (([] : Fam (BSet × Int × Int)) ++ [(Value.slice none 0 0, [], [])])).length (famV (([] : Fam (BSet × Int × Int)) ++ [(Value.slice none 0 0, [], [])])) :: (famR 3 1 (([] : Fam Int) ++ [(Value.slice none 0 0, [], [])]) ++ (famR 81 6 (([] : Fam (BSet × Int × Int)) ++ [(Value.slice none 0 0, [], [])]) ++ O))) ?_ rfl
 refine Seg.op (OpT.move rfl) rfl <| Seg.netOut [.blk B4 (.cells #[(.slice none 0 0)] 26 (0, 0)), .blk B3 (.cells #[(.int .i64 a0.kind), (w64 (word a0.set 0)), (w64 (word a0.set 1)), (w64 (word a0.set 2)), (w64 (word a0.set 3)), v1] 46 (0, 0))] <| Seg.opS (OpS.call ent29 rfl (state_w hN19 hN20 ha21 ha22)) rfl ?_
 rintro _ H23 _ hl24 ⟨v25, v26, rfl, rfl⟩
 refine Seg.netIn [.blk B4 (.cells #[(.slice none 0 0)] 26 (0, 0)), .blk B3 (.cells #[(.int .i64 a0.kind), (w64 (word a0.set 0)), (w64 (word a0.set 1)), (w64 (word a0.set 2)), (w64 (word a0.set 3)), v1] 46 (0, 0))] ?_
 have hN27 := FamOk.mono (FamOk.add hN19) hl24; have hN28 := FamOk.mono (FamOk.add hN20) hl24
 refine Seg.own (O := .blk B4 (.cells #[(.slice none 0 0)] 26 (0, 0)) :: .blk B3 (.cells #[(.int .i64 a0.kind), (w64 (word a0.set 0)), (w64 (word a0.set 1)), (w64 (word a0.set 2)), (w64 (word a0.set 3)), v1] 46 (0, 0)) :: .blk B12 (.cells #[v25, v26, (.int .i64 0)] 62 (0, 0)) :: .row v25 67 1 (famV ((([] : Fam Int) ++ [(Value.slice none 0 0, [], [])]) ++ [(Value.slice none 0 0, [], [])])).length (famV ((([] : Fam Int) ++ [(Value.slice none 0 0, [], [])]) ++ [(Value.slice none 0 0, [], [])])) :: .row v26 79 1 (famV ((([] : Fam (BSet × Int × Int)) ++ [(Value.slice none 0 0, [], [])]) ++ [(Value.slice none 0 0, [], [])])).length (famV ((([] : Fam (BSet × Int × Int)) ++ [(Value.slice none 0 0, [], [])]) ++ [(Value.slice none 0 0, [], [])])) :: (famR 3 1 ((([] : Fam Int) ++ [(Value.slice none 0 0, [], [])]) ++ [(Value.slice none 0 0, [], [])]) ++ (famR 81 6 ((([] : Fam (BSet × Int × Int)) ++ [(Value.slice none 0 0, [], [])]) ++ [(Value.slice none 0 0, [], [])]) ++ O))) ?_ rfl
 refine Seg.op (OpT.assign rfl) rfl <| Seg.op (OpT.assign rfl) rfl <| Seg.nilT <| Wp.seq ?_
 obtain ⟨x29, hx30, hd⟩ := bnd_some hd
 refine Wp.region <| Seg.op (OpT.move rfl) rfl <| Seg.op (OpT.ldBlkW (i := 1) Tryd.underlying46 rfl ti46 rfl rfl rfl) rfl <| Seg.op (OpT.move rfl) rfl <| Seg.op (OpT.move rfl) rfl <| Seg.netOut [.blk B4 (.cells #[(.slice none 0 0)] 26 (0, 0)), .blk B3 (.cells #[(.int .i64 a0.kind), (w64 (word a0.set 0)), (w64 (word a0.set 1)), (w64 (word a0.set 2)), (w64 (word a0.set 3)), v1] 46 (0, 0))] <| Seg.opS (OpS.call ent30 rfl (au_net_add_w (a0 := (((([] : List (List Int)) ++ [[]]) ++ [[]]), ((([] : List (List (BSet × Int × Int))) ++ [[]]) ++ [[]]), 0)) hN27 hN28 (hv2.mono (hl16.trans hl24)) hx30)) rfl ?_
 rintro _ H31 _ hl32 ⟨v33, v34, F35, G36, rfl, hN37, hN38, rfl⟩
 refine Seg.netIn [.blk B4 (.cells #[(.slice none 0 0)] 26 (0, 0)), .blk B3 (.cells #[(.int .i64 a0.kind), (w64 (word a0.set 0)), (w64 (word a0.set 1)), (w64 (word a0.set 2)), (w64 (word a0.set 3)), v1] 46 (0, 0))] ?_
 refine Seg.own (O := .blk B4 (.cells #[(.slice none 0 0)] 26 (0, 0)) :: .blk B3 (.cells #[(.int .i64 a0.kind), (w64 (word a0.set 0)), (w64 (word a0.set 1)), (w64 (word a0.set 2)), (w64 (word a0.set 3)), v1] 46 (0, 0)) :: .blk B12 (.cells #[v33, v34, (.int .i64 x29.2.2)] 62 (0, 0)) :: .row v33 67 1 (famV F35).length (famV F35) :: .row v34 79 1 (famV G36).length (famV G36) :: (famR 3 1 F35 ++ (famR 81 6 G36 ++ O))) ?_ rfl
 refine Seg.nilT <| Wp.seq <| Wp.seq ?_
 obtain ⟨x55, hx56, hd⟩ := bnd_some hd
 refine Wp.region <| Seg.op (OpT.move rfl) rfl <| Seg.op (OpT.move rfl) rfl <| Seg.freezeFam (c := cI64) [.blk B4 (.cells #[(.slice none 0 0)] 26 (0, 0)), .blk B3 (.cells #[(.int .i64 a0.kind), (w64 (word a0.set 0)), (w64 (word a0.set 1)), (w64 (word a0.set 2)), (w64 (word a0.set 3)), v1] 46 (0, 0)), .blk B12 (.cells #[v33, v34, (.int .i64 x29.2.2)] 62 (0, 0)), .row v33 67 1 (famV F35).length (famV F35), .row v34 79 1 (famV G36).length (famV G36)] hN37 fun H39 hl40 hq41 => Seg.freezeFam (c := cAr) [.blk B4 (.cells #[(.slice none 0 0)] 26 (0, 0)), .blk B3 (.cells #[(.int .i64 a0.kind), (w64 (word a0.set 0)), (w64 (word a0.set 1)), (w64 (word a0.set 2)), (w64 (word a0.set 3)), v1] 46 (0, 0)), .blk B12 (.cells #[v33, v34, (.int .i64 x29.2.2)] 62 (0, 0)), .row v33 67 1 (famV F35).length (famV F35), .row v34 79 1 (famV G36).length (famV G36)] (FamOk.mono hN38 hl40) fun H42 hl43 hq44 => ?_
 refine Seg.own (O := .blk B4 (.cells #[(.slice none 0 0)] 26 (0, 0)) :: .blk B3 (.cells #[(.int .i64 a0.kind), (w64 (word a0.set 0)), (w64 (word a0.set 1)), (w64 (word a0.set 2)), (w64 (word a0.set 3)), v1] 46 (0, 0)) :: .blk B12 (.cells #[v33, v34, (.int .i64 x29.2.2)] 62 (0, 0)) :: .row v33 67 1 x29.1.length (famV F35) :: .row v34 79 1 x29.2.1.length (famV G36) :: O) ?_ (by rw [famV_len hN37, famV_len hN38] <;> rfl)
 refine Seg.rowLe (i := 3) rfl fun hb45 => ?_
 refine Seg.freeze (i := 3) rfl fun H46 hl47 hs48 => ?_
 have hv49 := SlD.of (c := (cL cI64)) hs48 rfl ((hq41.mono hl43).mono hl47) hb45
 refine Seg.rowLe (i := 3) rfl fun hb50 => ?_
 refine Seg.freeze (i := 3) rfl fun H51 hl52 hs53 => ?_
 have hv54 := SlD.of (c := (cL (cP cBs (cP cI64 cI64)))) hs53 rfl ((hq44.mono hl47).mono hl52) hb50
 refine Seg.op (OpT.call ent31 rfl (TriV.at 2 rfl (au_net_many_w (hv49.mono hl52) hv54 (hG.mono ((((((hl16.trans hl24).trans hl32).trans hl40).trans hl43).trans hl47).trans hl52)) hx56))) rfl <| Seg.nilT ?_
 refine Wp.cond (b := x55) rfl (fun hb57 => ?_) (fun hb57 => ?_)
 ·
  replace hd := brT hb57 hd
  refine Wp.sr <| Seg.op (OpT.buildS (vs := []) (cs := #[(.slice none 0 0)]) plf26 ti26 rfl rfl (vc_nil) rfl) rfl <| Seg.stBlkW (i := 0) (cs' := #[(.slice none 0 0)]) rfl rfl ti26 rfl rfl (onesA (ones_cons rfl (ones_nil))) rfl ?_
  refine Seg.own (O := .blk B4 (.cells #[(.slice none 0 0)] 26 (0, 0)) :: .blk B3 (.cells #[(.int .i64 a0.kind), (w64 (word a0.set 0)), (w64 (word a0.set 1)), (w64 (word a0.set 2)), (w64 (word a0.set 3)), v1] 46 (0, 0)) :: .blk B12 (.cells #[v33, v34, (.int .i64 x29.2.2)] 62 (0, 0)) :: O) ?_ rfl
  refine Seg.op (OpT.assign rfl) rfl <| Seg.nilT <| Wp.ret <| At.then_r ?_
  obtain rfl := Option.some.inj hd
  exact At.res2 rfl (RV.cellA (i := 0) rfl Tryd.underlying26 rfl ti26 rfl rfl) (RV.tmp (v := (.int .i64 10)) rfl) (fun w hs => ⟨_, _, _, rfl, ((((((hl16.trans hl24).trans hl32).trans hl40).trans hl43).trans hl47).trans hl52), (hs.dropN 3), ⟨⟨(.slice none 0 0), rfl, SlD.nil⟩, rfl⟩⟩)
 replace hd := brF hb57 hd
 refine Wp.skip <| At.then_n <| Wp.seq ?_
 obtain ⟨x59, hx60, hd⟩ := bnd_some hd
 obtain ⟨x65, hx66, hd⟩ := bnd_some hd
 refine Wp.region <| Seg.op (OpT.move rfl) rfl <| Seg.op (OpT.move rfl) rfl <| Seg.op (OpT.move rfl) rfl <| Seg.opS (OpS.call ent32 rfl (Tri.atR 2 rfl (au_net_determine_w (hv49.mono hl52) hv54 (hG.mono ((((((hl16.trans hl24).trans hl32).trans hl40).trans hl43).trans hl47).trans hl52)) hx60))) rfl ?_
 rintro _ H61 _ hl62 ⟨⟨v63, rfl, hv64⟩, rfl⟩
 refine Seg.opS (OpS.call ent16 rfl (au_Minimal_w hv64 (hG.mono (((((((hl16.trans hl24).trans hl32).trans hl40).trans hl43).trans hl47).trans hl52).trans hl62)) hx66)) rfl ?_
 rintro _ H67 _ hl68 ⟨⟨v69, rfl, hv70⟩, rfl⟩
 refine Seg.op (OpT.move rfl) rfl <| Seg.op (OpT.extract rfl rfl) rfl <| Seg.op (OpT.extract rfl rfl) rfl <| Seg.alloc (cs := #[(.slice none 0 0)]) ti26 rfl rfl fun B71 => Seg.stBlkW (i := 0) (cs' := #[v69]) rfl rfl ti26 rfl rfl (onesA (ones_cons hv70.one (ones_nil))) rfl ?_
 refine Seg.own (O := .blk B71 (.cells #[v69] 26 (0, 0)) :: .blk B4 (.cells #[(.slice none 0 0)] 26 (0, 0)) :: .blk B3 (.cells #[(.int .i64 a0.kind), (w64 (word a0.set 0)), (w64 (word a0.set 1)), (w64 (word a0.set 2)), (w64 (word a0.set 3)), v1] 46 (0, 0)) :: .blk B12 (.cells #[v33, v34, (.int .i64 x29.2.2)] 62 (0, 0)) :: O) ?_ rfl
 refine Seg.op (OpT.assign rfl) rfl <| Seg.nilT <| Wp.seq <| Wp.sr <| Seg.op (OpT.fld (o' := 0) fl26_0 rfl rfl) rfl <| Seg.op (OpT.ldBlk (i := 0) (v := v69) Tryd.underlying22 rfl rfl rfl rfl) rfl ?_
 have hb73 := hv70.le
 refine Seg.op (OpT.len Tryd.underlying22 rfl hv70.sl) rfl <| Seg.op (OpT.gtr rfl rfl) rfl <| Seg.nilT ?_
 refine Wp.cond (b := decide (200 < (x65.1.length:Int))) rfl (fun hb74 => ?_) (fun hb74 => ?_)
 ·
  replace hd := brT hb74 hd
  replace hb74 := of_decide_eq_true hb74
  refine Wp.sr <| Seg.op (OpT.buildS (vs := []) (cs := #[(.slice none 0 0)]) plf26 ti26 rfl rfl (vc_nil) rfl) rfl <| Seg.stBlkW (i := 1) (cs' := #[(.slice none 0 0)]) rfl rfl ti26 rfl rfl (onesA (ones_cons rfl (ones_nil))) rfl ?_
  refine Seg.own (O := .blk B71 (.cells #[v69] 26 (0, 0)) :: .blk B4 (.cells #[(.slice none 0 0)] 26 (0, 0)) :: .blk B3 (.cells #[(.int .i64 a0.kind), (w64 (word a0.set 0)), (w64 (word a0.set 1)), (w64 (word a0.set 2)), (w64 (word a0.set 3)), v1] 46 (0, 0)) :: .blk B12 (.cells #[v33, v34, (.int .i64 x29.2.2)] 62 (0, 0)) :: O) ?_ rfl
  refine Seg.op (OpT.assign rfl) rfl <| Seg.nilT <| Wp.ret <| At.then_r ?_
  obtain rfl := Option.some.inj hd
  exact At.res2 rfl (RV.cellA (i := 1) rfl Tryd.underlying26 rfl ti26 rfl rfl) (RV.tmp (v := (.int .i64 10)) rfl) (fun w hs => ⟨_, _, _, rfl, ((((((((hl16.trans hl24).trans hl32).trans hl40).trans hl43).trans hl47).trans hl52).trans hl62).trans hl68), (hs.dropN 4), ⟨⟨(.slice none 0 0), rfl, SlD.nil⟩, rfl⟩⟩)
 replace hd := brF hb74 hd
 replace hb74 := of_decide_eq_false hb74
 refine Wp.skip <| At.then_n <| Wp.sr <| Seg.op (OpT.ldBlkW (i := 0) Tryd.underlying26 rfl ti26 rfl rfl rfl) rfl <| Seg.stBlkW (i := 1) (cs' := #[v69]) rfl rfl ti26 rfl rfl (onesA (ones_cons hv70.one (ones_nil))) rfl ?_
 refine Seg.own (O := .blk B71 (.cells #[v69] 26 (0, 0)) :: .blk B4 (.cells #[v69] 26 (0, 0)) :: .blk B3 (.cells #[(.int .i64 a0.kind), (w64 (word a0.set 0)), (w64 (word a0.set 1)), (w64 (word a0.set 2)), (w64 (word a0.set 3)), v1] 46 (0, 0)) :: .blk B12 (.cells #[v33, v34, (.int .i64 x29.2.2)] 62 (0, 0)) :: O) ?_ rfl
 refine Seg.op (OpT.assign rfl) rfl <| Seg.nilT <| Wp.ret ?_
 obtain rfl := Option.some.inj hd
 exact At.res2 rfl (RV.cellA (i := 1) rfl Tryd.underlying26 rfl ti26 rfl rfl) (RV.tmp (v := (.int .i64 0)) rfl) (fun w hs => ⟨_, _, _, rfl, ((((((((hl16.trans hl24).trans hl32).trans hl40).trans hl43).trans hl47).trans hl52).trans hl62).trans hl68), (hs.dropN 4), ⟨⟨v69, rfl, hv70⟩, rfl⟩⟩)

set_option maxRecDepth 100000 in
set_option maxHeartbeats 4000000 in
theorem w05_letters_w {fu : Nat} {a0 : Int} {r : Rx} (hr1 : 0 ≤ a0) (hr2 : a0 ≤ 255) (hd : w05_letters fu a0 = some r) :
    Tri Tryd.prog 18 [(.int .u8 a0)] H O (fun v H' O' => (∃ v41 : Value, (.agg #[(.int .i64 r.kind), (w64 (word r.set 0)), (w64 (word r.set 1)), (w64 (word r.set 2)), (w64 (word r.set 3)), v41]) = v ∧ SlD cRx H' r.subs v41) ∧ O = O') := by
 intro w hs
 refine wp_of Tryd.func18 rfl rfl rfl ?_ hs
 clear hs w
 unfold w05_letters at hd
 refine Wp.sr <| Seg.alloc (cs := #[(.int .i64 0), (w64 (word (fun _ => false) 0)), (w64 (word (fun _ => false) 1)), (w64 (word (fun _ => false) 2)), (w64 (word (fun _ => false) 3)), (.slice none 0 0)]) ti46 (by simp only [zw]; rfl) rfl fun B3 => Seg.nilT <| Wp.sr <| Seg.op (OpT.buildS (vs := [(0, (.int .i64 2))]) (cs := #[(.int .i64 2), (w64 (word (fun _ => false) 0)), (w64 (word (fun _ => false) 1)), (w64 (word (fun _ => false) 2)), (w64 (word (fun _ => false) 3)), (.slice none 0 0)]) plf46 ti46 rfl rfl (vc_cons rfl (vc_nil)) (by simp only [zw]; rfl)) rfl <| Seg.alloc (cs := #[(.int .i64 0), (w64 (word (fun _ => false) 0)), (w64 (word (fun _ => false) 1)), (w64 (word (fun _ => false) 2)), (w64 (word (fun _ => false) 3)), (.slice none 0 0)]) ti46 (by simp only [zw]; rfl) rfl fun B6 => Seg.stBlkW (i := 0) (cs' := #[(.int .i64 2), (w64 (word (fun _ => false) 0)), (w64 (word (fun _ => false) 1)), (w64 (word (fun _ => false) 2)), (w64 (word (fun _ => false) 3)), (.slice none 0 0)]) rfl rfl ti46 rfl rfl (onesA (ones_cons rfl (ones_cons rfl (ones_cons rfl (ones_cons rfl (ones_cons rfl (ones_cons rfl (ones_nil)))))))) rfl ?_
 refine Seg.own (O := .blk B6 (.cells #[(.int .i64 2), (w64 (word (fun _ => false) 0)), (w64 (word (fun _ => false) 1)), (w64 (word (fun _ => false) 2)), (w64 (word (fun _ => false) 3)), (.slice none 0 0)] 46 (0, 0)) :: .blk B3 (.cells #[(.int .i64 0), (w64 (word (fun _ => false) 0)), (w64 (word (fun _ => false) 1)), (w64 (word (fun _ => false) 2)), (w64 (word (fun _ => false) 3)), (.slice none 0 0)] 46 (0, 0)) :: O) ?_ rfl
 refine Seg.nilT <| Wp.seq <| Wp.sr <| Seg.op (OpT.assign rfl) rfl <| Seg.nilT <| Wp.block <| Wp.sub (L' := [(0, (.int .u8 a0)), (2, (ptr B3 0)), (3, (ptr B6 0)), (4, (.int .u8 97))]) (.cons rfl (.cons rfl (.cons rfl (.cons rfl (.nil))))) <| Wp.loopE (fun m LL HH OO => ∃ (i26 : Int), ∃ (w28 : BitVec 64), [(0, (.int .u8 a0)), (2, (ptr B3 0)), (3, (ptr B6 0)), (4, (.int .u8 i26))] = LL ∧ .blk B6 (.cells #[(.int .i64 2), (w64 (word (fun _ => false) 0)), (w64 w28), (w64 (word (fun _ => false) 2)), (w64 (word (fun _ => false) 3)), (.slice none 0 0)] 46 (0, 0)) :: .blk B3 (.cells #[(.int .i64 0), (w64 (word (fun _ => false) 0)), (w64 (word (fun _ => false) 1)), (w64 (word (fun _ => false) 2)), (w64 (word (fun _ => false) 3)), (.slice none 0 0)] 46 (0, 0)) :: O = OO ∧ loopK m (fun p nx => w05_letters_b1 fu a0 p.1 p.2 nx) (i26, w28) = some r ∧ 0 ≤ i26 ∧ i26 ≤ 255) fu ⟨97, (word (fun _ => false) 1), rfl, rfl, hd, by omega⟩ ?_
 intro m30 L34 H32 O35 hl33 hI29
 obtain ⟨i26, w28, rfl, rfl, hd, hr27⟩ := hI29
 replace hd := loopK_some hd; obtain ⟨m31, rfl, hd⟩ := hd
 obtain ⟨nx25, hn36⟩ : ∃ f, f = loopK m31 (fun p nx => w05_letters_b1 fu a0 p.1 p.2 nx) := ⟨_, rfl⟩
 rw [← hn36] at hd
 replace hd : w05_letters_b1 fu a0 i26 w28 nx25 = some r := hd
 unfold w05_letters_b1 at hd
 refine Wp.seq <| Wp.seq ?_
 rcases Bool.eq_false_or_eq_true (decide (i26 ≤ a0)) with hg37 | hg37
 ·
  replace hd := brT hg37 hd
  have hg37_ := of_decide_eq_true hg37
  refine Wp.region <| Seg.op (OpT.move rfl) rfl <| Seg.op (OpT.move rfl) rfl <| Seg.op (OpT.asB (b := decide (i26 ≤ a0)) (c := true) (OpT.leq rfl rfl) hg37) rfl <| Seg.op (OpT.move rfl) rfl <| Seg.opG rfl rfl (OpT.move rfl) rfl <| Seg.opG rfl rfl (OpT.lss rfl rfl) rfl <| Seg.op (OpT.pickT rfl rfl) rfl ?_
  refine Seg.nilT ?_
  refine Wp.cond (b := decide (i26 < 104)) rfl (fun hb38 => ?_) (fun hb38 => ?_)
  ·
   replace hd := brT hb38 hd
   replace hb38 := of_decide_eq_true hb38
   refine Wp.skip <| At.then_n <| Wp.seq <| Wp.block ?_
   replace hd := chk_some hd; obtain ⟨ha39, hd⟩ := hd
   refine Wp.region <| Seg.op (OpT.fld (o' := 1) fl46_1 rfl rfl) rfl <| Seg.op (OpT.ixArr (off' := 2) Tryd.underlying43 ti41 rfl rfl (by decide) rfl) rfl <| Seg.op (OpT.ldBlk (i := 0) (v := (w64 w28)) Tryd.underlying41 rfl rfl rfl rfl) rfl <| Seg.op (OpT.move rfl) rfl <| Seg.op (OpT.sub rfl rfl (fitsU8 ha39)) rfl <| Seg.op (OpT.shlI (a := 1#64) rfl rfl (by omega)) rfl <| Seg.op (OpT.addBv (a := w28) (b := (1#64) <<< (i26 - 64).toNat) rfl rfl) rfl ?_
   refine Seg.op (OpT.fld (o' := 1) fl46_1 rfl rfl) rfl <| Seg.op (OpT.ixArr (off' := 2) Tryd.underlying43 ti41 rfl rfl (by decide) rfl) rfl <| Seg.stBlk1 (i := 0) rfl rfl rfl ti41 rfl (Nat.le_of_ble_eq_true rfl) ?_
   refine Seg.own (O := .blk B6 (.cells #[(.int .i64 2), (w64 (word (fun _ => false) 0)), (w64 (w28 + ((1#64) <<< (i26 - 64).toNat))), (w64 (word (fun _ => false) 2)), (w64 (word (fun _ => false) 3)), (.slice none 0 0)] 46 (0, 0)) :: .blk B3 (.cells #[(.int .i64 0), (w64 (word (fun _ => false) 0)), (w64 (word (fun _ => false) 1)), (w64 (word (fun _ => false) 2)), (w64 (word (fun _ => false) 3)), (.slice none 0 0)] 46 (0, 0)) :: O) ?_ rfl
   refine Seg.nil <| At.blk_n <| At.then_n ?_
   replace hd := chk_some hd; obtain ⟨ha40, hd⟩ := hd
   refine Wp.region <| Seg.op (OpT.move rfl) rfl <| Seg.op (OpT.add rfl rfl (fitsU8 ha40)) rfl <| Seg.op (OpT.assign rfl) rfl <| Seg.nil ?_
   refine At.nextE (L' := [(0, (.int .u8 a0)), (2, (ptr B3 0)), (3, (ptr B6 0)), (4, (.int .u8 (i26 + 1)))]) m31 (Nat.lt_succ_self _) (Hp.le.refl _) (.cons rfl (.cons rfl (.cons rfl (.cons rfl (.nil))))) ⟨(i26 + 1), (w28 + ((1#64) <<< (i26 - 64).toNat)), rfl, rfl, (by rw [← hn36]; exact hd), by omega⟩
  replace hd := brF hb38 hd
  replace hb38 := of_decide_eq_false hb38
  refine Wp.exit <| At.then_x <| At.then_x <| At.blk_hit <| At.then_n <| Wp.sr <| Seg.op (OpT.ldBlkW (i := 0) Tryd.underlying46 rfl ti46 rfl rfl rfl) rfl <| Seg.stBlkW (i := 1) (cs' := #[(.int .i64 2), (w64 (word (fun _ => false) 0)), (w64 w28), (w64 (word (fun _ => false) 2)), (w64 (word (fun _ => false) 3)), (.slice none 0 0)]) rfl rfl ti46 rfl rfl (onesA (ones_cons rfl (ones_cons rfl (ones_cons rfl (ones_cons rfl (ones_cons rfl (ones_cons rfl (ones_nil)))))))) rfl ?_
  refine Seg.own (O := .blk B6 (.cells #[(.int .i64 2), (w64 (word (fun _ => false) 0)), (w64 w28), (w64 (word (fun _ => false) 2)), (w64 (word (fun _ => false) 3)), (.slice none 0 0)] 46 (0, 0)) :: .blk B3 (.cells #[(.int .i64 2), (w64 (word (fun _ => false) 0)), (w64 w28), (w64 (word (fun _ => false) 2)), (w64 (word (fun _ => false) 3)), (.slice none 0 0)] 46 (0, 0)) :: O) ?_ rfl
  refine Seg.nilT <| Wp.ret ?_
  obtain rfl := Option.some.inj hd
  exact At.res1 rfl (RV.cellA (i := 1) rfl Tryd.underlying46 rfl ti46 rfl rfl) (fun w hs => ⟨_, _, _, rfl, hl33, (hs.dropN 2), ⟨⟨(.slice none 0 0), (by simp only [Rx.kind, Rx.set, Rx.subs, wbits0, wbits1, wbits2, wbits3]), SlD.nil⟩, rfl⟩⟩)
 replace hd := brF hg37 hd
 have hg37_ := of_decide_eq_false hg37
 refine Wp.region <| Seg.op (OpT.move rfl) rfl <| Seg.op (OpT.move rfl) rfl <| Seg.op (OpT.asB (b := decide (i26 ≤ a0)) (c := false) (OpT.leq rfl rfl) hg37) rfl <| Seg.op (OpT.move rfl) rfl <| Seg.skipG rfl rfl rfl rfl <| Seg.skipG rfl rfl rfl rfl <| Seg.op (OpT.pickF rfl rfl) rfl ?_
 refine Seg.nilT <| Wp.condF rfl <| Wp.exit <| At.then_x <| At.then_x <| At.blk_hit <| At.then_n <| Wp.sr ?_
 refine Seg.op (OpT.ldBlkW (i := 0) Tryd.underlying46 rfl ti46 rfl rfl rfl) rfl <| Seg.stBlkW (i := 1) (cs' := #[(.int .i64 2), (w64 (word (fun _ => false) 0)), (w64 w28), (w64 (word (fun _ => false) 2)), (w64 (word (fun _ => false) 3)), (.slice none 0 0)]) rfl rfl ti46 rfl rfl (onesA (ones_cons rfl (ones_cons rfl (ones_cons rfl (ones_cons rfl (ones_cons rfl (ones_cons rfl (ones_nil)))))))) rfl ?_
 refine Seg.own (O := .blk B6 (.cells #[(.int .i64 2), (w64 (word (fun _ => false) 0)), (w64 w28), (w64 (word (fun _ => false) 2)), (w64 (word (fun _ => false) 3)), (.slice none 0 0)] 46 (0, 0)) :: .blk B3 (.cells #[(.int .i64 2), (w64 (word (fun _ => false) 0)), (w64 w28), (w64 (word (fun _ => false) 2)), (w64 (word (fun _ => false) 3)), (.slice none 0 0)] 46 (0, 0)) :: O) ?_ rfl
 refine Seg.nilT <| Wp.ret ?_
 obtain rfl := Option.some.inj hd
 exact At.res1 rfl (RV.cellA (i := 1) rfl Tryd.underlying46 rfl ti46 rfl rfl) (fun w hs => ⟨_, _, _, rfl, hl33, (hs.dropN 2), ⟨⟨(.slice none 0 0), (by simp only [Rx.kind, Rx.set, Rx.subs, wbits0, wbits1, wbits2, wbits3]), SlD.nil⟩, rfl⟩⟩)
end Go.Proofs.YtjmbmodmepdmjaaDoor
