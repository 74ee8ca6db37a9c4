/- Walks, written by a program. -/
import Derived.Test.YtjmbmodmepdmjaaDoorW1c
namespace Go.Proofs.YtjmbmodmepdmjaaDoor
open Go.GK
variable {H : Hp} {O : List Res}

set_option maxRecDepth 100000 in
set_option maxHeartbeats 4000000 in
theorem w05_AutomatonKeeps_w {fu : Nat} {a0 : List (Bool × (List (Int × Int × Int)))} {a1 : Str} {v1 : Value} {r : Bool} (hv2 : SlD (cP cB (cL (cP cU8 (cP cU8 cI64)))) H a0 v1) (hG : LaidH Tryd.prog H) (hd : w05_AutomatonKeeps fu a0 a1 = some r) :
    TriV Tryd.prog 5 [v1, (sv a1)] H O (.bool r) := by
 intro w hs
 refine wp_of Tryd.func5 rfl rfl rfl ?_ hs
 clear hs w
 unfold w05_AutomatonKeeps at hd
 refine Wp.sr <| Seg.op (OpT.assign rfl) rfl <| Seg.nilT <| Wp.seq <| Wp.seq ?_
 obtain ⟨x3, hx4, hd⟩ := bnd_some hd
 rcases Bool.eq_false_or_eq_true (!x3) with hg5 | hg5
 ·
  replace hd := brT hg5 hd
  refine Wp.region <| Seg.op (OpT.move rfl) rfl <| Seg.op (OpT.call ent6 rfl (w05_few_w hv2 hx4)) rfl <| Seg.op (OpT.asB (b := !x3) (c := true) (OpT.not rfl) hg5) rfl <| Seg.op (OpT.move rfl) rfl <| Seg.skipG rfl rfl rfl rfl <| Seg.skipG rfl rfl rfl rfl <| Seg.skipG rfl rfl rfl rfl ?_
  refine Seg.op (OpT.pickT rfl rfl) rfl <| Seg.nilT <| Wp.condT rfl <| Wp.seq ?_
  obtain ⟨x6, hx7, hd⟩ := bnd_some hd
  refine Wp.region <| Seg.op (OpT.call ent7 rfl (w05_alive_w hG hx7)) rfl <| Seg.op (OpT.assign rfl) rfl <| Seg.nilT <| Wp.ret <| At.then_r ?_
  obtain rfl := Option.some.inj hd
  exact At.res1 rfl (RV.tmp (v := (.bool x6)) rfl) (fun w hs => ⟨rfl, (hs.dropN 0).weaken (Hp.le.refl _)⟩)
 replace hd := brF hg5 hd
 refine Wp.region <| Seg.op (OpT.move rfl) rfl <| Seg.op (OpT.call ent6 rfl (w05_few_w hv2 hx4)) rfl <| Seg.op (OpT.asB (b := !x3) (c := false) (OpT.not rfl) hg5) rfl <| Seg.op (OpT.move rfl) rfl <| Seg.opG rfl rfl (OpT.move rfl) rfl <| Seg.opG rfl rfl (OpT.lenS Tryd.underlying9 rfl) rfl <| Seg.opG rfl rfl (OpT.gtr rfl rfl) rfl ?_
 refine Seg.op (OpT.pickF rfl rfl) rfl <| Seg.nilT ?_
 refine Wp.cond (b := decide (60 < (a1.length:Int))) rfl (fun hb8 => ?_) (fun hb8 => ?_)
 ·
  replace hd := brT hb8 hd
  replace hb8 := of_decide_eq_true hb8
  refine Wp.seq ?_
  obtain ⟨x9, hx10, hd⟩ := bnd_some hd
  refine Wp.region <| Seg.op (OpT.call ent7 rfl (w05_alive_w hG hx10)) rfl <| Seg.op (OpT.assign rfl) rfl <| Seg.nilT <| Wp.ret <| At.then_r ?_
  obtain rfl := Option.some.inj hd
  exact At.res1 rfl (RV.tmp (v := (.bool x9)) rfl) (fun w hs => ⟨rfl, (hs.dropN 0).weaken (Hp.le.refl _)⟩)
 replace hd := brF hb8 hd
 replace hb8 := of_decide_eq_false hb8
 refine Wp.skip <| At.then_n <| Wp.seq ?_
 obtain ⟨x11, hx12, hd⟩ := bnd_some hd
 refine Wp.region <| Seg.op (OpT.move rfl) rfl <| Seg.opS (OpS.call ent16 rfl (au_Minimal_w hv2 hG hx12)) rfl ?_
 rintro _ H13 _ hl14 ⟨⟨v15, rfl, hv16⟩, rfl⟩
 refine Seg.op (OpT.move rfl) rfl <| Seg.op (OpT.extract rfl rfl) rfl <| Seg.op (OpT.extract rfl rfl) rfl <| Seg.alloc (cs := #[(.slice none 0 0)]) ti26 rfl rfl fun B17 => Seg.stBlkW (i := 0) (cs' := #[v15]) rfl rfl ti26 rfl rfl (onesA (ones_cons hv16.one (ones_nil))) rfl ?_
 refine Seg.own (O := .blk B17 (.cells #[v15] 26 (0, 0)) :: O) ?_ rfl
 refine Seg.op (OpT.assign rfl) rfl <| Seg.nilT <| Wp.seq <| Wp.sr <| Seg.op (OpT.move rfl) rfl <| Seg.op (OpT.neq rfl rfl) rfl <| Seg.nilT ?_
 refine Wp.cond (b := decide (x11.2 ≠ 0)) rfl (fun hb19 => ?_) (fun hb19 => ?_)
 ·
  replace hd := brT hb19 hd
  replace hb19 := of_decide_eq_true hb19
  refine Wp.seq ?_
  rcases Bool.eq_false_or_eq_true (decide ((x11.1.length:Int) = 0)) with hg21 | hg21
  ·
   replace hd := brT hg21 hd
   have hg21_ := of_decide_eq_true hg21
   obtain ⟨x23, hx24, hd⟩ := bnd_some hd
   rcases Bool.eq_false_or_eq_true (!x23) with hg25 | hg25
   ·
    replace hd := brT hg25 hd
    obtain ⟨x27, hx28, hd⟩ := bnd_some hd
    refine Wp.region <| Seg.op (OpT.fld (o' := 0) fl26_0 rfl rfl) rfl <| Seg.op (OpT.ldBlk (i := 0) (v := v15) Tryd.underlying22 rfl rfl rfl rfl) rfl ?_
    have hb20 := hv16.le
    refine Seg.op (OpT.len Tryd.underlying22 rfl hv16.sl) rfl <| Seg.op (OpT.asB (b := decide ((x11.1.length:Int) = 0)) (c := true) (OpT.eql rfl rfl) hg21) rfl <| Seg.op (OpT.move rfl) rfl <| Seg.opG rfl rfl (OpT.move rfl) rfl <| Seg.opG rfl rfl (OpT.buildS (vs := [(0, v1)]) (cs := #[v1]) plf26 ti26 rfl rfl (vc_cons (cells1 hv2.one) (vc_nil)) rfl) rfl <| Seg.opG rfl rfl (OpT.move rfl) rfl <| Seg.opG rfl rfl (OpT.call ent8 rfl (au_Accepts_w (hv2.mono hl14) hx24)) rfl <| Seg.opG rfl rfl (OpT.asB (b := !x23) (c := true) (OpT.not rfl) hg25) rfl ?_
    refine Seg.op (OpT.pickT rfl rfl) rfl <| Seg.op (OpT.move rfl) rfl <| Seg.opG rfl rfl (OpT.call ent7 rfl (w05_alive_w (hG.mono hl14) hx28)) rfl <| Seg.op (OpT.pickT rfl rfl) rfl <| Seg.op (OpT.assign rfl) rfl <| Seg.nilT <| Wp.ret <| At.then_r ?_
    obtain rfl := Option.some.inj hd
    exact At.res1 rfl (RV.tmp (v := (.bool x27)) rfl) (fun w hs => ⟨rfl, (hs.dropN 1).weaken hl14⟩)
   replace hd := brF hg25 hd
   refine Wp.region <| Seg.op (OpT.fld (o' := 0) fl26_0 rfl rfl) rfl <| Seg.op (OpT.ldBlk (i := 0) (v := v15) Tryd.underlying22 rfl rfl rfl rfl) rfl ?_
   have hb20 := hv16.le
   refine Seg.op (OpT.len Tryd.underlying22 rfl hv16.sl) rfl <| Seg.op (OpT.asB (b := decide ((x11.1.length:Int) = 0)) (c := true) (OpT.eql rfl rfl) hg21) rfl <| Seg.op (OpT.move rfl) rfl <| Seg.opG rfl rfl (OpT.move rfl) rfl <| Seg.opG rfl rfl (OpT.buildS (vs := [(0, v1)]) (cs := #[v1]) plf26 ti26 rfl rfl (vc_cons (cells1 hv2.one) (vc_nil)) rfl) rfl <| Seg.opG rfl rfl (OpT.move rfl) rfl <| Seg.opG rfl rfl (OpT.call ent8 rfl (au_Accepts_w (hv2.mono hl14) hx24)) rfl <| Seg.opG rfl rfl (OpT.asB (b := !x23) (c := false) (OpT.not rfl) hg25) rfl ?_
   refine Seg.op (OpT.pickT rfl rfl) rfl <| Seg.op (OpT.move rfl) rfl <| Seg.skipG rfl rfl rfl rfl <| Seg.op (OpT.pickF rfl rfl) rfl <| Seg.op (OpT.assign rfl) rfl <| Seg.nilT <| Wp.ret <| At.then_r ?_
   obtain rfl := Option.some.inj hd
   exact At.res1 rfl (RV.tmp (v := (.bool false)) rfl) (fun w hs => ⟨rfl, (hs.dropN 1).weaken hl14⟩)
  replace hd := brF hg21 hd
  have hg21_ := of_decide_eq_false hg21
  refine Wp.region <| Seg.op (OpT.fld (o' := 0) fl26_0 rfl rfl) rfl <| Seg.op (OpT.ldBlk (i := 0) (v := v15) Tryd.underlying22 rfl rfl rfl rfl) rfl ?_
  have hb20 := hv16.le
  refine Seg.op (OpT.len Tryd.underlying22 rfl hv16.sl) rfl <| Seg.op (OpT.asB (b := decide ((x11.1.length:Int) = 0)) (c := false) (OpT.eql rfl rfl) hg21) rfl <| Seg.op (OpT.move rfl) rfl <| Seg.skipG rfl rfl rfl rfl <| Seg.skipG rfl rfl rfl rfl <| Seg.skipG rfl rfl rfl rfl <| Seg.skipG rfl rfl rfl rfl <| Seg.skipG rfl rfl rfl rfl ?_
  refine Seg.op (OpT.pickF rfl rfl) rfl <| Seg.op (OpT.move rfl) rfl <| Seg.skipG rfl rfl rfl rfl <| Seg.op (OpT.pickF rfl rfl) rfl <| Seg.op (OpT.assign rfl) rfl <| Seg.nilT <| Wp.ret <| At.then_r ?_
  obtain rfl := Option.some.inj hd
  exact At.res1 rfl (RV.tmp (v := (.bool false)) rfl) (fun w hs => ⟨rfl, (hs.dropN 1).weaken hl14⟩)
 replace hd := brF hb19 hd
 replace hb19 := of_decide_eq_false hb19
 refine Wp.skip <| At.then_n <| Wp.seq ?_
 obtain ⟨x30, hx31, hd⟩ := bnd_some hd
 refine Wp.region <| Seg.op (OpT.fld (o' := 0) fl26_0 rfl rfl) rfl <| Seg.op (OpT.ldBlk (i := 0) (v := v15) Tryd.underlying22 rfl rfl rfl rfl) rfl <| Seg.opS (OpS.call ent16 rfl (au_Minimal_w hv16 (hG.mono hl14) hx31)) rfl ?_
 rintro _ H32 _ hl33 ⟨⟨v34, rfl, hv35⟩, rfl⟩
 refine Seg.op (OpT.move rfl) rfl <| Seg.op (OpT.extract rfl rfl) rfl <| Seg.op (OpT.extract rfl rfl) rfl <| Seg.alloc (cs := #[(.slice none 0 0)]) ti26 rfl rfl fun B36 => Seg.stBlkW (i := 0) (cs' := #[v34]) rfl rfl ti26 rfl rfl (onesA (ones_cons hv35.one (ones_nil))) rfl ?_
 refine Seg.own (O := .blk B36 (.cells #[v34] 26 (0, 0)) :: .blk B17 (.cells #[v15] 26 (0, 0)) :: O) ?_ rfl
 refine Seg.op (OpT.assign rfl) rfl <| Seg.nilT <| Wp.seq ?_
 obtain ⟨x38, hx39, hd⟩ := bnd_some hd
 obtain ⟨x41, hx42, hd⟩ := bnd_some hd
 rcases Bool.eq_false_or_eq_true (x38 == x41) with hg43 | hg43
 ·
  replace hd := brT hg43 hd
  rcases Bool.eq_false_or_eq_true (decide ((x11.1.length:Int) ≤ (a0.length:Int))) with hg47 | hg47
  ·
   replace hd := brT hg47 hd
   have hg47_ := of_decide_eq_true hg47
   obtain ⟨x49, hx50, hd⟩ := bnd_some hd
   rcases Bool.eq_false_or_eq_true (x49) with hg51 | hg51
   ·
    replace hd := brT hg51 hd
    rcases Bool.eq_false_or_eq_true (decide (x30.2 = 0)) with hg53 | hg53
    ·
     replace hd := brT hg53 hd
     have hg53_ := of_decide_eq_true hg53
     obtain ⟨x55, hx56, hd⟩ := bnd_some hd
     rcases Bool.eq_false_or_eq_true (x55) with hg57 | hg57
     ·
      replace hd := brT hg57 hd
      obtain ⟨x59, hx60, hd⟩ := bnd_some hd
      refine Wp.region <| Seg.op (OpT.ldBlkW (i := 1) Tryd.underlying26 rfl ti26 rfl rfl rfl) rfl <| Seg.op (OpT.move rfl) rfl <| Seg.op (OpT.call ent8 rfl (au_Accepts_w (hv16.mono hl33) hx39)) rfl <| Seg.op (OpT.move rfl) rfl <| Seg.op (OpT.buildS (vs := [(0, v1)]) (cs := #[v1]) plf26 ti26 rfl rfl (vc_cons (cells1 hv2.one) (vc_nil)) rfl) rfl <| Seg.op (OpT.move rfl) rfl <| Seg.op (OpT.call ent8 rfl (au_Accepts_w (hv2.mono (hl14.trans hl33)) hx42)) rfl ?_
      refine Seg.op (OpT.asB (b := x38 == x41) (c := true) (OpT.eqB Tryd.underlying4 rfl rfl) hg43) rfl <| Seg.op (OpT.move rfl) rfl <| Seg.opG rfl rfl (OpT.fld (o' := 0) fl26_0 rfl rfl) rfl <| Seg.opG rfl rfl (OpT.ldBlk (i := 1) (v := v15) Tryd.underlying22 rfl rfl rfl rfl) rfl ?_
      have hb45 := hv16.le
      refine Seg.opG rfl rfl (OpT.len Tryd.underlying22 rfl (hv16.mono hl33).sl) rfl <| Seg.opG rfl rfl (OpT.move rfl) rfl ?_
      have hb46 := hv2.le
      refine Seg.opG rfl rfl (OpT.len Tryd.underlying22 rfl (hv2.mono (hl14.trans hl33)).sl) rfl <| Seg.opG rfl rfl (OpT.asB (b := decide ((x11.1.length:Int) ≤ (a0.length:Int))) (c := true) (OpT.leq rfl rfl) hg47) rfl <| Seg.op (OpT.pickT rfl rfl) rfl <| Seg.op (OpT.move rfl) rfl <| Seg.opG rfl rfl (OpT.ldBlkW (i := 1) Tryd.underlying26 rfl ti26 rfl rfl rfl) rfl <| Seg.opG rfl rfl (OpT.asB (b := x49) (c := true) (OpT.call ent14 rfl (au_Valid_w (hv16.mono hl33) (hG.mono (hl14.trans hl33)) hx50)) hg51) rfl <| Seg.op (OpT.pickT rfl rfl) rfl <| Seg.op (OpT.move rfl) rfl ?_
      refine Seg.opG rfl rfl (OpT.move rfl) rfl <| Seg.opG rfl rfl (OpT.asB (b := decide (x30.2 = 0)) (c := true) (OpT.eql rfl rfl) hg53) rfl <| Seg.op (OpT.pickT rfl rfl) rfl <| Seg.op (OpT.move rfl) rfl <| Seg.opG rfl rfl (OpT.ldBlkW (i := 1) Tryd.underlying26 rfl ti26 rfl rfl rfl) rfl <| Seg.opG rfl rfl (OpT.ldBlkW (i := 0) Tryd.underlying26 rfl ti26 rfl rfl rfl) rfl <| Seg.opG rfl rfl (OpT.asB (b := x55) (c := true) (OpT.call ent10 rfl (au_Same_w (hv16.mono hl33) hv35 hx56)) hg57) rfl <| Seg.op (OpT.pickT rfl rfl) rfl ?_
      refine Seg.op (OpT.move rfl) rfl <| Seg.opG rfl rfl (OpT.call ent7 rfl (w05_alive_w (hG.mono (hl14.trans hl33)) hx60)) rfl <| Seg.op (OpT.pickT rfl rfl) rfl <| Seg.op (OpT.assign rfl) rfl <| Seg.nilT <| Wp.ret ?_
      obtain rfl := Option.some.inj hd
      exact At.res1 rfl (RV.tmp (v := (.bool x59)) rfl) (fun w hs => ⟨rfl, (hs.dropN 2).weaken (hl14.trans hl33)⟩)
     replace hd := brF hg57 hd
     refine Wp.region <| Seg.op (OpT.ldBlkW (i := 1) Tryd.underlying26 rfl ti26 rfl rfl rfl) rfl <| Seg.op (OpT.move rfl) rfl <| Seg.op (OpT.call ent8 rfl (au_Accepts_w (hv16.mono hl33) hx39)) rfl <| Seg.op (OpT.move rfl) rfl <| Seg.op (OpT.buildS (vs := [(0, v1)]) (cs := #[v1]) plf26 ti26 rfl rfl (vc_cons (cells1 hv2.one) (vc_nil)) rfl) rfl <| Seg.op (OpT.move rfl) rfl <| Seg.op (OpT.call ent8 rfl (au_Accepts_w (hv2.mono (hl14.trans hl33)) hx42)) rfl ?_
     refine Seg.op (OpT.asB (b := x38 == x41) (c := true) (OpT.eqB Tryd.underlying4 rfl rfl) hg43) rfl <| Seg.op (OpT.move rfl) rfl <| Seg.opG rfl rfl (OpT.fld (o' := 0) fl26_0 rfl rfl) rfl <| Seg.opG rfl rfl (OpT.ldBlk (i := 1) (v := v15) Tryd.underlying22 rfl rfl rfl rfl) rfl ?_
     have hb45 := hv16.le
     refine Seg.opG rfl rfl (OpT.len Tryd.underlying22 rfl (hv16.mono hl33).sl) rfl <| Seg.opG rfl rfl (OpT.move rfl) rfl ?_
     have hb46 := hv2.le
     refine Seg.opG rfl rfl (OpT.len Tryd.underlying22 rfl (hv2.mono (hl14.trans hl33)).sl) rfl <| Seg.opG rfl rfl (OpT.asB (b := decide ((x11.1.length:Int) ≤ (a0.length:Int))) (c := true) (OpT.leq rfl rfl) hg47) rfl <| Seg.op (OpT.pickT rfl rfl) rfl <| Seg.op (OpT.move rfl) rfl <| Seg.opG rfl rfl (OpT.ldBlkW (i := 1) Tryd.underlying26 rfl ti26 rfl rfl rfl) rfl <| Seg.opG rfl rfl (OpT.asB (b := x49) (c := true) (OpT.call ent14 rfl (au_Valid_w (hv16.mono hl33) (hG.mono (hl14.trans hl33)) hx50)) hg51) rfl <| Seg.op (OpT.pickT rfl rfl) rfl <| Seg.op (OpT.move rfl) rfl ?_
     refine Seg.opG rfl rfl (OpT.move rfl) rfl <| Seg.opG rfl rfl (OpT.asB (b := decide (x30.2 = 0)) (c := true) (OpT.eql rfl rfl) hg53) rfl <| Seg.op (OpT.pickT rfl rfl) rfl <| Seg.op (OpT.move rfl) rfl <| Seg.opG rfl rfl (OpT.ldBlkW (i := 1) Tryd.underlying26 rfl ti26 rfl rfl rfl) rfl <| Seg.opG rfl rfl (OpT.ldBlkW (i := 0) Tryd.underlying26 rfl ti26 rfl rfl rfl) rfl <| Seg.opG rfl rfl (OpT.asB (b := x55) (c := false) (OpT.call ent10 rfl (au_Same_w (hv16.mono hl33) hv35 hx56)) hg57) rfl <| Seg.op (OpT.pickT rfl rfl) rfl ?_
     refine Seg.op (OpT.move rfl) rfl <| Seg.skipG rfl rfl rfl rfl <| Seg.op (OpT.pickF rfl rfl) rfl <| Seg.op (OpT.assign rfl) rfl <| Seg.nilT <| Wp.ret ?_
     obtain rfl := Option.some.inj hd
     exact At.res1 rfl (RV.tmp (v := (.bool false)) rfl) (fun w hs => ⟨rfl, (hs.dropN 2).weaken (hl14.trans hl33)⟩)
    replace hd := brF hg53 hd
    have hg53_ := of_decide_eq_false hg53
    refine Wp.region <| Seg.op (OpT.ldBlkW (i := 1) Tryd.underlying26 rfl ti26 rfl rfl rfl) rfl <| Seg.op (OpT.move rfl) rfl <| Seg.op (OpT.call ent8 rfl (au_Accepts_w (hv16.mono hl33) hx39)) rfl <| Seg.op (OpT.move rfl) rfl <| Seg.op (OpT.buildS (vs := [(0, v1)]) (cs := #[v1]) plf26 ti26 rfl rfl (vc_cons (cells1 hv2.one) (vc_nil)) rfl) rfl <| Seg.op (OpT.move rfl) rfl <| Seg.op (OpT.call ent8 rfl (au_Accepts_w (hv2.mono (hl14.trans hl33)) hx42)) rfl ?_
    refine Seg.op (OpT.asB (b := x38 == x41) (c := true) (OpT.eqB Tryd.underlying4 rfl rfl) hg43) rfl <| Seg.op (OpT.move rfl) rfl <| Seg.opG rfl rfl (OpT.fld (o' := 0) fl26_0 rfl rfl) rfl <| Seg.opG rfl rfl (OpT.ldBlk (i := 1) (v := v15) Tryd.underlying22 rfl rfl rfl rfl) rfl ?_
    have hb45 := hv16.le
    refine Seg.opG rfl rfl (OpT.len Tryd.underlying22 rfl (hv16.mono hl33).sl) rfl <| Seg.opG rfl rfl (OpT.move rfl) rfl ?_
    have hb46 := hv2.le
    refine Seg.opG rfl rfl (OpT.len Tryd.underlying22 rfl (hv2.mono (hl14.trans hl33)).sl) rfl <| Seg.opG rfl rfl (OpT.asB (b := decide ((x11.1.length:Int) ≤ (a0.length:Int))) (c := true) (OpT.leq rfl rfl) hg47) rfl <| Seg.op (OpT.pickT rfl rfl) rfl <| Seg.op (OpT.move rfl) rfl <| Seg.opG rfl rfl (OpT.ldBlkW (i := 1) Tryd.underlying26 rfl ti26 rfl rfl rfl) rfl <| Seg.opG rfl rfl (OpT.asB (b := x49) (c := true) (OpT.call ent14 rfl (au_Valid_w (hv16.mono hl33) (hG.mono (hl14.trans hl33)) hx50)) hg51) rfl <| Seg.op (OpT.pickT rfl rfl) rfl <| Seg.op (OpT.move rfl) rfl ?_
    refine Seg.opG rfl rfl (OpT.move rfl) rfl <| Seg.opG rfl rfl (OpT.asB (b := decide (x30.2 = 0)) (c := false) (OpT.eql rfl rfl) hg53) rfl <| Seg.op (OpT.pickT rfl rfl) rfl <| Seg.op (OpT.move rfl) rfl <| Seg.skipG rfl rfl rfl rfl <| Seg.skipG rfl rfl rfl rfl <| Seg.skipG rfl rfl rfl rfl <| Seg.op (OpT.pickF rfl rfl) rfl ?_
    refine Seg.op (OpT.move rfl) rfl <| Seg.skipG rfl rfl rfl rfl <| Seg.op (OpT.pickF rfl rfl) rfl <| Seg.op (OpT.assign rfl) rfl <| Seg.nilT <| Wp.ret ?_
    obtain rfl := Option.some.inj hd
    exact At.res1 rfl (RV.tmp (v := (.bool false)) rfl) (fun w hs => ⟨rfl, (hs.dropN 2).weaken (hl14.trans hl33)⟩)
   replace hd := brF hg51 hd
   refine Wp.region <| Seg.op (OpT.ldBlkW (i := 1) Tryd.underlying26 rfl ti26 rfl rfl rfl) rfl <| Seg.op (OpT.move rfl) rfl <| Seg.op (OpT.call ent8 rfl (au_Accepts_w (hv16.mono hl33) hx39)) rfl <| Seg.op (OpT.move rfl) rfl <| Seg.op (OpT.buildS (vs := [(0, v1)]) (cs := #[v1]) plf26 ti26 rfl rfl (vc_cons (cells1 hv2.one) (vc_nil)) rfl) rfl <| Seg.op (OpT.move rfl) rfl <| Seg.op (OpT.call ent8 rfl (au_Accepts_w (hv2.mono (hl14.trans hl33)) hx42)) rfl ?_
   refine Seg.op (OpT.asB (b := x38 == x41) (c := true) (OpT.eqB Tryd.underlying4 rfl rfl) hg43) rfl <| Seg.op (OpT.move rfl) rfl <| Seg.opG rfl rfl (OpT.fld (o' := 0) fl26_0 rfl rfl) rfl <| Seg.opG rfl rfl (OpT.ldBlk (i := 1) (v := v15) Tryd.underlying22 rfl rfl rfl rfl) rfl ?_
   have hb45 := hv16.le
   refine Seg.opG rfl rfl (OpT.len Tryd.underlying22 rfl (hv16.mono hl33).sl) rfl <| Seg.opG rfl rfl (OpT.move rfl) rfl ?_
   have hb46 := hv2.le
   refine Seg.opG rfl rfl (OpT.len Tryd.underlying22 rfl (hv2.mono (hl14.trans hl33)).sl) rfl <| Seg.opG rfl rfl (OpT.asB (b := decide ((x11.1.length:Int) ≤ (a0.length:Int))) (c := true) (OpT.leq rfl rfl) hg47) rfl <| Seg.op (OpT.pickT rfl rfl) rfl <| Seg.op (OpT.move rfl) rfl <| Seg.opG rfl rfl (OpT.ldBlkW (i := 1) Tryd.underlying26 rfl ti26 rfl rfl rfl) rfl <| Seg.opG rfl rfl (OpT.asB (b := x49) (c := false) (OpT.call ent14 rfl (au_Valid_w (hv16.mono hl33) (hG.mono (hl14.trans hl33)) hx50)) hg51) rfl <| Seg.op (OpT.pickT rfl rfl) rfl <| Seg.op (OpT.move rfl) rfl ?_
   refine Seg.skipG rfl rfl rfl rfl <| Seg.skipG rfl rfl rfl rfl <| Seg.op (OpT.pickF rfl rfl) rfl <| Seg.op (OpT.move rfl) rfl <| Seg.skipG rfl rfl rfl rfl <| Seg.skipG rfl rfl rfl rfl <| Seg.skipG rfl rfl rfl rfl <| Seg.op (OpT.pickF rfl rfl) rfl ?_
   refine Seg.op (OpT.move rfl) rfl <| Seg.skipG rfl rfl rfl rfl <| Seg.op (OpT.pickF rfl rfl) rfl <| Seg.op (OpT.assign rfl) rfl <| Seg.nilT <| Wp.ret ?_
   obtain rfl := Option.some.inj hd
   exact At.res1 rfl (RV.tmp (v := (.bool false)) rfl) (fun w hs => ⟨rfl, (hs.dropN 2).weaken (hl14.trans hl33)⟩)
  replace hd := brF hg47 hd
  have hg47_ := of_decide_eq_false hg47
  refine Wp.region <| Seg.op (OpT.ldBlkW (i := 1) Tryd.underlying26 rfl ti26 rfl rfl rfl) rfl <| Seg.op (OpT.move rfl) rfl <| Seg.op (OpT.call ent8 rfl (au_Accepts_w (hv16.mono hl33) hx39)) rfl <| Seg.op (OpT.move rfl) rfl <| Seg.op (OpT.buildS (vs := [(0, v1)]) (cs := #[v1]) plf26 ti26 rfl rfl (vc_cons (cells1 hv2.one) (vc_nil)) rfl) rfl <| Seg.op (OpT.move rfl) rfl <| Seg.op (OpT.call ent8 rfl (au_Accepts_w (hv2.mono (hl14.trans hl33)) hx42)) rfl ?_
  refine Seg.op (OpT.asB (b := x38 == x41) (c := true) (OpT.eqB Tryd.underlying4 rfl rfl) hg43) rfl <| Seg.op (OpT.move rfl) rfl <| Seg.opG rfl rfl (OpT.fld (o' := 0) fl26_0 rfl rfl) rfl <| Seg.opG rfl rfl (OpT.ldBlk (i := 1) (v := v15) Tryd.underlying22 rfl rfl rfl rfl) rfl ?_
  have hb45 := hv16.le
  refine Seg.opG rfl rfl (OpT.len Tryd.underlying22 rfl (hv16.mono hl33).sl) rfl <| Seg.opG rfl rfl (OpT.move rfl) rfl ?_
  have hb46 := hv2.le
  refine Seg.opG rfl rfl (OpT.len Tryd.underlying22 rfl (hv2.mono (hl14.trans hl33)).sl) rfl <| Seg.opG rfl rfl (OpT.asB (b := decide ((x11.1.length:Int) ≤ (a0.length:Int))) (c := false) (OpT.leq rfl rfl) hg47) rfl <| Seg.op (OpT.pickT rfl rfl) rfl <| Seg.op (OpT.move rfl) rfl <| Seg.skipG rfl rfl rfl rfl <| Seg.skipG rfl rfl rfl rfl <| Seg.op (OpT.pickF rfl rfl) rfl <| Seg.op (OpT.move rfl) rfl ?_
  refine Seg.skipG rfl rfl rfl rfl <| Seg.skipG rfl rfl rfl rfl <| Seg.op (OpT.pickF rfl rfl) rfl <| Seg.op (OpT.move rfl) rfl <| Seg.skipG rfl rfl rfl rfl <| Seg.skipG rfl rfl rfl rfl <| Seg.skipG rfl rfl rfl rfl <| Seg.op (OpT.pickF rfl rfl) rfl ?_
  refine Seg.op (OpT.move rfl) rfl <| Seg.skipG rfl rfl rfl rfl <| Seg.op (OpT.pickF rfl rfl) rfl <| Seg.op (OpT.assign rfl) rfl <| Seg.nilT <| Wp.ret ?_
  obtain rfl := Option.some.inj hd
  exact At.res1 rfl (RV.tmp (v := (.bool false)) rfl) (fun w hs => ⟨rfl, (hs.dropN 2).weaken (hl14.trans hl33)⟩)
 replace hd := brF hg43 hd
 refine Wp.region <| Seg.op (OpT.ldBlkW (i := 1) Tryd.underlying26 rfl ti26 rfl rfl rfl) rfl <| Seg.op (OpT.move rfl) rfl <| Seg.op (OpT.call ent8 rfl (au_Accepts_w (hv16.mono hl33) hx39)) rfl <| Seg.op (OpT.move rfl) rfl <| Seg.op (OpT.buildS (vs := [(0, v1)]) (cs := #[v1]) plf26 ti26 rfl rfl (vc_cons (cells1 hv2.one) (vc_nil)) rfl) rfl <| Seg.op (OpT.move rfl) rfl <| Seg.op (OpT.call ent8 rfl (au_Accepts_w (hv2.mono (hl14.trans hl33)) hx42)) rfl ?_
 refine Seg.op (OpT.asB (b := x38 == x41) (c := false) (OpT.eqB Tryd.underlying4 rfl rfl) hg43) rfl <| Seg.op (OpT.move rfl) rfl <| Seg.skipG rfl rfl rfl rfl <| Seg.skipG rfl rfl rfl rfl <| Seg.skipG rfl rfl rfl rfl <| Seg.skipG rfl rfl rfl rfl <| Seg.skipG rfl rfl rfl rfl <| Seg.skipG rfl rfl rfl rfl ?_
 refine Seg.op (OpT.pickF rfl rfl) rfl <| Seg.op (OpT.move rfl) rfl <| Seg.skipG rfl rfl rfl rfl <| Seg.skipG rfl rfl rfl rfl <| Seg.op (OpT.pickF rfl rfl) rfl <| Seg.op (OpT.move rfl) rfl <| Seg.skipG rfl rfl rfl rfl <| Seg.skipG rfl rfl rfl rfl ?_
 refine Seg.op (OpT.pickF rfl rfl) rfl <| Seg.op (OpT.move rfl) rfl <| Seg.skipG rfl rfl rfl rfl <| Seg.skipG rfl rfl rfl rfl <| Seg.skipG rfl rfl rfl rfl <| Seg.op (OpT.pickF rfl rfl) rfl <| Seg.op (OpT.move rfl) rfl <| Seg.skipG rfl rfl rfl rfl ?_
 refine Seg.op (OpT.pickF rfl rfl) rfl <| Seg.op (OpT.assign rfl) rfl <| Seg.nilT <| Wp.ret ?_
 obtain rfl := Option.some.inj hd
 exact At.res1 rfl (RV.tmp (v := (.bool false)) rfl) (fun w hs => ⟨rfl, (hs.dropN 2).weaken (hl14.trans hl33)⟩)
end Go.Proofs.YtjmbmodmepdmjaaDoor
