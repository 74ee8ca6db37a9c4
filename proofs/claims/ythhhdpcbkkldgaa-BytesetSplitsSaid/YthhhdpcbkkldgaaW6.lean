/- Walks, written by a program (gen.py), one law an operation. -/
import Derived.Test.YthhhdpcbkkldgaaW5
import Derived.Test.YthhhdpcbkkldgaaLaws2
namespace Go.Proofs.Ythhhdpcbkkldgaa
open Go.GK
variable {H : Hp} {O : List Res}

set_option maxHeartbeats 4000000 in
theorem l_counts (p : St) :
    TriV Try.prog 6 [(.agg (bcs p))] H O (.bool true) := by
  intro w hs
  refine wp_of Try.func6 rfl rfl rfl ?_ hs
  clear hs w
  refine Wp.seq ?_
  refine Wp.region ?_
  refine Seg.box (cs := bcs p) rfl rfl rfl fun Ba => ?_
  refine Seg.op (OpT.assign rfl) rfl ?_
  refine Seg.nil ?_
  refine At.then_n ?_
  refine Wp.seq ?_
  refine Wp.region ?_
  refine Seg.op (OpT.ldBlkW (i := 0) Try.underlying24 rfl ti24 rfl rfl rfl) rfl ?_
  refine Seg.opS (OpS.call ent23 rfl (list_w p)) rfl ?_
  rintro v1 H2 O3 hle4 hr5
  obtain ⟨hq, hr5⟩ := hr5
  subst O3
  have hle := listTo_len p 256
  refine Seg.op (OpT.assign rfl) rfl ?_
  refine Seg.nil ?_
  refine At.then_n ?_
  refine Wp.seq ?_
  refine Wp.region ?_
  refine Seg.op (OpT.ldBlkW (i := 0) Try.underlying24 rfl ti24 rfl rfl rfl) rfl ?_
  refine Seg.op (OpT.call ent24 rfl (least_w p)) rfl ?_
  refine Seg.op (OpT.move rfl) rfl ?_
  refine Seg.op (OpT.extract rfl rfl) rfl ?_
  refine Seg.op (OpT.extract rfl rfl) rfl ?_
  refine Seg.op (OpT.assign rfl) rfl ?_
  refine Seg.op (OpT.assign rfl) rfl ?_
  refine Seg.nil ?_
  refine At.then_n ?_
  refine Wp.seq ?_
  refine Wp.seq ?_
  refine Wp.region ?_
  refine Seg.op (OpT.move rfl) rfl ?_
  refine Seg.op (OpT.lenImm Try.underlying33 rfl hr5) rfl ?_
  refine Seg.op (OpT.eql rfl rfl) rfl ?_
  refine Seg.nil ?_
  refine At.then_n ?_
  refine Wp.cond (b := decide ((((listTo p 256).length : Nat) : Int) = 0)) rfl (fun hb6 => ?_) (fun hb6 => ?_)
  ·
    replace hb6 := of_decide_eq_true hb6
    refine Wp.seq ?_
    have hz : (listTo p 256).length = 0 := (by omega)
    refine Wp.region ?_
    refine Seg.op (OpT.ldBlkW (i := 0) Try.underlying24 rfl ti24 rfl rfl rfl) rfl ?_
    refine Seg.op (OpT.call ent25 rfl (len_w p)) rfl ?_
    refine Seg.op (OpT.asB (b := decide ((((cntTo p 256) : Nat) : Int) = 0)) (c := true) (OpT.eql rfl rfl) (decide_eq_true (by rw [cntTo_eq, hz]; rfl))) rfl ?_
    refine Seg.op (OpT.move rfl) rfl ?_
    refine Seg.opG rfl rfl (OpT.move rfl) rfl ?_
    refine Seg.opG rfl rfl (OpT.asB (b := decide (((lst p : Nat) : Int) = 0)) (c := true) (OpT.eql rfl rfl) (decide_eq_true (by rw [(list_none p hz).1]; rfl))) rfl ?_
    refine Seg.op (OpT.pickT rfl rfl) rfl ?_
    refine Seg.op (OpT.move rfl) rfl ?_
    refine Seg.opG rfl rfl (OpT.move rfl) rfl ?_
    refine Seg.opG rfl rfl (OpT.asB (b := !(anyS p)) (c := true) (OpT.not rfl) (by rw [(list_none p hz).2]; rfl)) rfl ?_
    refine Seg.op (OpT.pickT rfl rfl) rfl ?_
    refine Seg.op (OpT.move rfl) rfl ?_
    refine Seg.opG rfl rfl (OpT.call ent14 rfl (awake_w)) rfl ?_
    refine Seg.op (OpT.pickT rfl rfl) rfl ?_
    refine Seg.op (OpT.assign rfl) rfl ?_
    refine Seg.nil ?_
    refine At.then_n ?_
    refine Wp.ret ?_
    refine At.then_r ?_
    refine At.res1 rfl (RV.tmp (v := (.bool (true))) rfl) ?_
    exact fun w hs => ⟨rfl, (hs.dropN 1).weaken hle4⟩
  ·
    replace hb6 := of_decide_eq_false hb6
    refine Wp.skip ?_
    refine At.then_n ?_
    refine Wp.seq ?_
    have hz := cntTo_pos p (by assumption)
    have hl := lst_lt p
    refine Wp.region ?_
    refine Seg.op (OpT.ldBlkW (i := 0) Try.underlying24 rfl ti24 rfl rfl rfl) rfl ?_
    refine Seg.op (OpT.call ent25 rfl (len_w p)) rfl ?_
    refine Seg.op (OpT.move rfl) rfl ?_
    refine Seg.op (OpT.lenImm Try.underlying33 rfl hr5) rfl ?_
    refine Seg.op (OpT.asB (b := decide ((((cntTo p 256) : Nat) : Int) = (((listTo p 256).length : Nat) : Int))) (c := true) (OpT.eql rfl rfl) (decide_eq_true (by rw [cntTo_eq]))) rfl ?_
    refine Seg.op (OpT.move rfl) rfl ?_
    refine Seg.opG rfl rfl (OpT.move rfl) rfl ?_
    refine Seg.opG rfl rfl (OpT.conv Try.underlying5 Try.underlying3 rfl (fits64 (by omega))) rfl ?_
    refine Seg.opG rfl rfl (OpT.move rfl) rfl ?_
    refine Seg.opG rfl rfl (OpT.ixImm Try.underlying33 ti3 rfl hr5 rfl (by omega)) rfl ?_
    refine Seg.opG rfl rfl (OpT.ldImm  (k := 0) (u := (.int .i64 ((((lst p) : Nat) : Int)))) Try.underlying3 rfl rfl hr5 (listTo_cell p hz)) rfl ?_
    refine Seg.opG rfl rfl (OpT.asB (b := decide (((lst p : Nat) : Int) = (((lst p) : Nat) : Int))) (c := true) (OpT.eql rfl rfl) (decide_eq_true rfl)) rfl ?_
    refine Seg.op (OpT.pickT rfl rfl) rfl ?_
    refine Seg.op (OpT.move rfl) rfl ?_
    refine Seg.opG rfl rfl (OpT.cast (v' := (.bool (true))) (OpT.move rfl) (congrArg Value.bool (list_some p hz).2)) rfl ?_
    refine Seg.op (OpT.pickT rfl rfl) rfl ?_
    refine Seg.op (OpT.move rfl) rfl ?_
    refine Seg.opG rfl rfl (OpT.call ent14 rfl (awake_w)) rfl ?_
    refine Seg.op (OpT.pickT rfl rfl) rfl ?_
    refine Seg.op (OpT.assign rfl) rfl ?_
    refine Seg.nil ?_
    refine At.then_n ?_
    refine Wp.ret ?_
    refine At.res1 rfl (RV.tmp (v := (.bool (true))) rfl) ?_
    exact fun w hs => ⟨rfl, (hs.dropN 1).weaken hle4⟩

set_option maxHeartbeats 4000000 in
theorem l_ranges (p : St) :
    TriV Try.prog 7 [(.agg (bcs p))] H O (.bool true) := by
  intro w hs
  refine wp_of Try.func7 rfl rfl rfl ?_ hs
  clear hs w
  refine Wp.seq ?_
  refine Wp.region ?_
  refine Seg.box (cs := bcs p) rfl rfl rfl fun Ba => ?_
  refine Seg.op (OpT.assign rfl) rfl ?_
  refine Seg.nil ?_
  refine At.then_n ?_
  refine Wp.seq ?_
  refine Wp.draw 6 follows rfl (by kernel_rfl) ?_
  refine SegL.op Hp.le.refl (fun H' hx => OpT.ldBlkW (i := 0) Try.underlying24 rfl ti24 rfl rfl rfl) rfl ?_
  refine SegL.opP (S := fun H v => Sl H v 2 (rgTo p 256).length ((rgTo p 256).flatMap encB)) (fun _ _ _ h hx => hx.mono h) (fun H' hx => OpP.call ent26 rfl (ranges_w p)) rfl ?_
  refine SegL.op Hp.le.refl (fun H' hx => OpT.ldBlkW (i := 0) Try.underlying24 rfl ti24 rfl rfl rfl) rfl ?_
  refine SegL.opP (S := fun H v => Sl H v 2 (rgTo p 256).length ((rgTo p 256).flatMap encZ)) (fun _ _ _ h hx => hx.mono h) (fun H' hx => OpP.call ent27 rfl ((rg_rr p).symm ▸ rranges_w p)) rfl ?_
  refine SegL.assignS (t := 7) Hp.le.refl (fun _ _ _ h hx => hx.mono h) rfl rfl ?_
  refine SegL.assignS (t := 9) Hp.le.refl (fun _ _ _ h hx => hx.mono h) rfl rfl ?_
  refine SegL.done fun H1 hle2 => ?_
  refine EndL.is (t := 2) (v := (.bool (false))) rfl ?_
  refine EndL.sat (t := 3) rfl fun v3 h4 => ?_
  refine EndL.sat (t := 4) rfl fun v5 h6 => ?_
  refine EndL.seg ?_
  refine Seg.nil ?_
  refine At.then_n ?_
  refine Wp.seq ?_
  refine Wp.seq ?_
  have hle := rg_len p
  refine Wp.region ?_
  refine Seg.op (OpT.move rfl) rfl ?_
  refine Seg.op (OpT.lenImm Try.underlying39 rfl h4) rfl ?_
  refine Seg.op (OpT.move rfl) rfl ?_
  refine Seg.op (OpT.lenImm Try.underlying41 rfl h6) rfl ?_
  refine Seg.op (OpT.asB (b := decide ((((rgTo p 256).length : Nat) : Int) ≠ (((rgTo p 256).length : Nat) : Int))) (c := false) (OpT.neq rfl rfl) (by simp)) rfl ?_
  refine Seg.nil ?_
  refine At.then_n ?_
  refine Wp.condF rfl ?_
  refine Wp.skip ?_
  refine At.then_n ?_
  refine Wp.seq ?_
  refine Wp.seq ?_
  refine Wp.region ?_
  refine Seg.op (OpT.assign rfl) rfl ?_
  refine Seg.nil ?_
  refine At.then_n ?_
  refine Wp.block ?_
  refine Wp.loop (X := Nat) (fun i => [(5, (.int .i64 (((i : Nat) : Int)))), (3, v3), (4, v5)]) (fun i => .blk Ba (.cells (bcs p) 24 (0, 0)) :: O) (fun i H' => i ≤ (rgTo p 256).length) (fun i => (rgTo p 256).length - i) 0 ?_ ?_ ?_ ?_
  · exact (by omega)
  · exact .cons (rfl) (.cons (rfl) (.cons (rfl) (.nil)))
  · exact (rfl)
  intro i H7 hle8 hi9
  have hi := hi9
  refine Wp.seq ?_
  refine Wp.seq ?_
  refine Wp.region ?_
  refine Seg.op (OpT.move rfl) rfl ?_
  refine Seg.op (OpT.move rfl) rfl ?_
  refine Seg.op (OpT.lenImm Try.underlying39 rfl (h4.mono hle8)) rfl ?_
  refine Seg.op (OpT.lss rfl rfl) rfl ?_
  refine Seg.nil ?_
  refine At.then_n ?_
  refine Wp.cond (b := decide (((i : Nat) : Int) < (((rgTo p 256).length : Nat) : Int))) rfl (fun hb10 => ?_) (fun hb10 => ?_)
  ·
    replace hb10 := of_decide_eq_true hb10
    refine Wp.skip ?_
    refine At.then_n ?_
    refine Wp.seq ?_
    refine Wp.block ?_
    refine Wp.seq ?_
    have hb := rg_pr p i (by omega)
    refine Wp.drawE 26 follows rfl (by kernel_rfl) ?_
    refine SegL.opE (OpT.move rfl) rfl ?_
    refine SegL.opE (OpT.move rfl) rfl ?_
    refine SegL.opE (OpT.ixImm Try.underlying39 ti43 rfl (h4.mono hle8) rfl (by omega)) rfl ?_
    refine SegL.opE (OpT.ixArrImm (j := i * 2) Try.underlying43 ti5 rfl (h4.mono hle8) (by omega) rfl (by omega)) rfl ?_
    refine SegL.opE (OpT.ldImm  (k := i * 2 + 0) (u := (.int .u8 ((((pr (rgTo p 256) (i)).1 : Nat) : Int)))) Try.underlying5 rfl rfl (h4.mono hle8) (pr_b0 (rgTo p 256) (i) (by omega))) rfl ?_
    refine SegL.opE (OpT.conv Try.underlying5 Try.underlying3 rfl (fits64 (by omega))) rfl ?_
    refine SegL.opE (OpT.move rfl) rfl ?_
    refine SegL.opE (OpT.move rfl) rfl ?_
    refine SegL.opE (OpT.ixImm Try.underlying41 ti44 rfl (h6.mono hle8) rfl (by omega)) rfl ?_
    refine SegL.opE (OpT.ixArrImm (j := i * 2) Try.underlying44 ti3 rfl (h6.mono hle8) (by omega) rfl (by omega)) rfl ?_
    refine SegL.opE (OpT.ldImm  (k := i * 2 + 0) (u := (.int .i64 ((((pr (rgTo p 256) (i)).1 : Nat) : Int)))) Try.underlying3 rfl rfl (h6.mono hle8) (pr_z0 (rgTo p 256) (i) (by omega))) rfl ?_
    refine SegL.opE (OpT.asB (b := decide ((((pr (rgTo p 256) (i)).1 : Nat) : Int) ≠ (((pr (rgTo p 256) (i)).1 : Nat) : Int))) (c := false) (OpT.neq rfl rfl) (by simp)) rfl ?_
    refine SegL.opE (OpT.move rfl) rfl ?_
    refine SegL.opGE rfl rfl (OpT.move rfl) rfl ?_
    refine SegL.opGE rfl rfl (OpT.move rfl) rfl ?_
    refine SegL.opGE rfl rfl (OpT.ixImm Try.underlying39 ti43 rfl (h4.mono hle8) rfl (by omega)) rfl ?_
    refine SegL.opGE rfl rfl (OpT.ixArrImm (j := i * 2) Try.underlying43 ti5 rfl (h4.mono hle8) (by omega) rfl (by omega)) rfl ?_
    refine SegL.opGE rfl rfl (OpT.ldImm  (k := i * 2 + 1) (u := (.int .u8 ((((pr (rgTo p 256) (i)).2 : Nat) : Int)))) Try.underlying5 rfl rfl (h4.mono hle8) (pr_b1 (rgTo p 256) (i) (by omega))) rfl ?_
    refine SegL.opGE rfl rfl (OpT.conv Try.underlying5 Try.underlying3 rfl (fits64 (by omega))) rfl ?_
    refine SegL.opGE rfl rfl (OpT.move rfl) rfl ?_
    refine SegL.opGE rfl rfl (OpT.move rfl) rfl ?_
    refine SegL.opGE rfl rfl (OpT.ixImm Try.underlying41 ti44 rfl (h6.mono hle8) rfl (by omega)) rfl ?_
    refine SegL.opGE rfl rfl (OpT.ixArrImm (j := i * 2) Try.underlying44 ti3 rfl (h6.mono hle8) (by omega) rfl (by omega)) rfl ?_
    refine SegL.opGE rfl rfl (OpT.ldImm  (k := i * 2 + 1) (u := (.int .i64 ((((pr (rgTo p 256) (i)).2 : Nat) : Int)))) Try.underlying3 rfl rfl (h6.mono hle8) (pr_z1 (rgTo p 256) (i) (by omega))) rfl ?_
    refine SegL.opGE rfl rfl (OpT.asB (b := decide ((((pr (rgTo p 256) (i)).2 : Nat) : Int) ≠ (((pr (rgTo p 256) (i)).2 : Nat) : Int))) (c := false) (OpT.neq rfl rfl) (by simp)) rfl ?_
    refine SegL.opE (OpT.pickF rfl rfl) rfl ?_
    refine SegL.doneE ?_
    refine EndL.is (t := 5) (v := (.int .i64 (((i : Nat) : Int)))) rfl ?_
    refine EndL.is (t := 3) (v := v3) rfl ?_
    refine EndL.is (t := 4) (v := v5) rfl ?_
    refine EndL.is (t := 15) (v := (.int .i64 (((i : Nat) : Int)))) rfl ?_
    refine EndL.is (t := 16) (v := v3) rfl ?_
    refine EndL.is (t := 17) (v := (.int .i64 ((((rgTo p 256).length : Nat) : Int)))) rfl ?_
    refine EndL.is (t := 18) (v := (.bool (decide (((i : Nat) : Int) < (((rgTo p 256).length : Nat) : Int))))) rfl ?_
    refine EndL.is (t := 21) (v := v3) rfl ?_
    refine EndL.is (t := 22) (v := (.int .i64 (((i : Nat) : Int)))) rfl ?_
    refine EndL.is (t := 23) (v := (elemPtr v3 (i * 2))) rfl ?_
    refine EndL.is (t := 24) (v := (elemPtr v3 (i * 2 + 0))) rfl ?_
    refine EndL.is (t := 25) (v := (.int .u8 ((((pr (rgTo p 256) (i)).1 : Nat) : Int)))) rfl ?_
    refine EndL.is (t := 26) (v := (.int .i64 ((((pr (rgTo p 256) (i)).1 : Nat) : Int)))) rfl ?_
    refine EndL.is (t := 27) (v := v5) rfl ?_
    refine EndL.is (t := 28) (v := (.int .i64 (((i : Nat) : Int)))) rfl ?_
    refine EndL.is (t := 29) (v := (elemPtr v5 (i * 2))) rfl ?_
    refine EndL.is (t := 30) (v := (elemPtr v5 (i * 2 + 0))) rfl ?_
    refine EndL.is (t := 31) (v := (.int .i64 ((((pr (rgTo p 256) (i)).1 : Nat) : Int)))) rfl ?_
    refine EndL.is (t := 32) (v := (.bool (false))) rfl ?_
    refine EndL.is (t := 33) (v := (.bool (false))) rfl ?_
    refine EndL.is (t := 34) (v := v3) rfl ?_
    refine EndL.is (t := 35) (v := (.int .i64 (((i : Nat) : Int)))) rfl ?_
    refine EndL.is (t := 36) (v := (elemPtr v3 (i * 2))) rfl ?_
    refine EndL.is (t := 37) (v := (elemPtr v3 (i * 2 + 1))) rfl ?_
    refine EndL.is (t := 38) (v := (.int .u8 ((((pr (rgTo p 256) (i)).2 : Nat) : Int)))) rfl ?_
    refine EndL.is (t := 39) (v := (.int .i64 ((((pr (rgTo p 256) (i)).2 : Nat) : Int)))) rfl ?_
    refine EndL.is (t := 40) (v := v5) rfl ?_
    refine EndL.is (t := 41) (v := (.int .i64 (((i : Nat) : Int)))) rfl ?_
    refine EndL.is (t := 42) (v := (elemPtr v5 (i * 2))) rfl ?_
    refine EndL.is (t := 43) (v := (elemPtr v5 (i * 2 + 1))) rfl ?_
    refine EndL.is (t := 44) (v := (.int .i64 ((((pr (rgTo p 256) (i)).2 : Nat) : Int)))) rfl ?_
    refine EndL.is (t := 45) (v := (.bool (false))) rfl ?_
    refine EndL.is (t := 46) (v := (.bool (false))) rfl ?_
    refine EndL.seg ?_
    refine Seg.nil ?_
    refine At.then_n ?_
    refine Wp.condF rfl ?_
    refine Wp.skip ?_
    refine At.blk_n ?_
    refine At.then_n ?_
    refine Wp.region ?_
    refine Seg.op (OpT.move rfl) rfl ?_
    refine Seg.op (OpT.add rfl rfl (fits64 (by omega))) rfl ?_
    refine Seg.op (OpT.assign rfl) rfl ?_
    refine Seg.nil ?_
    refine At.next (i + 1) (Hp.le.refl _) ?_ ?_ ?_ ?_
    · exact (by omega)
    · exact .cons (rfl) (.cons (rfl) (.cons (rfl) (.nil)))
    · exact (rfl)
    · exact (by (try dsimp only); omega)
  ·
    replace hb10 := of_decide_eq_false hb10
    refine Wp.exit ?_
    refine At.then_x ?_
    refine At.then_x ?_
    refine At.blk_hit ?_
    refine At.then_n ?_
    refine Wp.seq ?_
    refine Wp.region ?_
    refine Seg.op (OpT.call ent14 rfl (awake_w)) rfl ?_
    refine Seg.op (OpT.assign rfl) rfl ?_
    refine Seg.nil ?_
    refine At.then_n ?_
    refine Wp.ret ?_
    refine At.res1 rfl (RV.tmp (v := (.bool (true))) rfl) ?_
    exact fun w hs => ⟨rfl, (hs.dropN 1).weaken (hle2.trans hle8)⟩

set_option maxHeartbeats 4000000 in
theorem l_parts (l : List St) (v : Value) (hl : Sl H v 4 l.length (l.flatMap bcl)) :
    TriV Try.prog 8 [v] H O (.bool true) := by
  intro w hs
  refine wp_of Try.func8 rfl rfl rfl ?_ hs
  clear hs w
  refine Wp.seq ?_
  refine Wp.region ?_
  refine Seg.op (OpT.assign rfl) rfl ?_
  refine Seg.nil ?_
  refine At.then_n ?_
  refine Wp.seq ?_
  refine Wp.seq ?_
  refine Wp.region ?_
  refine Seg.op (OpT.move rfl) rfl ?_
  refine Seg.op (OpT.lenImm Try.underlying45 rfl hl) rfl ?_
  refine Seg.op (OpT.gtr rfl rfl) rfl ?_
  refine Seg.nil ?_
  refine At.then_n ?_
  refine Wp.cond (b := decide (12 < ((l.length : Nat) : Int))) rfl (fun hb1 => ?_) (fun hb1 => ?_)
  ·
    replace hb1 := of_decide_eq_true hb1
    refine Wp.seq ?_
    refine Wp.region ?_
    refine Seg.op (OpT.call ent14 rfl (awake_w)) rfl ?_
    refine Seg.op (OpT.assign rfl) rfl ?_
    refine Seg.nil ?_
    refine At.then_n ?_
    refine Wp.ret ?_
    refine At.then_r ?_
    refine At.res1 rfl (RV.tmp (v := (.bool (true))) rfl) ?_
    exact fun w hs => ⟨rfl, (hs.dropN 0).weaken (Hp.le.refl _)⟩
  ·
    replace hb1 := of_decide_eq_false hb1
    refine Wp.skip ?_
    refine At.then_n ?_
    refine Wp.seq ?_
    have hn : l.length ≤ 4294967296 := (by omega)
    refine Wp.region ?_
    refine Seg.op (OpT.move rfl) rfl ?_
    refine Seg.opS (OpS.call ent29 rfl (part_w l v hl hn)) rfl ?_
    rintro v2 H3 O4 hle5 hr6
    obtain ⟨hq, hr6⟩ := hr6
    subst O4
    refine Seg.op (OpT.move rfl) rfl ?_
    refine Seg.opS (OpS.call ent30 rfl (rpart_w l v (hl.mono hle5) hn)) rfl ?_
    rintro v7 H8 O9 hle10 hr11
    obtain ⟨hq, hr11⟩ := hr11
    subst O9
    refine Seg.op (OpT.call ent28 rfl (same_w (partsOf l) (rpartsOf l) v2 v7 (hr6.mono hle10) hr11 (Nat.le_trans (parts_len l) (by omega)) (same_parts l))) rfl ?_
    refine Seg.op (OpT.move rfl) rfl ?_
    refine Seg.opG rfl rfl (OpT.call ent14 rfl (awake_w)) rfl ?_
    refine Seg.op (OpT.pickT rfl rfl) rfl ?_
    refine Seg.op (OpT.assign rfl) rfl ?_
    refine Seg.nil ?_
    refine At.then_n ?_
    refine Wp.ret ?_
    refine At.res1 rfl (RV.tmp (v := (.bool (true))) rfl) ?_
    exact fun w hs => ⟨rfl, (hs.dropN 0).weaken (hle5.trans hle10)⟩

set_option maxHeartbeats 4000000 in
theorem l_unites (p : St) :
    TriV Try.prog 10 [(.agg (bcs p))] H O (.bool true) := by
  intro w hs
  refine wp_of Try.func10 rfl rfl rfl ?_ hs
  clear hs w
  refine Wp.seq ?_
  refine Wp.region ?_
  refine Seg.box (cs := bcs p) rfl rfl rfl fun Ba => ?_
  refine Seg.op (OpT.assign rfl) rfl ?_
  refine Seg.nil ?_
  refine At.then_n ?_
  refine Wp.seq ?_
  refine Wp.region ?_
  refine Seg.op (OpT.ldBlkW (i := 0) Try.underlying24 rfl ti24 rfl rfl rfl) rfl ?_
  refine Seg.opS (OpS.call ent26 rfl (ranges_w p)) rfl ?_
  rintro v1 H2 O3 hle4 hr5
  obtain ⟨hq, hr5⟩ := hr5
  subst O3
  have hle := rg_len p
  refine Seg.op (OpT.assign rfl) rfl ?_
  refine Seg.nil ?_
  refine At.then_n ?_
  refine Wp.seq ?_
  refine Wp.region ?_
  refine Seg.op (OpT.cast (OpT.buildA (ps := []) Try.underlying24 ti24 ti22 rfl rfl rfl) (congrArg Value.agg bcs_empty)) rfl ?_
  refine Seg.alloc (cs := bcs (fun _ => false)) ti24 bcs_empty rfl fun Bu => ?_
  refine Seg.stBlkW (i := 0) (cs' := (bcs (fun _ => false))) rfl rfl ti24 rfl rfl (bcs_one _) rfl ?_
  refine Seg.nil ?_
  refine At.then_n ?_
  refine Wp.seq ?_
  refine Wp.region ?_
  refine Seg.op (OpT.assign rfl) rfl ?_
  refine Seg.nil ?_
  refine At.then_n ?_
  refine Wp.seq ?_
  refine Wp.seq ?_
  refine Wp.region ?_
  refine Seg.op (OpT.assign rfl) rfl ?_
  refine Seg.nil ?_
  refine At.then_n ?_
  refine Wp.block ?_
  refine Wp.loop (X := Nat) (fun i => [(6, (.int .i64 (((i : Nat) : Int)))), (5, (.int .i64 ((((rgN (rgTo p 256) i) : Nat) : Int)))), (1, (ptr Ba (0))), (3, v1), (4, (ptr Bu (0)))]) (fun i => .blk Bu (.cells (bcs (rgU (rgTo p 256) i)) 24 (0, 0)) :: .blk Ba (.cells (bcs p) 24 (0, 0)) :: O) (fun i H' => i ≤ (rgTo p 256).length) (fun i => (rgTo p 256).length - i) 0 ?_ ?_ ?_ ?_
  · exact (by omega)
  · exact .cons (rfl) (.cons (lk_int rfl (by rw [rgN_zero]; rfl)) (.cons (rfl) (.cons (rfl) (.cons (rfl) (.nil)))))
  · exact (by first | rfl | (rw [← rgU_zero]; done) | (rw [← rgU_zero]; rfl))
  intro i H6 hle7 hi8
  have hi := hi8
  refine Wp.seq ?_
  refine Wp.seq ?_
  refine Wp.region ?_
  refine Seg.op (OpT.move rfl) rfl ?_
  refine Seg.op (OpT.move rfl) rfl ?_
  refine Seg.op (OpT.lenImm Try.underlying39 rfl (hr5.mono hle7)) rfl ?_
  refine Seg.op (OpT.lss rfl rfl) rfl ?_
  refine Seg.nil ?_
  refine At.then_n ?_
  refine Wp.cond (b := decide (((i : Nat) : Int) < (((rgTo p 256).length : Nat) : Int))) rfl (fun hb9 => ?_) (fun hb9 => ?_)
  ·
    replace hb9 := of_decide_eq_true hb9
    refine Wp.skip ?_
    refine At.then_n ?_
    refine Wp.seq ?_
    refine Wp.block ?_
    refine Wp.seq ?_
    refine Wp.seq ?_
    by_cases h0 : 0 < i
    ·
      have hb := rg_pr p i (by omega)
      have hg : i = 0 ∨ (pr (rgTo p 256) (i - 1)).2 < 256 := (Nat.eq_zero_or_pos i).imp id fun h => (rg_pr p (i - 1) (by omega)).2
      refine Wp.drawE 32 follows rfl (by kernel_rfl) ?_
      refine SegL.opE (OpT.move rfl) rfl ?_
      refine SegL.opE (OpT.move rfl) rfl ?_
      refine SegL.opE (OpT.ixImm Try.underlying39 ti43 rfl (hr5.mono hle7) rfl (by omega)) rfl ?_
      refine SegL.opE (OpT.ixArrImm (j := i * 2) Try.underlying43 ti5 rfl (hr5.mono hle7) (by omega) rfl (by omega)) rfl ?_
      refine SegL.opE (OpT.ldImm  (k := i * 2 + 0) (u := (.int .u8 ((((pr (rgTo p 256) (i)).1 : Nat) : Int)))) Try.underlying5 rfl rfl (hr5.mono hle7) (pr_b0 (rgTo p 256) (i) (by omega))) rfl ?_
      refine SegL.opE (OpT.move rfl) rfl ?_
      refine SegL.opE (OpT.move rfl) rfl ?_
      refine SegL.opE (OpT.ixImm Try.underlying39 ti43 rfl (hr5.mono hle7) rfl (by omega)) rfl ?_
      refine SegL.opE (OpT.ixArrImm (j := i * 2) Try.underlying43 ti5 rfl (hr5.mono hle7) (by omega) rfl (by omega)) rfl ?_
      refine SegL.opE (OpT.ldImm  (k := i * 2 + 1) (u := (.int .u8 ((((pr (rgTo p 256) (i)).2 : Nat) : Int)))) Try.underlying5 rfl rfl (hr5.mono hle7) (pr_b1 (rgTo p 256) (i) (by omega))) rfl ?_
      refine SegL.opE (OpT.asB (b := decide ((((pr (rgTo p 256) (i)).2 : Nat) : Int) < (((pr (rgTo p 256) (i)).1 : Nat) : Int))) (c := false) (OpT.gtr rfl rfl) (decide_eq_false (by omega))) rfl ?_
      refine SegL.opE (OpT.move rfl) rfl ?_
      refine SegL.opGE rfl rfl (OpT.move rfl) rfl ?_
      refine SegL.opGE rfl rfl (OpT.asB (b := decide (0 < ((i : Nat) : Int))) (c := true) (OpT.gtr rfl rfl) (decide_eq_true (by omega))) rfl ?_
      refine SegL.opGE rfl rfl (OpT.move rfl) rfl ?_
      refine SegL.opGE rfl rfl (OpT.move rfl) rfl ?_
      refine SegL.opGE rfl rfl (OpT.move rfl) rfl ?_
      refine SegL.opGE rfl rfl (OpT.ixImm Try.underlying39 ti43 rfl (hr5.mono hle7) rfl (by omega)) rfl ?_
      refine SegL.opGE rfl rfl (OpT.ixArrImm (j := i * 2) Try.underlying43 ti5 rfl (hr5.mono hle7) (by omega) rfl (by omega)) rfl ?_
      refine SegL.opGE rfl rfl (OpT.ldImm  (k := i * 2 + 0) (u := (.int .u8 ((((pr (rgTo p 256) (i)).1 : Nat) : Int)))) Try.underlying5 rfl rfl (hr5.mono hle7) (pr_b0 (rgTo p 256) (i) (by omega))) rfl ?_
      refine SegL.opGE rfl rfl (OpT.conv Try.underlying5 Try.underlying3 rfl (fits64 (by omega))) rfl ?_
      refine SegL.opGE rfl rfl (OpT.move rfl) rfl ?_
      refine SegL.opGE rfl rfl (OpT.move rfl) rfl ?_
      refine SegL.opGE rfl rfl (OpT.cast (v' := (.int .i64 ((((i - 1) : Nat) : Int)))) (OpT.sub rfl rfl (fits64 (by omega))) (congrArg (Value.int .i64) (by omega))) rfl ?_
      refine SegL.opGE rfl rfl (OpT.ixImm Try.underlying39 ti43 rfl (hr5.mono hle7) rfl (by omega)) rfl ?_
      refine SegL.opGE rfl rfl (OpT.ixArrImm (j := (i - 1) * 2) Try.underlying43 ti5 rfl (hr5.mono hle7) (by omega) rfl (by omega)) rfl ?_
      refine SegL.opGE rfl rfl (OpT.ldImm  (k := (i - 1) * 2 + 1) (u := (.int .u8 ((((pr (rgTo p 256) (i - 1)).2 : Nat) : Int)))) Try.underlying5 rfl rfl (hr5.mono hle7) (pr_b1 (rgTo p 256) (i - 1) (by omega))) rfl ?_
      refine SegL.opGE rfl rfl (OpT.conv Try.underlying5 Try.underlying3 rfl (fits64 (by omega))) rfl ?_
      refine SegL.opGE rfl rfl (OpT.add rfl rfl (fits64 (by omega))) rfl ?_
      refine SegL.opGE rfl rfl (OpT.asB (b := decide ((((pr (rgTo p 256) (i)).1 : Nat) : Int) < ((((pr (rgTo p 256) (i - 1)).2 : Nat) : Int) + 2))) (c := false) (OpT.lss rfl rfl) (decide_eq_false (by have := rg_gap p i (by omega) (by omega); omega))) rfl ?_
      refine SegL.opGE rfl rfl (OpT.pickT rfl rfl) rfl ?_
      refine SegL.opE (OpT.pickF rfl rfl) rfl ?_
      refine SegL.doneE ?_
      refine EndL.is (t := 6) (v := (.int .i64 (((i : Nat) : Int)))) rfl ?_
      refine EndL.is (t := 5) (v := (.int .i64 ((((rgN (rgTo p 256) i) : Nat) : Int)))) rfl ?_
      refine EndL.is (t := 1) (v := (ptr Ba (0))) rfl ?_
      refine EndL.is (t := 3) (v := v1) rfl ?_
      refine EndL.is (t := 4) (v := (ptr Bu (0))) rfl ?_
      refine EndL.is (t := 10) (v := (.int .i64 (((i : Nat) : Int)))) rfl ?_
      refine EndL.is (t := 11) (v := v1) rfl ?_
      refine EndL.is (t := 12) (v := (.int .i64 ((((rgTo p 256).length : Nat) : Int)))) rfl ?_
      refine EndL.is (t := 13) (v := (.bool (decide (((i : Nat) : Int) < (((rgTo p 256).length : Nat) : Int))))) rfl ?_
      refine EndL.is (t := 16) (v := v1) rfl ?_
      refine EndL.is (t := 17) (v := (.int .i64 (((i : Nat) : Int)))) rfl ?_
      refine EndL.is (t := 18) (v := (elemPtr v1 (i * 2))) rfl ?_
      refine EndL.is (t := 19) (v := (elemPtr v1 (i * 2 + 0))) rfl ?_
      refine EndL.is (t := 20) (v := (.int .u8 ((((pr (rgTo p 256) (i)).1 : Nat) : Int)))) rfl ?_
      refine EndL.is (t := 21) (v := v1) rfl ?_
      refine EndL.is (t := 22) (v := (.int .i64 (((i : Nat) : Int)))) rfl ?_
      refine EndL.is (t := 23) (v := (elemPtr v1 (i * 2))) rfl ?_
      refine EndL.is (t := 24) (v := (elemPtr v1 (i * 2 + 1))) rfl ?_
      refine EndL.is (t := 25) (v := (.int .u8 ((((pr (rgTo p 256) (i)).2 : Nat) : Int)))) rfl ?_
      refine EndL.is (t := 26) (v := (.bool (false))) rfl ?_
      refine EndL.is (t := 27) (v := (.bool (false))) rfl ?_
      refine EndL.is (t := 28) (v := (.int .i64 (((i : Nat) : Int)))) rfl ?_
      refine EndL.is (t := 29) (v := (.bool (true))) rfl ?_
      refine EndL.is (t := 30) (v := (.bool (true))) rfl ?_
      refine EndL.is (t := 31) (v := v1) rfl ?_
      refine EndL.is (t := 32) (v := (.int .i64 (((i : Nat) : Int)))) rfl ?_
      refine EndL.is (t := 33) (v := (elemPtr v1 (i * 2))) rfl ?_
      refine EndL.is (t := 34) (v := (elemPtr v1 (i * 2 + 0))) rfl ?_
      refine EndL.is (t := 35) (v := (.int .u8 ((((pr (rgTo p 256) (i)).1 : Nat) : Int)))) rfl ?_
      refine EndL.is (t := 36) (v := (.int .i64 ((((pr (rgTo p 256) (i)).1 : Nat) : Int)))) rfl ?_
      refine EndL.is (t := 37) (v := v1) rfl ?_
      refine EndL.is (t := 38) (v := (.int .i64 (((i : Nat) : Int)))) rfl ?_
      refine EndL.is (t := 39) (v := (.int .i64 ((((i - 1) : Nat) : Int)))) rfl ?_
      refine EndL.is (t := 40) (v := (elemPtr v1 ((i - 1) * 2))) rfl ?_
      refine EndL.is (t := 41) (v := (elemPtr v1 ((i - 1) * 2 + 1))) rfl ?_
      refine EndL.is (t := 42) (v := (.int .u8 ((((pr (rgTo p 256) (i - 1)).2 : Nat) : Int)))) rfl ?_
      refine EndL.is (t := 43) (v := (.int .i64 ((((pr (rgTo p 256) (i - 1)).2 : Nat) : Int)))) rfl ?_
      refine EndL.is (t := 44) (v := (.int .i64 ((((pr (rgTo p 256) (i - 1)).2 : Nat) : Int) + 2))) rfl ?_
      refine EndL.is (t := 45) (v := (.bool (false))) rfl ?_
      refine EndL.is (t := 46) (v := (.bool (false))) rfl ?_
      refine EndL.is (t := 47) (v := (.bool (false))) rfl ?_
      refine EndL.seg ?_
      refine Seg.nil ?_
      refine At.then_n ?_
      refine Wp.condF rfl ?_
      refine Wp.skip ?_
      refine At.then_n ?_
      refine Wp.seq ?_
      have hb := rg_pr p i (by omega)
      refine Wp.drawE 13 follows rfl (by kernel_rfl) ?_
      refine SegL.opE (OpT.ldBlkW (i := 0) Try.underlying24 rfl ti24 rfl rfl rfl) rfl ?_
      refine SegL.opE (OpT.move rfl) rfl ?_
      refine SegL.opE (OpT.move rfl) rfl ?_
      refine SegL.opE (OpT.ixImm Try.underlying39 ti43 rfl (hr5.mono hle7) rfl (by omega)) rfl ?_
      refine SegL.opE (OpT.ixArrImm (j := i * 2) Try.underlying43 ti5 rfl (hr5.mono hle7) (by omega) rfl (by omega)) rfl ?_
      refine SegL.opE (OpT.ldImm  (k := i * 2 + 0) (u := (.int .u8 ((((pr (rgTo p 256) (i)).1 : Nat) : Int)))) Try.underlying5 rfl rfl (hr5.mono hle7) (pr_b0 (rgTo p 256) (i) (by omega))) rfl ?_
      refine SegL.opE (OpT.move rfl) rfl ?_
      refine SegL.opE (OpT.move rfl) rfl ?_
      refine SegL.opE (OpT.ixImm Try.underlying39 ti43 rfl (hr5.mono hle7) rfl (by omega)) rfl ?_
      refine SegL.opE (OpT.ixArrImm (j := i * 2) Try.underlying43 ti5 rfl (hr5.mono hle7) (by omega) rfl (by omega)) rfl ?_
      refine SegL.opE (OpT.ldImm  (k := i * 2 + 1) (u := (.int .u8 ((((pr (rgTo p 256) (i)).2 : Nat) : Int)))) Try.underlying5 rfl rfl (hr5.mono hle7) (pr_b1 (rgTo p 256) (i) (by omega))) rfl ?_
      refine SegL.opE (OpT.call ent12 rfl (of_w ((pr (rgTo p 256) (i)).1) ((pr (rgTo p 256) (i)).2) (by omega) (by omega))) rfl ?_
      refine SegL.opE (OpT.call ent17 rfl (or_w (rgU (rgTo p 256) i) (ofP ((pr (rgTo p 256) (i)).1) ((pr (rgTo p 256) (i)).2)))) rfl ?_
      refine SegL.doneE ?_
      refine EndL.is (t := 6) (v := (.int .i64 (((i : Nat) : Int)))) rfl ?_
      refine EndL.is (t := 5) (v := (.int .i64 ((((rgN (rgTo p 256) i) : Nat) : Int)))) rfl ?_
      refine EndL.is (t := 1) (v := (ptr Ba (0))) rfl ?_
      refine EndL.is (t := 3) (v := v1) rfl ?_
      refine EndL.is (t := 4) (v := (ptr Bu (0))) rfl ?_
      refine EndL.is (t := 10) (v := (.int .i64 (((i : Nat) : Int)))) rfl ?_
      refine EndL.is (t := 11) (v := v1) rfl ?_
      refine EndL.is (t := 12) (v := (.int .i64 ((((rgTo p 256).length : Nat) : Int)))) rfl ?_
      refine EndL.is (t := 13) (v := (.bool (decide (((i : Nat) : Int) < (((rgTo p 256).length : Nat) : Int))))) rfl ?_
      refine EndL.is (t := 16) (v := v1) rfl ?_
      refine EndL.is (t := 17) (v := (.int .i64 (((i : Nat) : Int)))) rfl ?_
      refine EndL.is (t := 18) (v := (elemPtr v1 (i * 2))) rfl ?_
      refine EndL.is (t := 19) (v := (elemPtr v1 (i * 2 + 0))) rfl ?_
      refine EndL.is (t := 20) (v := (.int .u8 ((((pr (rgTo p 256) (i)).1 : Nat) : Int)))) rfl ?_
      refine EndL.is (t := 21) (v := v1) rfl ?_
      refine EndL.is (t := 22) (v := (.int .i64 (((i : Nat) : Int)))) rfl ?_
      refine EndL.is (t := 23) (v := (elemPtr v1 (i * 2))) rfl ?_
      refine EndL.is (t := 24) (v := (elemPtr v1 (i * 2 + 1))) rfl ?_
      refine EndL.is (t := 25) (v := (.int .u8 ((((pr (rgTo p 256) (i)).2 : Nat) : Int)))) rfl ?_
      refine EndL.is (t := 26) (v := (.bool (false))) rfl ?_
      refine EndL.is (t := 27) (v := (.bool (false))) rfl ?_
      refine EndL.is (t := 28) (v := (.int .i64 (((i : Nat) : Int)))) rfl ?_
      refine EndL.is (t := 29) (v := (.bool (true))) rfl ?_
      refine EndL.is (t := 30) (v := (.bool (true))) rfl ?_
      refine EndL.is (t := 31) (v := v1) rfl ?_
      refine EndL.is (t := 32) (v := (.int .i64 (((i : Nat) : Int)))) rfl ?_
      refine EndL.is (t := 33) (v := (elemPtr v1 (i * 2))) rfl ?_
      refine EndL.is (t := 34) (v := (elemPtr v1 (i * 2 + 0))) rfl ?_
      refine EndL.is (t := 35) (v := (.int .u8 ((((pr (rgTo p 256) (i)).1 : Nat) : Int)))) rfl ?_
      refine EndL.is (t := 36) (v := (.int .i64 ((((pr (rgTo p 256) (i)).1 : Nat) : Int)))) rfl ?_
      refine EndL.is (t := 37) (v := v1) rfl ?_
      refine EndL.is (t := 38) (v := (.int .i64 (((i : Nat) : Int)))) rfl ?_
      refine EndL.is (t := 39) (v := (.int .i64 ((((i - 1) : Nat) : Int)))) rfl ?_
      refine EndL.is (t := 40) (v := (elemPtr v1 ((i - 1) * 2))) rfl ?_
      refine EndL.is (t := 41) (v := (elemPtr v1 ((i - 1) * 2 + 1))) rfl ?_
      refine EndL.is (t := 42) (v := (.int .u8 ((((pr (rgTo p 256) (i - 1)).2 : Nat) : Int)))) rfl ?_
      refine EndL.is (t := 43) (v := (.int .i64 ((((pr (rgTo p 256) (i - 1)).2 : Nat) : Int)))) rfl ?_
      refine EndL.is (t := 44) (v := (.int .i64 ((((pr (rgTo p 256) (i - 1)).2 : Nat) : Int) + 2))) rfl ?_
      refine EndL.is (t := 45) (v := (.bool (false))) rfl ?_
      refine EndL.is (t := 46) (v := (.bool (false))) rfl ?_
      refine EndL.is (t := 47) (v := (.bool (false))) rfl ?_
      refine EndL.is (t := 48) (v := (.agg (bcs (rgU (rgTo p 256) i)))) rfl ?_
      refine EndL.is (t := 49) (v := v1) rfl ?_
      refine EndL.is (t := 50) (v := (.int .i64 (((i : Nat) : Int)))) rfl ?_
      refine EndL.is (t := 51) (v := (elemPtr v1 (i * 2))) rfl ?_
      refine EndL.is (t := 52) (v := (elemPtr v1 (i * 2 + 0))) rfl ?_
      refine EndL.is (t := 53) (v := (.int .u8 ((((pr (rgTo p 256) (i)).1 : Nat) : Int)))) rfl ?_
      refine EndL.is (t := 54) (v := v1) rfl ?_
      refine EndL.is (t := 55) (v := (.int .i64 (((i : Nat) : Int)))) rfl ?_
      refine EndL.is (t := 56) (v := (elemPtr v1 (i * 2))) rfl ?_
      refine EndL.is (t := 57) (v := (elemPtr v1 (i * 2 + 1))) rfl ?_
      refine EndL.is (t := 58) (v := (.int .u8 ((((pr (rgTo p 256) (i)).2 : Nat) : Int)))) rfl ?_
      refine EndL.is (t := 59) (v := (.agg (bcs (ofP ((pr (rgTo p 256) (i)).1) ((pr (rgTo p 256) (i)).2))))) rfl ?_
      refine EndL.is (t := 60) (v := (.agg (bcs (fun t => (rgU (rgTo p 256) i) t || (ofP ((pr (rgTo p 256) (i)).1) ((pr (rgTo p 256) (i)).2)) t)))) rfl ?_
      refine EndL.seg ?_
      refine Seg.stBlkW (i := 0) (cs' := (bcs (fun t => (rgU (rgTo p 256) i) t || (ofP ((pr (rgTo p 256) (i)).1) ((pr (rgTo p 256) (i)).2)) t))) rfl rfl ti24 rfl rfl (bcs_one _) rfl ?_
      refine Seg.nil ?_
      refine At.then_n ?_
      have hb := rg_pr p i (by omega)
      have hN := rgN_le p i
      refine Wp.drawE 17 follows rfl (by kernel_rfl) ?_
      refine SegL.opE (OpT.move rfl) rfl ?_
      refine SegL.opE (OpT.move rfl) rfl ?_
      refine SegL.opE (OpT.move rfl) rfl ?_
      refine SegL.opE (OpT.ixImm Try.underlying39 ti43 rfl (hr5.mono hle7) rfl (by omega)) rfl ?_
      refine SegL.opE (OpT.ixArrImm (j := i * 2) Try.underlying43 ti5 rfl (hr5.mono hle7) (by omega) rfl (by omega)) rfl ?_
      refine SegL.opE (OpT.ldImm  (k := i * 2 + 1) (u := (.int .u8 ((((pr (rgTo p 256) (i)).2 : Nat) : Int)))) Try.underlying5 rfl rfl (hr5.mono hle7) (pr_b1 (rgTo p 256) (i) (by omega))) rfl ?_
      refine SegL.opE (OpT.conv Try.underlying5 Try.underlying3 rfl (fits64 (by omega))) rfl ?_
      refine SegL.opE (OpT.add rfl rfl (fits64 (by omega))) rfl ?_
      refine SegL.opE (OpT.move rfl) rfl ?_
      refine SegL.opE (OpT.move rfl) rfl ?_
      refine SegL.opE (OpT.ixImm Try.underlying39 ti43 rfl (hr5.mono hle7) rfl (by omega)) rfl ?_
      refine SegL.opE (OpT.ixArrImm (j := i * 2) Try.underlying43 ti5 rfl (hr5.mono hle7) (by omega) rfl (by omega)) rfl ?_
      refine SegL.opE (OpT.ldImm  (k := i * 2 + 0) (u := (.int .u8 ((((pr (rgTo p 256) (i)).1 : Nat) : Int)))) Try.underlying5 rfl rfl (hr5.mono hle7) (pr_b0 (rgTo p 256) (i) (by omega))) rfl ?_
      refine SegL.opE (OpT.conv Try.underlying5 Try.underlying3 rfl (fits64 (by omega))) rfl ?_
      refine SegL.opE (OpT.sub rfl rfl (fits64 (by omega))) rfl ?_
      refine SegL.opE (OpT.add rfl rfl (fits64 (by omega))) rfl ?_
      refine SegL.opE (OpT.assign rfl) rfl ?_
      refine SegL.doneE ?_
      refine EndL.is (t := 6) (v := (.int .i64 (((i : Nat) : Int)))) rfl ?_
      refine EndL.is (t := 5) (v := (.int .i64 ((((((rgN (rgTo p 256) i) : Nat) : Int) + (((pr (rgTo p 256) (i)).2 : Nat) : Int)) - (((pr (rgTo p 256) (i)).1 : Nat) : Int)) + 1))) rfl ?_
      refine EndL.is (t := 1) (v := (ptr Ba (0))) rfl ?_
      refine EndL.is (t := 3) (v := v1) rfl ?_
      refine EndL.is (t := 4) (v := (ptr Bu (0))) rfl ?_
      refine EndL.is (t := 10) (v := (.int .i64 (((i : Nat) : Int)))) rfl ?_
      refine EndL.is (t := 11) (v := v1) rfl ?_
      refine EndL.is (t := 12) (v := (.int .i64 ((((rgTo p 256).length : Nat) : Int)))) rfl ?_
      refine EndL.is (t := 13) (v := (.bool (decide (((i : Nat) : Int) < (((rgTo p 256).length : Nat) : Int))))) rfl ?_
      refine EndL.is (t := 16) (v := v1) rfl ?_
      refine EndL.is (t := 17) (v := (.int .i64 (((i : Nat) : Int)))) rfl ?_
      refine EndL.is (t := 18) (v := (elemPtr v1 (i * 2))) rfl ?_
      refine EndL.is (t := 19) (v := (elemPtr v1 (i * 2 + 0))) rfl ?_
      refine EndL.is (t := 20) (v := (.int .u8 ((((pr (rgTo p 256) (i)).1 : Nat) : Int)))) rfl ?_
      refine EndL.is (t := 21) (v := v1) rfl ?_
      refine EndL.is (t := 22) (v := (.int .i64 (((i : Nat) : Int)))) rfl ?_
      refine EndL.is (t := 23) (v := (elemPtr v1 (i * 2))) rfl ?_
      refine EndL.is (t := 24) (v := (elemPtr v1 (i * 2 + 1))) rfl ?_
      refine EndL.is (t := 25) (v := (.int .u8 ((((pr (rgTo p 256) (i)).2 : Nat) : Int)))) rfl ?_
      refine EndL.is (t := 26) (v := (.bool (false))) rfl ?_
      refine EndL.is (t := 27) (v := (.bool (false))) rfl ?_
      refine EndL.is (t := 28) (v := (.int .i64 (((i : Nat) : Int)))) rfl ?_
      refine EndL.is (t := 29) (v := (.bool (true))) rfl ?_
      refine EndL.is (t := 30) (v := (.bool (true))) rfl ?_
      refine EndL.is (t := 31) (v := v1) rfl ?_
      refine EndL.is (t := 32) (v := (.int .i64 (((i : Nat) : Int)))) rfl ?_
      refine EndL.is (t := 33) (v := (elemPtr v1 (i * 2))) rfl ?_
      refine EndL.is (t := 34) (v := (elemPtr v1 (i * 2 + 0))) rfl ?_
      refine EndL.is (t := 35) (v := (.int .u8 ((((pr (rgTo p 256) (i)).1 : Nat) : Int)))) rfl ?_
      refine EndL.is (t := 36) (v := (.int .i64 ((((pr (rgTo p 256) (i)).1 : Nat) : Int)))) rfl ?_
      refine EndL.is (t := 37) (v := v1) rfl ?_
      refine EndL.is (t := 38) (v := (.int .i64 (((i : Nat) : Int)))) rfl ?_
      refine EndL.is (t := 39) (v := (.int .i64 ((((i - 1) : Nat) : Int)))) rfl ?_
      refine EndL.is (t := 40) (v := (elemPtr v1 ((i - 1) * 2))) rfl ?_
      refine EndL.is (t := 41) (v := (elemPtr v1 ((i - 1) * 2 + 1))) rfl ?_
      refine EndL.is (t := 42) (v := (.int .u8 ((((pr (rgTo p 256) (i - 1)).2 : Nat) : Int)))) rfl ?_
      refine EndL.is (t := 43) (v := (.int .i64 ((((pr (rgTo p 256) (i - 1)).2 : Nat) : Int)))) rfl ?_
      refine EndL.is (t := 44) (v := (.int .i64 ((((pr (rgTo p 256) (i - 1)).2 : Nat) : Int) + 2))) rfl ?_
      refine EndL.is (t := 45) (v := (.bool (false))) rfl ?_
      refine EndL.is (t := 46) (v := (.bool (false))) rfl ?_
      refine EndL.is (t := 47) (v := (.bool (false))) rfl ?_
      refine EndL.is (t := 48) (v := (.agg (bcs (rgU (rgTo p 256) i)))) rfl ?_
      refine EndL.is (t := 49) (v := v1) rfl ?_
      refine EndL.is (t := 50) (v := (.int .i64 (((i : Nat) : Int)))) rfl ?_
      refine EndL.is (t := 51) (v := (elemPtr v1 (i * 2))) rfl ?_
      refine EndL.is (t := 52) (v := (elemPtr v1 (i * 2 + 0))) rfl ?_
      refine EndL.is (t := 53) (v := (.int .u8 ((((pr (rgTo p 256) (i)).1 : Nat) : Int)))) rfl ?_
      refine EndL.is (t := 54) (v := v1) rfl ?_
      refine EndL.is (t := 55) (v := (.int .i64 (((i : Nat) : Int)))) rfl ?_
      refine EndL.is (t := 56) (v := (elemPtr v1 (i * 2))) rfl ?_
      refine EndL.is (t := 57) (v := (elemPtr v1 (i * 2 + 1))) rfl ?_
      refine EndL.is (t := 58) (v := (.int .u8 ((((pr (rgTo p 256) (i)).2 : Nat) : Int)))) rfl ?_
      refine EndL.is (t := 59) (v := (.agg (bcs (ofP ((pr (rgTo p 256) (i)).1) ((pr (rgTo p 256) (i)).2))))) rfl ?_
      refine EndL.is (t := 60) (v := (.agg (bcs (fun t => (rgU (rgTo p 256) i) t || (ofP ((pr (rgTo p 256) (i)).1) ((pr (rgTo p 256) (i)).2)) t)))) rfl ?_
      refine EndL.is (t := 61) (v := (.int .i64 ((((rgN (rgTo p 256) i) : Nat) : Int)))) rfl ?_
      refine EndL.is (t := 62) (v := v1) rfl ?_
      refine EndL.is (t := 63) (v := (.int .i64 (((i : Nat) : Int)))) rfl ?_
      refine EndL.is (t := 64) (v := (elemPtr v1 (i * 2))) rfl ?_
      refine EndL.is (t := 65) (v := (elemPtr v1 (i * 2 + 1))) rfl ?_
      refine EndL.is (t := 66) (v := (.int .u8 ((((pr (rgTo p 256) (i)).2 : Nat) : Int)))) rfl ?_
      refine EndL.is (t := 67) (v := (.int .i64 ((((pr (rgTo p 256) (i)).2 : Nat) : Int)))) rfl ?_
      refine EndL.is (t := 68) (v := (.int .i64 ((((rgN (rgTo p 256) i) : Nat) : Int) + (((pr (rgTo p 256) (i)).2 : Nat) : Int)))) rfl ?_
      refine EndL.is (t := 69) (v := v1) rfl ?_
      refine EndL.is (t := 70) (v := (.int .i64 (((i : Nat) : Int)))) rfl ?_
      refine EndL.is (t := 71) (v := (elemPtr v1 (i * 2))) rfl ?_
      refine EndL.is (t := 72) (v := (elemPtr v1 (i * 2 + 0))) rfl ?_
      refine EndL.is (t := 73) (v := (.int .u8 ((((pr (rgTo p 256) (i)).1 : Nat) : Int)))) rfl ?_
      refine EndL.is (t := 74) (v := (.int .i64 ((((pr (rgTo p 256) (i)).1 : Nat) : Int)))) rfl ?_
      refine EndL.is (t := 75) (v := (.int .i64 (((((rgN (rgTo p 256) i) : Nat) : Int) + (((pr (rgTo p 256) (i)).2 : Nat) : Int)) - (((pr (rgTo p 256) (i)).1 : Nat) : Int)))) rfl ?_
      refine EndL.is (t := 76) (v := (.int .i64 ((((((rgN (rgTo p 256) i) : Nat) : Int) + (((pr (rgTo p 256) (i)).2 : Nat) : Int)) - (((pr (rgTo p 256) (i)).1 : Nat) : Int)) + 1))) rfl ?_
      refine EndL.seg ?_
      refine Seg.nil ?_
      refine At.blk_n ?_
      refine At.then_n ?_
      refine Wp.region ?_
      refine Seg.op (OpT.move rfl) rfl ?_
      refine Seg.op (OpT.add rfl rfl (fits64 (by omega))) rfl ?_
      refine Seg.op (OpT.assign rfl) rfl ?_
      refine Seg.nil ?_
      refine At.next (i + 1) (Hp.le.refl _) ?_ ?_ ?_ ?_
      · exact (by omega)
      · exact .cons (rfl) (.cons (lk_int rfl (by rw [rgN_step p i (by omega)])) (.cons (rfl) (.cons (rfl) (.cons (rfl) (.nil)))))
      · exact (by first | rfl | (rw [rgU_succ (rgTo p 256) i (by omega)]; done) | (rw [rgU_succ (rgTo p 256) i (by omega)]; rfl))
      · exact (by (try dsimp only); omega)
    ·
      have hb := rg_pr p i (by omega)
      have hg : i = 0 ∨ (pr (rgTo p 256) (i - 1)).2 < 256 := (Nat.eq_zero_or_pos i).imp id fun h => (rg_pr p (i - 1) (by omega)).2
      refine Wp.drawE 32 follows rfl (by kernel_rfl) ?_
      refine SegL.opE (OpT.move rfl) rfl ?_
      refine SegL.opE (OpT.move rfl) rfl ?_
      refine SegL.opE (OpT.ixImm Try.underlying39 ti43 rfl (hr5.mono hle7) rfl (by omega)) rfl ?_
      refine SegL.opE (OpT.ixArrImm (j := i * 2) Try.underlying43 ti5 rfl (hr5.mono hle7) (by omega) rfl (by omega)) rfl ?_
      refine SegL.opE (OpT.ldImm  (k := i * 2 + 0) (u := (.int .u8 ((((pr (rgTo p 256) (i)).1 : Nat) : Int)))) Try.underlying5 rfl rfl (hr5.mono hle7) (pr_b0 (rgTo p 256) (i) (by omega))) rfl ?_
      refine SegL.opE (OpT.move rfl) rfl ?_
      refine SegL.opE (OpT.move rfl) rfl ?_
      refine SegL.opE (OpT.ixImm Try.underlying39 ti43 rfl (hr5.mono hle7) rfl (by omega)) rfl ?_
      refine SegL.opE (OpT.ixArrImm (j := i * 2) Try.underlying43 ti5 rfl (hr5.mono hle7) (by omega) rfl (by omega)) rfl ?_
      refine SegL.opE (OpT.ldImm  (k := i * 2 + 1) (u := (.int .u8 ((((pr (rgTo p 256) (i)).2 : Nat) : Int)))) Try.underlying5 rfl rfl (hr5.mono hle7) (pr_b1 (rgTo p 256) (i) (by omega))) rfl ?_
      refine SegL.opE (OpT.asB (b := decide ((((pr (rgTo p 256) (i)).2 : Nat) : Int) < (((pr (rgTo p 256) (i)).1 : Nat) : Int))) (c := false) (OpT.gtr rfl rfl) (decide_eq_false (by omega))) rfl ?_
      refine SegL.opE (OpT.move rfl) rfl ?_
      refine SegL.opGE rfl rfl (OpT.move rfl) rfl ?_
      refine SegL.opGE rfl rfl (OpT.asB (b := decide (0 < ((i : Nat) : Int))) (c := false) (OpT.gtr rfl rfl) (decide_eq_false (by omega))) rfl ?_
      refine SegL.opGE rfl rfl (OpT.move rfl) rfl ?_
      refine SegL.skipGE rfl rfl rfl rfl ?_
      refine SegL.skipGE rfl rfl rfl rfl ?_
      refine SegL.skipGE rfl rfl rfl rfl ?_
      refine SegL.skipGE rfl rfl rfl rfl ?_
      refine SegL.skipGE rfl rfl rfl rfl ?_
      refine SegL.skipGE rfl rfl rfl rfl ?_
      refine SegL.skipGE rfl rfl rfl rfl ?_
      refine SegL.skipGE rfl rfl rfl rfl ?_
      refine SegL.skipGE rfl rfl rfl rfl ?_
      refine SegL.skipGE rfl rfl rfl rfl ?_
      refine SegL.skipGE rfl rfl rfl rfl ?_
      refine SegL.skipGE rfl rfl rfl rfl ?_
      refine SegL.skipGE rfl rfl rfl rfl ?_
      refine SegL.skipGE rfl rfl rfl rfl ?_
      refine SegL.skipGE rfl rfl rfl rfl ?_
      refine SegL.opGE rfl rfl (OpT.pickF rfl rfl) rfl ?_
      refine SegL.opE (OpT.pickF rfl rfl) rfl ?_
      refine SegL.doneE ?_
      refine EndL.is (t := 6) (v := (.int .i64 (((i : Nat) : Int)))) rfl ?_
      refine EndL.is (t := 5) (v := (.int .i64 ((((rgN (rgTo p 256) i) : Nat) : Int)))) rfl ?_
      refine EndL.is (t := 1) (v := (ptr Ba (0))) rfl ?_
      refine EndL.is (t := 3) (v := v1) rfl ?_
      refine EndL.is (t := 4) (v := (ptr Bu (0))) rfl ?_
      refine EndL.is (t := 10) (v := (.int .i64 (((i : Nat) : Int)))) rfl ?_
      refine EndL.is (t := 11) (v := v1) rfl ?_
      refine EndL.is (t := 12) (v := (.int .i64 ((((rgTo p 256).length : Nat) : Int)))) rfl ?_
      refine EndL.is (t := 13) (v := (.bool (decide (((i : Nat) : Int) < (((rgTo p 256).length : Nat) : Int))))) rfl ?_
      refine EndL.is (t := 16) (v := v1) rfl ?_
      refine EndL.is (t := 17) (v := (.int .i64 (((i : Nat) : Int)))) rfl ?_
      refine EndL.is (t := 18) (v := (elemPtr v1 (i * 2))) rfl ?_
      refine EndL.is (t := 19) (v := (elemPtr v1 (i * 2 + 0))) rfl ?_
      refine EndL.is (t := 20) (v := (.int .u8 ((((pr (rgTo p 256) (i)).1 : Nat) : Int)))) rfl ?_
      refine EndL.is (t := 21) (v := v1) rfl ?_
      refine EndL.is (t := 22) (v := (.int .i64 (((i : Nat) : Int)))) rfl ?_
      refine EndL.is (t := 23) (v := (elemPtr v1 (i * 2))) rfl ?_
      refine EndL.is (t := 24) (v := (elemPtr v1 (i * 2 + 1))) rfl ?_
      refine EndL.is (t := 25) (v := (.int .u8 ((((pr (rgTo p 256) (i)).2 : Nat) : Int)))) rfl ?_
      refine EndL.is (t := 26) (v := (.bool (false))) rfl ?_
      refine EndL.is (t := 27) (v := (.bool (false))) rfl ?_
      refine EndL.is (t := 28) (v := (.int .i64 (((i : Nat) : Int)))) rfl ?_
      refine EndL.is (t := 29) (v := (.bool (false))) rfl ?_
      refine EndL.is (t := 30) (v := (.bool (false))) rfl ?_
      refine EndL.is (t := 31) (v := undef) rfl ?_
      refine EndL.is (t := 32) (v := undef) rfl ?_
      refine EndL.is (t := 33) (v := undef) rfl ?_
      refine EndL.is (t := 34) (v := undef) rfl ?_
      refine EndL.is (t := 35) (v := undef) rfl ?_
      refine EndL.is (t := 36) (v := undef) rfl ?_
      refine EndL.is (t := 37) (v := undef) rfl ?_
      refine EndL.is (t := 38) (v := undef) rfl ?_
      refine EndL.is (t := 39) (v := undef) rfl ?_
      refine EndL.is (t := 40) (v := undef) rfl ?_
      refine EndL.is (t := 41) (v := undef) rfl ?_
      refine EndL.is (t := 42) (v := undef) rfl ?_
      refine EndL.is (t := 43) (v := undef) rfl ?_
      refine EndL.is (t := 44) (v := undef) rfl ?_
      refine EndL.is (t := 45) (v := undef) rfl ?_
      refine EndL.is (t := 46) (v := (.bool (false))) rfl ?_
      refine EndL.is (t := 47) (v := (.bool (false))) rfl ?_
      refine EndL.seg ?_
      refine Seg.nil ?_
      refine At.then_n ?_
      refine Wp.condF rfl ?_
      refine Wp.skip ?_
      refine At.then_n ?_
      refine Wp.seq ?_
      have hb := rg_pr p i (by omega)
      refine Wp.drawE 13 follows rfl (by kernel_rfl) ?_
      refine SegL.opE (OpT.ldBlkW (i := 0) Try.underlying24 rfl ti24 rfl rfl rfl) rfl ?_
      refine SegL.opE (OpT.move rfl) rfl ?_
      refine SegL.opE (OpT.move rfl) rfl ?_
      refine SegL.opE (OpT.ixImm Try.underlying39 ti43 rfl (hr5.mono hle7) rfl (by omega)) rfl ?_
      refine SegL.opE (OpT.ixArrImm (j := i * 2) Try.underlying43 ti5 rfl (hr5.mono hle7) (by omega) rfl (by omega)) rfl ?_
      refine SegL.opE (OpT.ldImm  (k := i * 2 + 0) (u := (.int .u8 ((((pr (rgTo p 256) (i)).1 : Nat) : Int)))) Try.underlying5 rfl rfl (hr5.mono hle7) (pr_b0 (rgTo p 256) (i) (by omega))) rfl ?_
      refine SegL.opE (OpT.move rfl) rfl ?_
      refine SegL.opE (OpT.move rfl) rfl ?_
      refine SegL.opE (OpT.ixImm Try.underlying39 ti43 rfl (hr5.mono hle7) rfl (by omega)) rfl ?_
      refine SegL.opE (OpT.ixArrImm (j := i * 2) Try.underlying43 ti5 rfl (hr5.mono hle7) (by omega) rfl (by omega)) rfl ?_
      refine SegL.opE (OpT.ldImm  (k := i * 2 + 1) (u := (.int .u8 ((((pr (rgTo p 256) (i)).2 : Nat) : Int)))) Try.underlying5 rfl rfl (hr5.mono hle7) (pr_b1 (rgTo p 256) (i) (by omega))) rfl ?_
      refine SegL.opE (OpT.call ent12 rfl (of_w ((pr (rgTo p 256) (i)).1) ((pr (rgTo p 256) (i)).2) (by omega) (by omega))) rfl ?_
      refine SegL.opE (OpT.call ent17 rfl (or_w (rgU (rgTo p 256) i) (ofP ((pr (rgTo p 256) (i)).1) ((pr (rgTo p 256) (i)).2)))) rfl ?_
      refine SegL.doneE ?_
      refine EndL.is (t := 6) (v := (.int .i64 (((i : Nat) : Int)))) rfl ?_
      refine EndL.is (t := 5) (v := (.int .i64 ((((rgN (rgTo p 256) i) : Nat) : Int)))) rfl ?_
      refine EndL.is (t := 1) (v := (ptr Ba (0))) rfl ?_
      refine EndL.is (t := 3) (v := v1) rfl ?_
      refine EndL.is (t := 4) (v := (ptr Bu (0))) rfl ?_
      refine EndL.is (t := 10) (v := (.int .i64 (((i : Nat) : Int)))) rfl ?_
      refine EndL.is (t := 11) (v := v1) rfl ?_
      refine EndL.is (t := 12) (v := (.int .i64 ((((rgTo p 256).length : Nat) : Int)))) rfl ?_
      refine EndL.is (t := 13) (v := (.bool (decide (((i : Nat) : Int) < (((rgTo p 256).length : Nat) : Int))))) rfl ?_
      refine EndL.is (t := 16) (v := v1) rfl ?_
      refine EndL.is (t := 17) (v := (.int .i64 (((i : Nat) : Int)))) rfl ?_
      refine EndL.is (t := 18) (v := (elemPtr v1 (i * 2))) rfl ?_
      refine EndL.is (t := 19) (v := (elemPtr v1 (i * 2 + 0))) rfl ?_
      refine EndL.is (t := 20) (v := (.int .u8 ((((pr (rgTo p 256) (i)).1 : Nat) : Int)))) rfl ?_
      refine EndL.is (t := 21) (v := v1) rfl ?_
      refine EndL.is (t := 22) (v := (.int .i64 (((i : Nat) : Int)))) rfl ?_
      refine EndL.is (t := 23) (v := (elemPtr v1 (i * 2))) rfl ?_
      refine EndL.is (t := 24) (v := (elemPtr v1 (i * 2 + 1))) rfl ?_
      refine EndL.is (t := 25) (v := (.int .u8 ((((pr (rgTo p 256) (i)).2 : Nat) : Int)))) rfl ?_
      refine EndL.is (t := 26) (v := (.bool (false))) rfl ?_
      refine EndL.is (t := 27) (v := (.bool (false))) rfl ?_
      refine EndL.is (t := 28) (v := (.int .i64 (((i : Nat) : Int)))) rfl ?_
      refine EndL.is (t := 29) (v := (.bool (false))) rfl ?_
      refine EndL.is (t := 30) (v := (.bool (false))) rfl ?_
      refine EndL.is (t := 31) (v := undef) rfl ?_
      refine EndL.is (t := 32) (v := undef) rfl ?_
      refine EndL.is (t := 33) (v := undef) rfl ?_
      refine EndL.is (t := 34) (v := undef) rfl ?_
      refine EndL.is (t := 35) (v := undef) rfl ?_
      refine EndL.is (t := 36) (v := undef) rfl ?_
      refine EndL.is (t := 37) (v := undef) rfl ?_
      refine EndL.is (t := 38) (v := undef) rfl ?_
      refine EndL.is (t := 39) (v := undef) rfl ?_
      refine EndL.is (t := 40) (v := undef) rfl ?_
      refine EndL.is (t := 41) (v := undef) rfl ?_
      refine EndL.is (t := 42) (v := undef) rfl ?_
      refine EndL.is (t := 43) (v := undef) rfl ?_
      refine EndL.is (t := 44) (v := undef) rfl ?_
      refine EndL.is (t := 45) (v := undef) rfl ?_
      refine EndL.is (t := 46) (v := (.bool (false))) rfl ?_
      refine EndL.is (t := 47) (v := (.bool (false))) rfl ?_
      refine EndL.is (t := 48) (v := (.agg (bcs (rgU (rgTo p 256) i)))) rfl ?_
      refine EndL.is (t := 49) (v := v1) rfl ?_
      refine EndL.is (t := 50) (v := (.int .i64 (((i : Nat) : Int)))) rfl ?_
      refine EndL.is (t := 51) (v := (elemPtr v1 (i * 2))) rfl ?_
      refine EndL.is (t := 52) (v := (elemPtr v1 (i * 2 + 0))) rfl ?_
      refine EndL.is (t := 53) (v := (.int .u8 ((((pr (rgTo p 256) (i)).1 : Nat) : Int)))) rfl ?_
      refine EndL.is (t := 54) (v := v1) rfl ?_
      refine EndL.is (t := 55) (v := (.int .i64 (((i : Nat) : Int)))) rfl ?_
      refine EndL.is (t := 56) (v := (elemPtr v1 (i * 2))) rfl ?_
      refine EndL.is (t := 57) (v := (elemPtr v1 (i * 2 + 1))) rfl ?_
      refine EndL.is (t := 58) (v := (.int .u8 ((((pr (rgTo p 256) (i)).2 : Nat) : Int)))) rfl ?_
      refine EndL.is (t := 59) (v := (.agg (bcs (ofP ((pr (rgTo p 256) (i)).1) ((pr (rgTo p 256) (i)).2))))) rfl ?_
      refine EndL.is (t := 60) (v := (.agg (bcs (fun t => (rgU (rgTo p 256) i) t || (ofP ((pr (rgTo p 256) (i)).1) ((pr (rgTo p 256) (i)).2)) t)))) rfl ?_
      refine EndL.seg ?_
      refine Seg.stBlkW (i := 0) (cs' := (bcs (fun t => (rgU (rgTo p 256) i) t || (ofP ((pr (rgTo p 256) (i)).1) ((pr (rgTo p 256) (i)).2)) t))) rfl rfl ti24 rfl rfl (bcs_one _) rfl ?_
      refine Seg.nil ?_
      refine At.then_n ?_
      have hb := rg_pr p i (by omega)
      have hN := rgN_le p i
      refine Wp.drawE 17 follows rfl (by kernel_rfl) ?_
      refine SegL.opE (OpT.move rfl) rfl ?_
      refine SegL.opE (OpT.move rfl) rfl ?_
      refine SegL.opE (OpT.move rfl) rfl ?_
      refine SegL.opE (OpT.ixImm Try.underlying39 ti43 rfl (hr5.mono hle7) rfl (by omega)) rfl ?_
      refine SegL.opE (OpT.ixArrImm (j := i * 2) Try.underlying43 ti5 rfl (hr5.mono hle7) (by omega) rfl (by omega)) rfl ?_
      refine SegL.opE (OpT.ldImm  (k := i * 2 + 1) (u := (.int .u8 ((((pr (rgTo p 256) (i)).2 : Nat) : Int)))) Try.underlying5 rfl rfl (hr5.mono hle7) (pr_b1 (rgTo p 256) (i) (by omega))) rfl ?_
      refine SegL.opE (OpT.conv Try.underlying5 Try.underlying3 rfl (fits64 (by omega))) rfl ?_
      refine SegL.opE (OpT.add rfl rfl (fits64 (by omega))) rfl ?_
      refine SegL.opE (OpT.move rfl) rfl ?_
      refine SegL.opE (OpT.move rfl) rfl ?_
      refine SegL.opE (OpT.ixImm Try.underlying39 ti43 rfl (hr5.mono hle7) rfl (by omega)) rfl ?_
      refine SegL.opE (OpT.ixArrImm (j := i * 2) Try.underlying43 ti5 rfl (hr5.mono hle7) (by omega) rfl (by omega)) rfl ?_
      refine SegL.opE (OpT.ldImm  (k := i * 2 + 0) (u := (.int .u8 ((((pr (rgTo p 256) (i)).1 : Nat) : Int)))) Try.underlying5 rfl rfl (hr5.mono hle7) (pr_b0 (rgTo p 256) (i) (by omega))) rfl ?_
      refine SegL.opE (OpT.conv Try.underlying5 Try.underlying3 rfl (fits64 (by omega))) rfl ?_
      refine SegL.opE (OpT.sub rfl rfl (fits64 (by omega))) rfl ?_
      refine SegL.opE (OpT.add rfl rfl (fits64 (by omega))) rfl ?_
      refine SegL.opE (OpT.assign rfl) rfl ?_
      refine SegL.doneE ?_
      refine EndL.is (t := 6) (v := (.int .i64 (((i : Nat) : Int)))) rfl ?_
      refine EndL.is (t := 5) (v := (.int .i64 ((((((rgN (rgTo p 256) i) : Nat) : Int) + (((pr (rgTo p 256) (i)).2 : Nat) : Int)) - (((pr (rgTo p 256) (i)).1 : Nat) : Int)) + 1))) rfl ?_
      refine EndL.is (t := 1) (v := (ptr Ba (0))) rfl ?_
      refine EndL.is (t := 3) (v := v1) rfl ?_
      refine EndL.is (t := 4) (v := (ptr Bu (0))) rfl ?_
      refine EndL.is (t := 10) (v := (.int .i64 (((i : Nat) : Int)))) rfl ?_
      refine EndL.is (t := 11) (v := v1) rfl ?_
      refine EndL.is (t := 12) (v := (.int .i64 ((((rgTo p 256).length : Nat) : Int)))) rfl ?_
      refine EndL.is (t := 13) (v := (.bool (decide (((i : Nat) : Int) < (((rgTo p 256).length : Nat) : Int))))) rfl ?_
      refine EndL.is (t := 16) (v := v1) rfl ?_
      refine EndL.is (t := 17) (v := (.int .i64 (((i : Nat) : Int)))) rfl ?_
      refine EndL.is (t := 18) (v := (elemPtr v1 (i * 2))) rfl ?_
      refine EndL.is (t := 19) (v := (elemPtr v1 (i * 2 + 0))) rfl ?_
      refine EndL.is (t := 20) (v := (.int .u8 ((((pr (rgTo p 256) (i)).1 : Nat) : Int)))) rfl ?_
      refine EndL.is (t := 21) (v := v1) rfl ?_
      refine EndL.is (t := 22) (v := (.int .i64 (((i : Nat) : Int)))) rfl ?_
      refine EndL.is (t := 23) (v := (elemPtr v1 (i * 2))) rfl ?_
      refine EndL.is (t := 24) (v := (elemPtr v1 (i * 2 + 1))) rfl ?_
      refine EndL.is (t := 25) (v := (.int .u8 ((((pr (rgTo p 256) (i)).2 : Nat) : Int)))) rfl ?_
      refine EndL.is (t := 26) (v := (.bool (false))) rfl ?_
      refine EndL.is (t := 27) (v := (.bool (false))) rfl ?_
      refine EndL.is (t := 28) (v := (.int .i64 (((i : Nat) : Int)))) rfl ?_
      refine EndL.is (t := 29) (v := (.bool (false))) rfl ?_
      refine EndL.is (t := 30) (v := (.bool (false))) rfl ?_
      refine EndL.is (t := 31) (v := undef) rfl ?_
      refine EndL.is (t := 32) (v := undef) rfl ?_
      refine EndL.is (t := 33) (v := undef) rfl ?_
      refine EndL.is (t := 34) (v := undef) rfl ?_
      refine EndL.is (t := 35) (v := undef) rfl ?_
      refine EndL.is (t := 36) (v := undef) rfl ?_
      refine EndL.is (t := 37) (v := undef) rfl ?_
      refine EndL.is (t := 38) (v := undef) rfl ?_
      refine EndL.is (t := 39) (v := undef) rfl ?_
      refine EndL.is (t := 40) (v := undef) rfl ?_
      refine EndL.is (t := 41) (v := undef) rfl ?_
      refine EndL.is (t := 42) (v := undef) rfl ?_
      refine EndL.is (t := 43) (v := undef) rfl ?_
      refine EndL.is (t := 44) (v := undef) rfl ?_
      refine EndL.is (t := 45) (v := undef) rfl ?_
      refine EndL.is (t := 46) (v := (.bool (false))) rfl ?_
      refine EndL.is (t := 47) (v := (.bool (false))) rfl ?_
      refine EndL.is (t := 48) (v := (.agg (bcs (rgU (rgTo p 256) i)))) rfl ?_
      refine EndL.is (t := 49) (v := v1) rfl ?_
      refine EndL.is (t := 50) (v := (.int .i64 (((i : Nat) : Int)))) rfl ?_
      refine EndL.is (t := 51) (v := (elemPtr v1 (i * 2))) rfl ?_
      refine EndL.is (t := 52) (v := (elemPtr v1 (i * 2 + 0))) rfl ?_
      refine EndL.is (t := 53) (v := (.int .u8 ((((pr (rgTo p 256) (i)).1 : Nat) : Int)))) rfl ?_
      refine EndL.is (t := 54) (v := v1) rfl ?_
      refine EndL.is (t := 55) (v := (.int .i64 (((i : Nat) : Int)))) rfl ?_
      refine EndL.is (t := 56) (v := (elemPtr v1 (i * 2))) rfl ?_
      refine EndL.is (t := 57) (v := (elemPtr v1 (i * 2 + 1))) rfl ?_
      refine EndL.is (t := 58) (v := (.int .u8 ((((pr (rgTo p 256) (i)).2 : Nat) : Int)))) rfl ?_
      refine EndL.is (t := 59) (v := (.agg (bcs (ofP ((pr (rgTo p 256) (i)).1) ((pr (rgTo p 256) (i)).2))))) rfl ?_
      refine EndL.is (t := 60) (v := (.agg (bcs (fun t => (rgU (rgTo p 256) i) t || (ofP ((pr (rgTo p 256) (i)).1) ((pr (rgTo p 256) (i)).2)) t)))) rfl ?_
      refine EndL.is (t := 61) (v := (.int .i64 ((((rgN (rgTo p 256) i) : Nat) : Int)))) rfl ?_
      refine EndL.is (t := 62) (v := v1) rfl ?_
      refine EndL.is (t := 63) (v := (.int .i64 (((i : Nat) : Int)))) rfl ?_
      refine EndL.is (t := 64) (v := (elemPtr v1 (i * 2))) rfl ?_
      refine EndL.is (t := 65) (v := (elemPtr v1 (i * 2 + 1))) rfl ?_
      refine EndL.is (t := 66) (v := (.int .u8 ((((pr (rgTo p 256) (i)).2 : Nat) : Int)))) rfl ?_
      refine EndL.is (t := 67) (v := (.int .i64 ((((pr (rgTo p 256) (i)).2 : Nat) : Int)))) rfl ?_
      refine EndL.is (t := 68) (v := (.int .i64 ((((rgN (rgTo p 256) i) : Nat) : Int) + (((pr (rgTo p 256) (i)).2 : Nat) : Int)))) rfl ?_
      refine EndL.is (t := 69) (v := v1) rfl ?_
      refine EndL.is (t := 70) (v := (.int .i64 (((i : Nat) : Int)))) rfl ?_
      refine EndL.is (t := 71) (v := (elemPtr v1 (i * 2))) rfl ?_
      refine EndL.is (t := 72) (v := (elemPtr v1 (i * 2 + 0))) rfl ?_
      refine EndL.is (t := 73) (v := (.int .u8 ((((pr (rgTo p 256) (i)).1 : Nat) : Int)))) rfl ?_
      refine EndL.is (t := 74) (v := (.int .i64 ((((pr (rgTo p 256) (i)).1 : Nat) : Int)))) rfl ?_
      refine EndL.is (t := 75) (v := (.int .i64 (((((rgN (rgTo p 256) i) : Nat) : Int) + (((pr (rgTo p 256) (i)).2 : Nat) : Int)) - (((pr (rgTo p 256) (i)).1 : Nat) : Int)))) rfl ?_
      refine EndL.is (t := 76) (v := (.int .i64 ((((((rgN (rgTo p 256) i) : Nat) : Int) + (((pr (rgTo p 256) (i)).2 : Nat) : Int)) - (((pr (rgTo p 256) (i)).1 : Nat) : Int)) + 1))) rfl ?_
      refine EndL.seg ?_
      refine Seg.nil ?_
      refine At.blk_n ?_
      refine At.then_n ?_
      refine Wp.region ?_
      refine Seg.op (OpT.move rfl) rfl ?_
      refine Seg.op (OpT.add rfl rfl (fits64 (by omega))) rfl ?_
      refine Seg.op (OpT.assign rfl) rfl ?_
      refine Seg.nil ?_
      refine At.next (i + 1) (Hp.le.refl _) ?_ ?_ ?_ ?_
      · exact (by omega)
      · exact .cons (rfl) (.cons (lk_int rfl (by rw [rgN_step p i (by omega)])) (.cons (rfl) (.cons (rfl) (.cons (rfl) (.nil)))))
      · exact (by first | rfl | (rw [rgU_succ (rgTo p 256) i (by omega)]; done) | (rw [rgU_succ (rgTo p 256) i (by omega)]; rfl))
      · exact (by (try dsimp only); omega)
  ·
    replace hb9 := of_decide_eq_false hb9
    refine Wp.exit ?_
    refine At.then_x ?_
    refine At.then_x ?_
    refine At.blk_hit ?_
    refine At.then_n ?_
    refine Wp.seq ?_
    refine Wp.region ?_
    refine Seg.op (OpT.ldBlkW (i := 0) Try.underlying24 rfl ti24 rfl rfl rfl) rfl ?_
    refine Seg.op (OpT.ldBlkW (i := 1) Try.underlying24 rfl ti24 rfl rfl rfl) rfl ?_
    refine Seg.op (OpT.asB (b := eqS (rgU (rgTo p 256) i) p) (c := true) (OpT.eqBs (p := (rgU (rgTo p 256) i)) (q := p) eqg24 Try.underlying24 Try.underlying22 ti22 rfl rfl) (rgU_done p i (by omega))) rfl ?_
    refine Seg.op (OpT.move rfl) rfl ?_
    refine Seg.opG rfl rfl (OpT.ldBlkW (i := 1) Try.underlying24 rfl ti24 rfl rfl rfl) rfl ?_
    refine Seg.opG rfl rfl (OpT.call ent25 rfl (len_w p)) rfl ?_
    refine Seg.opG rfl rfl (OpT.move rfl) rfl ?_
    refine Seg.opG rfl rfl (OpT.asB (b := decide ((((cntTo p 256) : Nat) : Int) = (((rgN (rgTo p 256) i) : Nat) : Int))) (c := true) (OpT.eql rfl rfl) (decide_eq_true (by rw [rgN_done p i (by omega)]))) rfl ?_
    refine Seg.op (OpT.pickT rfl rfl) rfl ?_
    refine Seg.op (OpT.move rfl) rfl ?_
    refine Seg.opG rfl rfl (OpT.call ent14 rfl (awake_w)) rfl ?_
    refine Seg.op (OpT.pickT rfl rfl) rfl ?_
    refine Seg.op (OpT.assign rfl) rfl ?_
    refine Seg.nil ?_
    refine At.then_n ?_
    refine Wp.ret ?_
    refine At.res1 rfl (RV.tmp (v := (.bool (true))) rfl) ?_
    exact fun w hs => ⟨rfl, (hs.dropN 2).weaken (hle4.trans hle7)⟩

set_option maxHeartbeats 4000000 in
theorem l_splits (l : List St) (v : Value) (hl : Sl H v 4 l.length (l.flatMap bcl)) (x y : Nat) (hx : x < 256) (hy : y < 256) :
    TriV Try.prog 11 [v, (.int .u8 (((x : Nat) : Int))), (.int .u8 (((y : Nat) : Int)))] H O (.bool true) := by
  intro w hs
  refine wp_of Try.func11 rfl rfl rfl ?_ hs
  clear hs w
  refine Wp.seq ?_
  refine Wp.region ?_
  refine Seg.op (OpT.assign rfl) rfl ?_
  refine Seg.nil ?_
  refine At.then_n ?_
  refine Wp.seq ?_
  refine Wp.seq ?_
  refine Wp.region ?_
  refine Seg.op (OpT.move rfl) rfl ?_
  refine Seg.op (OpT.lenImm Try.underlying45 rfl hl) rfl ?_
  refine Seg.op (OpT.gtr rfl rfl) rfl ?_
  refine Seg.nil ?_
  refine At.then_n ?_
  refine Wp.cond (b := decide (12 < ((l.length : Nat) : Int))) rfl (fun hb1 => ?_) (fun hb1 => ?_)
  ·
    replace hb1 := of_decide_eq_true hb1
    refine Wp.seq ?_
    refine Wp.region ?_
    refine Seg.op (OpT.call ent14 rfl (awake_w)) rfl ?_
    refine Seg.op (OpT.assign rfl) rfl ?_
    refine Seg.nil ?_
    refine At.then_n ?_
    refine Wp.ret ?_
    refine At.then_r ?_
    refine At.res1 rfl (RV.tmp (v := (.bool (true))) rfl) ?_
    exact fun w hs => ⟨rfl, (hs.dropN 0).weaken (Hp.le.refl _)⟩
  ·
    replace hb1 := of_decide_eq_false hb1
    refine Wp.skip ?_
    refine At.then_n ?_
    refine Wp.seq ?_
    have hn : l.length ≤ 4294967296 := (by omega)
    refine Wp.region ?_
    refine Seg.op (OpT.assign rfl) rfl ?_
    refine Seg.nil ?_
    refine At.then_n ?_
    refine Wp.seq ?_
    refine Wp.seq ?_
    refine Wp.region ?_
    refine Seg.op (OpT.assign rfl) rfl ?_
    refine Seg.nil ?_
    refine At.then_n ?_
    refine Wp.block ?_
    refine Wp.loop (X := Nat) (fun i => [(8, (.int .i64 (((i : Nat) : Int)))), (7, (.bool (alikeTo l x y i))), (0, v), (1, (.int .u8 (((x : Nat) : Int)))), (2, (.int .u8 (((y : Nat) : Int)))), (6, (.bool (false)))]) (fun i => [] ++ O) (fun i H' => i ≤ l.length) (fun i => l.length - i) 0 ?_ ?_ ?_ ?_
    · exact (by omega)
    · exact .cons (rfl) (.cons (lk_eq rfl (by rw [alikeTo_zero])) (.cons (rfl) (.cons (rfl) (.cons (rfl) (.cons (rfl) (.nil))))))
    · exact (rfl)
    intro i H2 hle3 hi4
    have hi := hi4
    refine Wp.seq ?_
    refine Wp.seq ?_
    refine Wp.region ?_
    refine Seg.op (OpT.move rfl) rfl ?_
    refine Seg.op (OpT.move rfl) rfl ?_
    refine Seg.op (OpT.lenImm Try.underlying45 rfl (hl.mono hle3)) rfl ?_
    refine Seg.op (OpT.lss rfl rfl) rfl ?_
    refine Seg.nil ?_
    refine At.then_n ?_
    refine Wp.cond (b := decide (((i : Nat) : Int) < ((l.length : Nat) : Int))) rfl (fun hb5 => ?_) (fun hb5 => ?_)
    ·
      replace hb5 := of_decide_eq_true hb5
      refine Wp.skip ?_
      refine At.then_n ?_
      refine Wp.seq ?_
      refine Wp.block ?_
      by_cases h7 : alikeTo l x y i = true
      ·
        refine Wp.drawE 17 follows rfl (by kernel_rfl) ?_
        refine SegL.opE (OpT.move rfl) rfl ?_
        refine SegL.opE (OpT.asB (b := alikeTo l x y i) (c := true) (OpT.move rfl) (h7)) rfl ?_
        refine SegL.opGE rfl rfl (OpT.move rfl) rfl ?_
        refine SegL.opGE rfl rfl (OpT.move rfl) rfl ?_
        refine SegL.opGE rfl rfl (OpT.ixImm Try.underlying45 ti24 rfl (hl.mono hle3) rfl (by omega)) rfl ?_
        refine SegL.opGE rfl rfl (OpT.ldImmA  (vs := (bcl (nth l i))) Try.underlying24 rfl ti24 (bcl_ne _) rfl (hl.mono hle3) (bcl_at l i (by omega))) rfl ?_
        refine SegL.opGE rfl rfl (OpT.move rfl) rfl ?_
        refine SegL.opGE rfl rfl (OpT.call ent15 rfl (has_w (nth (l) (i)) x (by omega))) rfl ?_
        refine SegL.opGE rfl rfl (OpT.move rfl) rfl ?_
        refine SegL.opGE rfl rfl (OpT.move rfl) rfl ?_
        refine SegL.opGE rfl rfl (OpT.ixImm Try.underlying45 ti24 rfl (hl.mono hle3) rfl (by omega)) rfl ?_
        refine SegL.opGE rfl rfl (OpT.ldImmA  (vs := (bcl (nth l i))) Try.underlying24 rfl ti24 (bcl_ne _) rfl (hl.mono hle3) (bcl_at l i (by omega))) rfl ?_
        refine SegL.opGE rfl rfl (OpT.move rfl) rfl ?_
        refine SegL.opGE rfl rfl (OpT.call ent15 rfl (has_w (nth (l) (i)) y (by omega))) rfl ?_
        refine SegL.opGE rfl rfl (OpT.eqB Try.underlying4 rfl rfl) rfl ?_
        refine SegL.opE (OpT.pickT rfl rfl) rfl ?_
        refine SegL.opE (OpT.assign rfl) rfl ?_
        refine SegL.doneE ?_
        refine EndL.is (t := 8) (v := (.int .i64 (((i : Nat) : Int)))) rfl ?_
        refine EndL.is (t := 7) (v := (.bool ((nth (l) (i) x) == (nth (l) (i) y)))) rfl ?_
        refine EndL.is (t := 0) (v := v) rfl ?_
        refine EndL.is (t := 1) (v := (.int .u8 (((x : Nat) : Int)))) rfl ?_
        refine EndL.is (t := 2) (v := (.int .u8 (((y : Nat) : Int)))) rfl ?_
        refine EndL.is (t := 6) (v := (.bool (false))) rfl ?_
        refine EndL.is (t := 17) (v := (.int .i64 (((i : Nat) : Int)))) rfl ?_
        refine EndL.is (t := 18) (v := v) rfl ?_
        refine EndL.is (t := 19) (v := (.int .i64 (((l.length : Nat) : Int)))) rfl ?_
        refine EndL.is (t := 20) (v := (.bool (decide (((i : Nat) : Int) < ((l.length : Nat) : Int))))) rfl ?_
        refine EndL.is (t := 23) (v := (.bool (alikeTo l x y i))) rfl ?_
        refine EndL.is (t := 24) (v := (.bool (true))) rfl ?_
        refine EndL.is (t := 25) (v := v) rfl ?_
        refine EndL.is (t := 26) (v := (.int .i64 (((i : Nat) : Int)))) rfl ?_
        refine EndL.is (t := 27) (v := (elemPtr v (i * 4))) rfl ?_
        refine EndL.is (t := 28) (v := (.agg (bcs (nth l i)))) rfl ?_
        refine EndL.is (t := 29) (v := (.int .u8 (((x : Nat) : Int)))) rfl ?_
        refine EndL.is (t := 30) (v := (.bool (nth (l) (i) x))) rfl ?_
        refine EndL.is (t := 31) (v := v) rfl ?_
        refine EndL.is (t := 32) (v := (.int .i64 (((i : Nat) : Int)))) rfl ?_
        refine EndL.is (t := 33) (v := (elemPtr v (i * 4))) rfl ?_
        refine EndL.is (t := 34) (v := (.agg (bcs (nth l i)))) rfl ?_
        refine EndL.is (t := 35) (v := (.int .u8 (((y : Nat) : Int)))) rfl ?_
        refine EndL.is (t := 36) (v := (.bool (nth (l) (i) y))) rfl ?_
        refine EndL.is (t := 37) (v := (.bool ((nth (l) (i) x) == (nth (l) (i) y)))) rfl ?_
        refine EndL.is (t := 38) (v := (.bool ((nth (l) (i) x) == (nth (l) (i) y)))) rfl ?_
        refine EndL.seg ?_
        refine Seg.nil ?_
        refine At.blk_n ?_
        refine At.then_n ?_
        refine Wp.region ?_
        refine Seg.op (OpT.move rfl) rfl ?_
        refine Seg.op (OpT.add rfl rfl (fits64 (by omega))) rfl ?_
        refine Seg.op (OpT.assign rfl) rfl ?_
        refine Seg.nil ?_
        refine At.next (i + 1) (Hp.le.refl _) ?_ ?_ ?_ ?_
        · exact (by omega)
        · exact .cons (rfl) (.cons (lk_eq rfl (by first | rw [alikeTo_yes l x y i (by omega) h7] | rw [alikeTo_no l x y i (by omega) h7])) (.cons (rfl) (.cons (rfl) (.cons (rfl) (.cons (rfl) (.nil))))))
        · exact (rfl)
        · exact (by (try dsimp only); omega)
      ·
        refine Wp.drawE 17 follows rfl (by kernel_rfl) ?_
        refine SegL.opE (OpT.move rfl) rfl ?_
        refine SegL.opE (OpT.asB (b := alikeTo l x y i) (c := false) (OpT.move rfl) (Bool.eq_false_iff.2 h7)) rfl ?_
        refine SegL.skipGE rfl rfl rfl rfl ?_
        refine SegL.skipGE rfl rfl rfl rfl ?_
        refine SegL.skipGE rfl rfl rfl rfl ?_
        refine SegL.skipGE rfl rfl rfl rfl ?_
        refine SegL.skipGE rfl rfl rfl rfl ?_
        refine SegL.skipGE rfl rfl rfl rfl ?_
        refine SegL.skipGE rfl rfl rfl rfl ?_
        refine SegL.skipGE rfl rfl rfl rfl ?_
        refine SegL.skipGE rfl rfl rfl rfl ?_
        refine SegL.skipGE rfl rfl rfl rfl ?_
        refine SegL.skipGE rfl rfl rfl rfl ?_
        refine SegL.skipGE rfl rfl rfl rfl ?_
        refine SegL.skipGE rfl rfl rfl rfl ?_
        refine SegL.opE (OpT.pickF rfl rfl) rfl ?_
        refine SegL.opE (OpT.assign rfl) rfl ?_
        refine SegL.doneE ?_
        refine EndL.is (t := 8) (v := (.int .i64 (((i : Nat) : Int)))) rfl ?_
        refine EndL.is (t := 7) (v := (.bool (false))) rfl ?_
        refine EndL.is (t := 0) (v := v) rfl ?_
        refine EndL.is (t := 1) (v := (.int .u8 (((x : Nat) : Int)))) rfl ?_
        refine EndL.is (t := 2) (v := (.int .u8 (((y : Nat) : Int)))) rfl ?_
        refine EndL.is (t := 6) (v := (.bool (false))) rfl ?_
        refine EndL.is (t := 17) (v := (.int .i64 (((i : Nat) : Int)))) rfl ?_
        refine EndL.is (t := 18) (v := v) rfl ?_
        refine EndL.is (t := 19) (v := (.int .i64 (((l.length : Nat) : Int)))) rfl ?_
        refine EndL.is (t := 20) (v := (.bool (decide (((i : Nat) : Int) < ((l.length : Nat) : Int))))) rfl ?_
        refine EndL.is (t := 23) (v := (.bool (alikeTo l x y i))) rfl ?_
        refine EndL.is (t := 24) (v := (.bool (false))) rfl ?_
        refine EndL.is (t := 25) (v := undef) rfl ?_
        refine EndL.is (t := 26) (v := undef) rfl ?_
        refine EndL.is (t := 27) (v := undef) rfl ?_
        refine EndL.is (t := 28) (v := undef) rfl ?_
        refine EndL.is (t := 29) (v := undef) rfl ?_
        refine EndL.is (t := 30) (v := undef) rfl ?_
        refine EndL.is (t := 31) (v := undef) rfl ?_
        refine EndL.is (t := 32) (v := undef) rfl ?_
        refine EndL.is (t := 33) (v := undef) rfl ?_
        refine EndL.is (t := 34) (v := undef) rfl ?_
        refine EndL.is (t := 35) (v := undef) rfl ?_
        refine EndL.is (t := 36) (v := undef) rfl ?_
        refine EndL.is (t := 37) (v := undef) rfl ?_
        refine EndL.is (t := 38) (v := (.bool (false))) rfl ?_
        refine EndL.seg ?_
        refine Seg.nil ?_
        refine At.blk_n ?_
        refine At.then_n ?_
        refine Wp.region ?_
        refine Seg.op (OpT.move rfl) rfl ?_
        refine Seg.op (OpT.add rfl rfl (fits64 (by omega))) rfl ?_
        refine Seg.op (OpT.assign rfl) rfl ?_
        refine Seg.nil ?_
        refine At.next (i + 1) (Hp.le.refl _) ?_ ?_ ?_ ?_
        · exact (by omega)
        · exact .cons (rfl) (.cons (lk_eq rfl (by first | rw [alikeTo_yes l x y i (by omega) h7] | rw [alikeTo_no l x y i (by omega) h7])) (.cons (rfl) (.cons (rfl) (.cons (rfl) (.cons (rfl) (.nil))))))
        · exact (rfl)
        · exact (by (try dsimp only); omega)
    ·
      replace hb5 := of_decide_eq_false hb5
      refine Wp.exit ?_
      refine At.then_x ?_
      refine At.then_x ?_
      refine At.blk_hit ?_
      refine At.then_n ?_
      refine Wp.seq ?_
      refine Wp.region ?_
      refine Seg.op (OpT.move rfl) rfl ?_
      refine Seg.opS (OpS.call ent29 rfl (part_w l v (hl.mono hle3) hn)) rfl ?_
      rintro v6 H7 O8 hle9 hr10
      obtain ⟨hq, hr10⟩ := hr10
      subst O8
      have hle := parts_len l
      refine Seg.op (OpT.assign rfl) rfl ?_
      refine Seg.nil ?_
      refine At.then_n ?_
      refine Wp.seq ?_
      refine Wp.region ?_
      refine Seg.op (OpT.assign rfl) rfl ?_
      refine Seg.op (OpT.assign rfl) rfl ?_
      refine Seg.nil ?_
      refine At.then_n ?_
      refine Wp.seq ?_
      refine Wp.seq ?_
      refine Wp.region ?_
      refine Seg.op (OpT.assign rfl) rfl ?_
      refine Seg.nil ?_
      refine At.then_n ?_
      refine Wp.block ?_
      refine Wp.loop (X := Nat) (fun j => [(12, (.int .i64 (((j : Nat) : Int)))), (10, (.int .i64 ((((cntX (partsOf l) x j) : Nat) : Int)))), (11, (.bool (togX (partsOf l) x y j))), (7, (.bool (alikeTo l x y i))), (1, (.int .u8 (((x : Nat) : Int)))), (2, (.int .u8 (((y : Nat) : Int)))), (6, (.bool (false))), (9, v6)]) (fun j => [] ++ O) (fun j H' => j ≤ (partsOf l).length) (fun j => (partsOf l).length - j) 0 ?_ ?_ ?_ ?_
      · exact (by omega)
      · exact .cons (rfl) (.cons (lk_int rfl (by rw [cntX_zero]; rfl)) (.cons (lk_eq rfl (by rw [togX_zero])) (.cons (rfl) (.cons (rfl) (.cons (rfl) (.cons (rfl) (.cons (rfl) (.nil))))))))
      · exact (rfl)
      intro j H11 hle12 hi13
      have hj := hi13
      have hc := cntX_le (partsOf l) x j
      refine Wp.seq ?_
      refine Wp.seq ?_
      refine Wp.region ?_
      refine Seg.op (OpT.move rfl) rfl ?_
      refine Seg.op (OpT.move rfl) rfl ?_
      refine Seg.op (OpT.lenImm Try.underlying45 rfl (hr10.mono hle12)) rfl ?_
      refine Seg.op (OpT.lss rfl rfl) rfl ?_
      refine Seg.nil ?_
      refine At.then_n ?_
      refine Wp.cond (b := decide (((j : Nat) : Int) < (((partsOf l).length : Nat) : Int))) rfl (fun hb14 => ?_) (fun hb14 => ?_)
      ·
        replace hb14 := of_decide_eq_true hb14
        refine Wp.skip ?_
        refine At.then_n ?_
        refine Wp.seq ?_
        refine Wp.block ?_
        refine Wp.seq ?_
        refine Wp.region ?_
        refine Seg.op (OpT.move rfl) rfl ?_
        refine Seg.op (OpT.move rfl) rfl ?_
        refine Seg.op (OpT.ixImm Try.underlying45 ti24 rfl (hr10.mono hle12) rfl (by omega)) rfl ?_
        refine Seg.op (OpT.ldImmA  (vs := (bcl (nth (partsOf l) j))) Try.underlying24 rfl ti24 (bcl_ne _) rfl (hr10.mono hle12) (bcl_at (partsOf l) j (by omega))) rfl ?_
        refine Seg.op (OpT.move rfl) rfl ?_
        refine Seg.op (OpT.call ent15 rfl (has_w (nth (partsOf l) (j)) x (by omega))) rfl ?_
        refine Seg.nil ?_
        refine At.then_n ?_
        refine Wp.cond (b := nth (partsOf l) (j) x) rfl (fun hb15 => ?_) (fun hb15 => ?_)
        ·
          refine Wp.seq ?_
          refine Wp.region ?_
          refine Seg.op (OpT.move rfl) rfl ?_
          refine Seg.op (OpT.add rfl rfl (fits64 (by omega))) rfl ?_
          refine Seg.op (OpT.assign rfl) rfl ?_
          refine Seg.nil ?_
          refine At.then_n ?_
          refine Wp.region ?_
          refine Seg.op (OpT.move rfl) rfl ?_
          refine Seg.op (OpT.move rfl) rfl ?_
          refine Seg.op (OpT.ixImm Try.underlying45 ti24 rfl (hr10.mono hle12) rfl (by omega)) rfl ?_
          refine Seg.op (OpT.ldImmA  (vs := (bcl (nth (partsOf l) j))) Try.underlying24 rfl ti24 (bcl_ne _) rfl (hr10.mono hle12) (bcl_at (partsOf l) j (by omega))) rfl ?_
          refine Seg.op (OpT.move rfl) rfl ?_
          refine Seg.op (OpT.call ent15 rfl (has_w (nth (partsOf l) (j)) y (by omega))) rfl ?_
          refine Seg.op (OpT.assign rfl) rfl ?_
          refine Seg.nil ?_
          refine At.blk_n ?_
          refine At.then_n ?_
          refine Wp.region ?_
          refine Seg.op (OpT.move rfl) rfl ?_
          refine Seg.op (OpT.add rfl rfl (fits64 (by omega))) rfl ?_
          refine Seg.op (OpT.assign rfl) rfl ?_
          refine Seg.nil ?_
          refine At.next (j + 1) (Hp.le.refl _) ?_ ?_ ?_ ?_
          · exact (by omega)
          · exact .cons (rfl) (.cons (lk_int rfl (by first | (have := cntX_hit (partsOf l) x j (by omega) (by assumption); omega) | (have := cntX_skip (partsOf l) x j (by omega) (by assumption); omega))) (.cons (lk_eq rfl (by first | rw [togX_hit (partsOf l) x y j (by omega) (by assumption)] | rw [togX_skip (partsOf l) x y j (by omega) (by assumption)])) (.cons (rfl) (.cons (rfl) (.cons (rfl) (.cons (rfl) (.cons (rfl) (.nil))))))))
          · exact (rfl)
          · exact (by (try dsimp only); omega)
        ·
          refine Wp.skip ?_
          refine At.blk_n ?_
          refine At.then_n ?_
          refine Wp.region ?_
          refine Seg.op (OpT.move rfl) rfl ?_
          refine Seg.op (OpT.add rfl rfl (fits64 (by omega))) rfl ?_
          refine Seg.op (OpT.assign rfl) rfl ?_
          refine Seg.nil ?_
          refine At.next (j + 1) (Hp.le.refl _) ?_ ?_ ?_ ?_
          · exact (by omega)
          · exact .cons (rfl) (.cons (lk_int rfl (by first | (have := cntX_hit (partsOf l) x j (by omega) (by assumption); omega) | (have := cntX_skip (partsOf l) x j (by omega) (by assumption); omega))) (.cons (lk_eq rfl (by first | rw [togX_hit (partsOf l) x y j (by omega) (by assumption)] | rw [togX_skip (partsOf l) x y j (by omega) (by assumption)])) (.cons (rfl) (.cons (rfl) (.cons (rfl) (.cons (rfl) (.cons (rfl) (.nil))))))))
          · exact (rfl)
          · exact (by (try dsimp only); omega)
      ·
        replace hb14 := of_decide_eq_false hb14
        refine Wp.exit ?_
        refine At.then_x ?_
        refine At.then_x ?_
        refine At.blk_hit ?_
        refine At.then_n ?_
        refine Wp.seq ?_
        have hS := split_end l x y j hx hy (by omega)
        refine Wp.region ?_
        refine Seg.op (OpT.move rfl) rfl ?_
        refine Seg.op (OpT.asB (b := decide ((((cntX (partsOf l) x j) : Nat) : Int) = 1)) (c := true) (OpT.eql rfl rfl) (decide_eq_true (by rw [hS.1]; rfl))) rfl ?_
        refine Seg.op (OpT.move rfl) rfl ?_
        refine Seg.opG rfl rfl (OpT.move rfl) rfl ?_
        refine Seg.opG rfl rfl (OpT.move rfl) rfl ?_
        refine Seg.opG rfl rfl (OpT.asB (b := (togX (partsOf l) x y j) == (alikeTo l x y i)) (c := true) (OpT.eqB Try.underlying4 rfl rfl) (by rw [hS.2, alikeTo_done l x y i (by omega)]; simp)) rfl ?_
        refine Seg.op (OpT.pickT rfl rfl) rfl ?_
        refine Seg.op (OpT.move rfl) rfl ?_
        refine Seg.opG rfl rfl (OpT.call ent14 rfl (awake_w)) rfl ?_
        refine Seg.op (OpT.pickT rfl rfl) rfl ?_
        refine Seg.op (OpT.assign rfl) rfl ?_
        refine Seg.nil ?_
        refine At.then_n ?_
        refine Wp.ret ?_
        refine At.res1 rfl (RV.tmp (v := (.bool (true))) rfl) ?_
        exact fun w hs => ⟨rfl, (hs.dropN 0).weaken ((hle3.trans hle9).trans hle12)⟩

end Go.Proofs.Ythhhdpcbkkldgaa
