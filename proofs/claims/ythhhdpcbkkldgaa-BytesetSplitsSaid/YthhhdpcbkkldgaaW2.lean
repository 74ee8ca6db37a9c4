/- Walks, written by a program (gen.py), one law an operation. -/
import Derived.Test.YthhhdpcbkkldgaaW1
namespace Go.Proofs.Ythhhdpcbkkldgaa
open Go.GK
variable {H : Hp} {O : List Res}

set_option maxHeartbeats 4000000 in
theorem or_w (p q : Nat → Bool) :
    TriV Try.prog 17 [(.agg (bcs p)), (.agg (bcs q))] H O (bs (fun x => p x || q x)) := by
  intro w hs
  refine wp_of Try.func17 rfl rfl rfl ?_ hs
  clear hs w
  refine Wp.seq ?_
  refine Wp.region ?_
  refine Seg.box (cs := bcs p) rfl rfl rfl fun Ba => ?_
  refine Seg.box (cs := bcs q) rfl rfl rfl fun Bb => ?_
  refine Seg.alloc (cs := bcs (fun _ => false)) ti24 bcs_empty rfl fun Br => ?_
  refine Seg.nil ?_
  refine At.then_n ?_
  refine Wp.seq ?_
  refine Wp.seq ?_
  refine Wp.region ?_
  refine Seg.op (OpT.move rfl) rfl ?_
  refine Seg.nil ?_
  refine At.then_n ?_
  refine Wp.block ?_
  refine Wp.loop (X := Nat) (fun k => [(6, (.int .i64 (((k : Nat) : Int)))), (2, (ptr Ba (0))), (3, (ptr Bb (0))), (4, (ptr Br (0)))]) (fun k => .blk Br (.cells (bcs (fun _ => false)) 24 (0, 0)) :: .blk Bb (.cells (bcs q) 24 (0, 0)) :: .blk Ba (.cells (bcs (mixTo (fun x => p x || q x) p k)) 24 (0, 0)) :: O) (fun k H' => k ≤ 4) (fun k => 4 - k) 0 ?_ ?_ ?_ ?_
  · exact (by omega)
  · exact .cons (rfl) (.cons (rfl) (.cons (rfl) (.cons (rfl) (.nil))))
  · exact (by first | rfl | (rw [← mix_zero]; done) | (rw [← mix_zero]; rfl))
  intro k H1 hle2 hi3
  refine Wp.seq ?_
  refine Wp.region ?_
  refine Seg.op (OpT.lss rfl rfl) rfl ?_
  refine Seg.nil ?_
  refine At.then_n ?_
  refine Wp.seq ?_
  refine Wp.cond (b := decide (((k : Nat) : Int) < 4)) rfl (fun hb4 => ?_) (fun hb4 => ?_)
  ·
    replace hb4 := of_decide_eq_true hb4
    refine Wp.skip ?_
    refine At.then_n ?_
    refine Wp.seq ?_
    refine Wp.block ?_
    refine Wp.seq ?_
    refine Wp.region ?_
    refine Seg.op (OpT.move rfl) rfl ?_
    refine Seg.op (OpT.assign rfl) rfl ?_
    refine Seg.nil ?_
    refine At.then_n ?_
    refine Wp.drawE 8 follows rfl (by kernel_rfl) ?_
    refine SegL.opE (OpT.move rfl) rfl ?_
    refine SegL.opE (OpT.ixArr (off' := k) Try.underlying24 ti22 rfl rfl (by omega) (by omega)) rfl ?_
    refine SegL.opE (OpT.ldBlk (i := 2) (v := (w64 (word p k))) Try.underlying22 rfl rfl rfl (mix_get _ _ _ (by omega))) rfl ?_
    refine SegL.opE (OpT.move rfl) rfl ?_
    refine SegL.opE (OpT.ixArr (off' := k) Try.underlying24 ti22 rfl rfl (by omega) (by omega)) rfl ?_
    refine SegL.opE (OpT.ldBlk (i := 1) (v := (w64 (word q k))) Try.underlying22 rfl rfl rfl (bcs_get _ _ (by omega))) rfl ?_
    refine SegL.opE (OpT.orW rfl rfl) rfl ?_
    refine SegL.opE (OpT.ixArr (off' := k) Try.underlying24 ti22 rfl rfl (by omega) (by omega)) rfl ?_
    refine SegL.doneE ?_
    refine EndL.is (t := 6) (v := (.int .i64 (((k : Nat) : Int)))) rfl ?_
    refine EndL.is (t := 2) (v := (ptr Ba (0))) rfl ?_
    refine EndL.is (t := 3) (v := (ptr Bb (0))) rfl ?_
    refine EndL.is (t := 4) (v := (ptr Br (0))) rfl ?_
    refine EndL.is (t := 7) (v := (.bool (decide (((k : Nat) : Int) < 4)))) rfl ?_
    refine EndL.is (t := 8) (v := (.int .i64 (((k : Nat) : Int)))) rfl ?_
    refine EndL.is (t := 5) (v := (.int .i64 (((k : Nat) : Int)))) rfl ?_
    refine EndL.is (t := 9) (v := (.int .i64 (((k : Nat) : Int)))) rfl ?_
    refine EndL.is (t := 10) (v := (ptr Ba (k))) rfl ?_
    refine EndL.is (t := 11) (v := (w64 (word p k))) rfl ?_
    refine EndL.is (t := 12) (v := (.int .i64 (((k : Nat) : Int)))) rfl ?_
    refine EndL.is (t := 13) (v := (ptr Bb (k))) rfl ?_
    refine EndL.is (t := 14) (v := (w64 (word q k))) rfl ?_
    refine EndL.is (t := 15) (v := (w64 ((word p k) ||| (word q k)))) rfl ?_
    refine EndL.is (t := 16) (v := (ptr Ba (k))) rfl ?_
    refine EndL.seg ?_
    refine Seg.stBlk1 (i := 2) rfl rfl rfl ti22 rfl (by rw [bcs_size]; omega) ?_
    rw [mix_step _ _ k _ (by omega) (word_or p q k)]
    refine Seg.nil ?_
    refine At.blk_n ?_
    refine At.then_n ?_
    refine Wp.region ?_
    refine Seg.op (OpT.add rfl rfl (fits64 (by omega))) rfl ?_
    refine Seg.op (OpT.move rfl) rfl ?_
    refine Seg.nil ?_
    refine At.next (k + 1) (Hp.le.refl _) ?_ ?_ ?_ ?_
    · exact (by omega)
    · exact .cons (rfl) (.cons (rfl) (.cons (rfl) (.cons (rfl) (.nil))))
    · exact (rfl)
    · exact (by (try dsimp only); omega)
  ·
    replace hb4 := of_decide_eq_false hb4
    refine Wp.exit ?_
    refine At.then_x ?_
    refine At.then_x ?_
    refine At.blk_hit ?_
    refine At.then_n ?_
    refine Wp.seq ?_
    refine Wp.region ?_
    refine Seg.op (OpT.ldBlkW (i := 2) Try.underlying24 rfl ti24 rfl rfl rfl) rfl ?_
    refine Seg.stBlkW (i := 0) (cs' := (bcs (mixTo (fun x => p x || q x) p k))) rfl rfl ti24 rfl rfl (bcs_one _) rfl ?_
    refine Seg.nil ?_
    refine At.then_n ?_
    refine Wp.ret ?_
    refine At.res1 rfl (RV.cellA (i := 0) rfl Try.underlying24 rfl ti24 (rfl) rfl) ?_
    exact fun w hs => ⟨by exact congrArg (fun c => Ending.returned (.agg c)) (mix_done _ _ _ (by omega)), (hs.dropN 3).weaken hle2⟩

set_option maxHeartbeats 4000000 in
theorem ror_w (p q : Nat → Bool) :
    TriV Try.prog 18 [(.agg (bcs p)), (.agg (bcs q))] H O (bs (fun x => p x || q x)) := by
  intro w hs
  refine wp_of Try.func18 rfl rfl rfl ?_ hs
  clear hs w
  refine Wp.seq ?_
  refine Wp.region ?_
  refine Seg.box (cs := bcs p) rfl rfl rfl fun Ba => ?_
  refine Seg.box (cs := bcs q) rfl rfl rfl fun Bb => ?_
  refine Seg.alloc (cs := bcs (fun _ => false)) ti24 bcs_empty rfl fun Br => ?_
  refine Seg.nil ?_
  refine At.then_n ?_
  refine Wp.seq ?_
  refine Wp.region ?_
  refine Seg.op (OpT.cast (OpT.buildA (ps := []) Try.underlying24 ti24 ti22 rfl rfl rfl) (congrArg Value.agg bcs_empty)) rfl ?_
  refine Seg.alloc (cs := bcs (fun _ => false)) ti24 bcs_empty rfl fun Bo => ?_
  refine Seg.stBlkW (i := 0) (cs' := (bcs (fun _ => false))) rfl rfl ti24 rfl rfl (bcs_one _) rfl ?_
  refine Seg.nil ?_
  refine At.then_n ?_
  refine Wp.seq ?_
  refine Wp.seq ?_
  refine Wp.region ?_
  refine Seg.op (OpT.assign rfl) rfl ?_
  refine Seg.nil ?_
  refine At.then_n ?_
  refine Wp.block ?_
  refine Wp.loop (X := Nat) (fun k => [(6, (.int .i64 (((k : Nat) : Int)))), (2, (ptr Ba (0))), (3, (ptr Bb (0))), (4, (ptr Br (0))), (5, (ptr Bo (0)))]) (fun k => .blk Bo (.cells (bcs (upTo (fun x => p x || q x) k)) 24 (0, 0)) :: .blk Br (.cells (bcs (fun _ => false)) 24 (0, 0)) :: .blk Bb (.cells (bcs q) 24 (0, 0)) :: .blk Ba (.cells (bcs p) 24 (0, 0)) :: O) (fun k H' => k ≤ 256) (fun k => 256 - k) 0 ?_ ?_ ?_ ?_
  · exact (by omega)
  · exact .cons (rfl) (.cons (rfl) (.cons (rfl) (.cons (rfl) (.cons (rfl) (.nil)))))
  · exact (by first | rfl | (rw [← upTo_zero]; done) | (rw [← upTo_zero]; rfl))
  intro k H1 hle2 hi3
  refine Wp.seq ?_
  refine Wp.seq ?_
  refine Wp.region ?_
  refine Seg.op (OpT.move rfl) rfl ?_
  refine Seg.op (OpT.lss rfl rfl) rfl ?_
  refine Seg.nil ?_
  refine At.then_n ?_
  refine Wp.cond (b := decide (((k : Nat) : Int) < 256)) rfl (fun hb4 => ?_) (fun hb4 => ?_)
  ·
    replace hb4 := of_decide_eq_true hb4
    refine Wp.skip ?_
    refine At.then_n ?_
    refine Wp.seq ?_
    refine Wp.block ?_
    refine Wp.seq ?_
    refine Wp.region ?_
    refine Seg.op (OpT.ldBlkW (i := 3) Try.underlying24 rfl ti24 rfl rfl rfl) rfl ?_
    refine Seg.op (OpT.move rfl) rfl ?_
    refine Seg.op (OpT.call ent32 rfl (rhas_w p k (by omega))) rfl ?_
    refine Seg.op (OpT.move rfl) rfl ?_
    refine Seg.split (t := 15) (b := p k) rfl (fun hb5 => ?_) (fun hb5 => ?_)
    ·
      refine Seg.skipG rfl rfl rfl rfl ?_
      refine Seg.skipG rfl rfl rfl rfl ?_
      refine Seg.skipG rfl rfl rfl rfl ?_
      refine Seg.op (OpT.pickT rfl rfl) rfl ?_
      refine Seg.nil ?_
      refine At.then_n ?_
      refine Wp.condT rfl ?_
      refine Wp.region ?_
      refine Seg.op (OpT.ldBlkW (i := 0) Try.underlying24 rfl ti24 rfl rfl rfl) rfl ?_
      refine Seg.op (OpT.move rfl) rfl ?_
      refine Seg.op (OpT.cast (v' := (.agg (bcs (upTo (fun x => p x || q x) (k + 1))))) (OpT.call ent31 rfl (with_w (upTo (fun x => p x || q x) k) k (by omega))) (congrArg Value.agg (upTo_hit _ k (by simp_all)))) rfl ?_
      refine Seg.stBlkW (i := 0) (cs' := (bcs (upTo (fun x => p x || q x) (k + 1)))) rfl rfl ti24 rfl rfl (bcs_one _) rfl ?_
      refine Seg.nil ?_
      refine At.blk_n ?_
      refine At.then_n ?_
      refine Wp.region ?_
      refine Seg.op (OpT.move rfl) rfl ?_
      refine Seg.op (OpT.add rfl rfl (fits64 (by omega))) rfl ?_
      refine Seg.op (OpT.assign rfl) rfl ?_
      refine Seg.nil ?_
      refine At.next (k + 1) (Hp.le.refl _) ?_ ?_ ?_ ?_
      · exact (by omega)
      · exact .cons (rfl) (.cons (rfl) (.cons (rfl) (.cons (rfl) (.cons (rfl) (.nil)))))
      · exact (by first | rfl | (rw [upTo_skip _ k (by simp_all)]; done) | (rw [upTo_skip _ k (by simp_all)]; rfl))
      · exact (by (try dsimp only); omega)
    ·
      refine Seg.opG rfl rfl (OpT.ldBlkW (i := 2) Try.underlying24 rfl ti24 rfl rfl rfl) rfl ?_
      refine Seg.opG rfl rfl (OpT.move rfl) rfl ?_
      refine Seg.opG rfl rfl (OpT.call ent32 rfl (rhas_w q k (by omega))) rfl ?_
      refine Seg.op (OpT.pickF rfl rfl) rfl ?_
      refine Seg.nil ?_
      refine At.then_n ?_
      refine Wp.cond (b := q k) rfl (fun hb6 => ?_) (fun hb6 => ?_)
      ·
        refine Wp.region ?_
        refine Seg.op (OpT.ldBlkW (i := 0) Try.underlying24 rfl ti24 rfl rfl rfl) rfl ?_
        refine Seg.op (OpT.move rfl) rfl ?_
        refine Seg.op (OpT.cast (v' := (.agg (bcs (upTo (fun x => p x || q x) (k + 1))))) (OpT.call ent31 rfl (with_w (upTo (fun x => p x || q x) k) k (by omega))) (congrArg Value.agg (upTo_hit _ k (by simp_all)))) rfl ?_
        refine Seg.stBlkW (i := 0) (cs' := (bcs (upTo (fun x => p x || q x) (k + 1)))) rfl rfl ti24 rfl rfl (bcs_one _) rfl ?_
        refine Seg.nil ?_
        refine At.blk_n ?_
        refine At.then_n ?_
        refine Wp.region ?_
        refine Seg.op (OpT.move rfl) rfl ?_
        refine Seg.op (OpT.add rfl rfl (fits64 (by omega))) rfl ?_
        refine Seg.op (OpT.assign rfl) rfl ?_
        refine Seg.nil ?_
        refine At.next (k + 1) (Hp.le.refl _) ?_ ?_ ?_ ?_
        · exact (by omega)
        · exact .cons (rfl) (.cons (rfl) (.cons (rfl) (.cons (rfl) (.cons (rfl) (.nil)))))
        · exact (by first | rfl | (rw [upTo_skip _ k (by simp_all)]; done) | (rw [upTo_skip _ k (by simp_all)]; rfl))
        · exact (by (try dsimp only); omega)
      ·
        refine Wp.skip ?_
        refine At.blk_n ?_
        refine At.then_n ?_
        refine Wp.region ?_
        refine Seg.op (OpT.move rfl) rfl ?_
        refine Seg.op (OpT.add rfl rfl (fits64 (by omega))) rfl ?_
        refine Seg.op (OpT.assign rfl) rfl ?_
        refine Seg.nil ?_
        refine At.next (k + 1) (Hp.le.refl _) ?_ ?_ ?_ ?_
        · exact (by omega)
        · exact .cons (rfl) (.cons (rfl) (.cons (rfl) (.cons (rfl) (.cons (rfl) (.nil)))))
        · exact (by first | rfl | (rw [upTo_skip _ k (by simp_all)]; done) | (rw [upTo_skip _ k (by simp_all)]; rfl))
        · exact (by (try dsimp only); omega)
  ·
    replace hb4 := of_decide_eq_false hb4
    refine Wp.exit ?_
    refine At.then_x ?_
    refine At.then_x ?_
    refine At.blk_hit ?_
    refine At.then_n ?_
    refine Wp.seq ?_
    refine Wp.region ?_
    refine Seg.op (OpT.ldBlkW (i := 0) Try.underlying24 rfl ti24 rfl rfl rfl) rfl ?_
    refine Seg.stBlkW (i := 1) (cs' := (bcs (upTo (fun x => p x || q x) k))) rfl rfl ti24 rfl rfl (bcs_one _) rfl ?_
    refine Seg.nil ?_
    refine At.then_n ?_
    refine Wp.ret ?_
    refine At.res1 rfl (RV.cellA (i := 1) rfl Try.underlying24 rfl ti24 (rfl) rfl) ?_
    exact fun w hs => ⟨by exact congrArg (fun c => Ending.returned (.agg c)) (upTo_done _ _ (by omega)), (hs.dropN 4).weaken hle2⟩

set_option maxHeartbeats 4000000 in
theorem and_w (p q : Nat → Bool) :
    TriV Try.prog 19 [(.agg (bcs p)), (.agg (bcs q))] H O (bs (fun x => p x && q x)) := by
  intro w hs
  refine wp_of Try.func19 rfl rfl rfl ?_ hs
  clear hs w
  refine Wp.seq ?_
  refine Wp.region ?_
  refine Seg.box (cs := bcs p) rfl rfl rfl fun Ba => ?_
  refine Seg.box (cs := bcs q) rfl rfl rfl fun Bb => ?_
  refine Seg.alloc (cs := bcs (fun _ => false)) ti24 bcs_empty rfl fun Br => ?_
  refine Seg.nil ?_
  refine At.then_n ?_
  refine Wp.seq ?_
  refine Wp.seq ?_
  refine Wp.region ?_
  refine Seg.op (OpT.move rfl) rfl ?_
  refine Seg.nil ?_
  refine At.then_n ?_
  refine Wp.block ?_
  refine Wp.loop (X := Nat) (fun k => [(6, (.int .i64 (((k : Nat) : Int)))), (2, (ptr Ba (0))), (3, (ptr Bb (0))), (4, (ptr Br (0)))]) (fun k => .blk Br (.cells (bcs (fun _ => false)) 24 (0, 0)) :: .blk Bb (.cells (bcs q) 24 (0, 0)) :: .blk Ba (.cells (bcs (mixTo (fun x => p x && q x) p k)) 24 (0, 0)) :: O) (fun k H' => k ≤ 4) (fun k => 4 - k) 0 ?_ ?_ ?_ ?_
  · exact (by omega)
  · exact .cons (rfl) (.cons (rfl) (.cons (rfl) (.cons (rfl) (.nil))))
  · exact (by first | rfl | (rw [← mix_zero]; done) | (rw [← mix_zero]; rfl))
  intro k H1 hle2 hi3
  refine Wp.seq ?_
  refine Wp.region ?_
  refine Seg.op (OpT.lss rfl rfl) rfl ?_
  refine Seg.nil ?_
  refine At.then_n ?_
  refine Wp.seq ?_
  refine Wp.cond (b := decide (((k : Nat) : Int) < 4)) rfl (fun hb4 => ?_) (fun hb4 => ?_)
  ·
    replace hb4 := of_decide_eq_true hb4
    refine Wp.skip ?_
    refine At.then_n ?_
    refine Wp.seq ?_
    refine Wp.block ?_
    refine Wp.seq ?_
    refine Wp.region ?_
    refine Seg.op (OpT.move rfl) rfl ?_
    refine Seg.op (OpT.assign rfl) rfl ?_
    refine Seg.nil ?_
    refine At.then_n ?_
    refine Wp.drawE 8 follows rfl (by kernel_rfl) ?_
    refine SegL.opE (OpT.move rfl) rfl ?_
    refine SegL.opE (OpT.ixArr (off' := k) Try.underlying24 ti22 rfl rfl (by omega) (by omega)) rfl ?_
    refine SegL.opE (OpT.ldBlk (i := 2) (v := (w64 (word p k))) Try.underlying22 rfl rfl rfl (mix_get _ _ _ (by omega))) rfl ?_
    refine SegL.opE (OpT.move rfl) rfl ?_
    refine SegL.opE (OpT.ixArr (off' := k) Try.underlying24 ti22 rfl rfl (by omega) (by omega)) rfl ?_
    refine SegL.opE (OpT.ldBlk (i := 1) (v := (w64 (word q k))) Try.underlying22 rfl rfl rfl (bcs_get _ _ (by omega))) rfl ?_
    refine SegL.opE (OpT.andW rfl rfl) rfl ?_
    refine SegL.opE (OpT.ixArr (off' := k) Try.underlying24 ti22 rfl rfl (by omega) (by omega)) rfl ?_
    refine SegL.doneE ?_
    refine EndL.is (t := 6) (v := (.int .i64 (((k : Nat) : Int)))) rfl ?_
    refine EndL.is (t := 2) (v := (ptr Ba (0))) rfl ?_
    refine EndL.is (t := 3) (v := (ptr Bb (0))) rfl ?_
    refine EndL.is (t := 4) (v := (ptr Br (0))) rfl ?_
    refine EndL.is (t := 7) (v := (.bool (decide (((k : Nat) : Int) < 4)))) rfl ?_
    refine EndL.is (t := 8) (v := (.int .i64 (((k : Nat) : Int)))) rfl ?_
    refine EndL.is (t := 5) (v := (.int .i64 (((k : Nat) : Int)))) rfl ?_
    refine EndL.is (t := 9) (v := (.int .i64 (((k : Nat) : Int)))) rfl ?_
    refine EndL.is (t := 10) (v := (ptr Ba (k))) rfl ?_
    refine EndL.is (t := 11) (v := (w64 (word p k))) rfl ?_
    refine EndL.is (t := 12) (v := (.int .i64 (((k : Nat) : Int)))) rfl ?_
    refine EndL.is (t := 13) (v := (ptr Bb (k))) rfl ?_
    refine EndL.is (t := 14) (v := (w64 (word q k))) rfl ?_
    refine EndL.is (t := 15) (v := (w64 ((word p k) &&& (word q k)))) rfl ?_
    refine EndL.is (t := 16) (v := (ptr Ba (k))) rfl ?_
    refine EndL.seg ?_
    refine Seg.stBlk1 (i := 2) rfl rfl rfl ti22 rfl (by rw [bcs_size]; omega) ?_
    rw [mix_step _ _ k _ (by omega) (word_and p q k)]
    refine Seg.nil ?_
    refine At.blk_n ?_
    refine At.then_n ?_
    refine Wp.region ?_
    refine Seg.op (OpT.add rfl rfl (fits64 (by omega))) rfl ?_
    refine Seg.op (OpT.move rfl) rfl ?_
    refine Seg.nil ?_
    refine At.next (k + 1) (Hp.le.refl _) ?_ ?_ ?_ ?_
    · exact (by omega)
    · exact .cons (rfl) (.cons (rfl) (.cons (rfl) (.cons (rfl) (.nil))))
    · exact (rfl)
    · exact (by (try dsimp only); omega)
  ·
    replace hb4 := of_decide_eq_false hb4
    refine Wp.exit ?_
    refine At.then_x ?_
    refine At.then_x ?_
    refine At.blk_hit ?_
    refine At.then_n ?_
    refine Wp.seq ?_
    refine Wp.region ?_
    refine Seg.op (OpT.ldBlkW (i := 2) Try.underlying24 rfl ti24 rfl rfl rfl) rfl ?_
    refine Seg.stBlkW (i := 0) (cs' := (bcs (mixTo (fun x => p x && q x) p k))) rfl rfl ti24 rfl rfl (bcs_one _) rfl ?_
    refine Seg.nil ?_
    refine At.then_n ?_
    refine Wp.ret ?_
    refine At.res1 rfl (RV.cellA (i := 0) rfl Try.underlying24 rfl ti24 (rfl) rfl) ?_
    exact fun w hs => ⟨by exact congrArg (fun c => Ending.returned (.agg c)) (mix_done _ _ _ (by omega)), (hs.dropN 3).weaken hle2⟩

set_option maxHeartbeats 4000000 in
theorem rand_w (p q : Nat → Bool) :
    TriV Try.prog 20 [(.agg (bcs p)), (.agg (bcs q))] H O (bs (fun x => p x && q x)) := by
  intro w hs
  refine wp_of Try.func20 rfl rfl rfl ?_ hs
  clear hs w
  refine Wp.seq ?_
  refine Wp.region ?_
  refine Seg.box (cs := bcs p) rfl rfl rfl fun Ba => ?_
  refine Seg.box (cs := bcs q) rfl rfl rfl fun Bb => ?_
  refine Seg.alloc (cs := bcs (fun _ => false)) ti24 bcs_empty rfl fun Br => ?_
  refine Seg.nil ?_
  refine At.then_n ?_
  refine Wp.seq ?_
  refine Wp.region ?_
  refine Seg.op (OpT.cast (OpT.buildA (ps := []) Try.underlying24 ti24 ti22 rfl rfl rfl) (congrArg Value.agg bcs_empty)) rfl ?_
  refine Seg.alloc (cs := bcs (fun _ => false)) ti24 bcs_empty rfl fun Bo => ?_
  refine Seg.stBlkW (i := 0) (cs' := (bcs (fun _ => false))) rfl rfl ti24 rfl rfl (bcs_one _) rfl ?_
  refine Seg.nil ?_
  refine At.then_n ?_
  refine Wp.seq ?_
  refine Wp.seq ?_
  refine Wp.region ?_
  refine Seg.op (OpT.assign rfl) rfl ?_
  refine Seg.nil ?_
  refine At.then_n ?_
  refine Wp.block ?_
  refine Wp.loop (X := Nat) (fun k => [(6, (.int .i64 (((k : Nat) : Int)))), (2, (ptr Ba (0))), (3, (ptr Bb (0))), (4, (ptr Br (0))), (5, (ptr Bo (0)))]) (fun k => .blk Bo (.cells (bcs (upTo (fun x => p x && q x) k)) 24 (0, 0)) :: .blk Br (.cells (bcs (fun _ => false)) 24 (0, 0)) :: .blk Bb (.cells (bcs q) 24 (0, 0)) :: .blk Ba (.cells (bcs p) 24 (0, 0)) :: O) (fun k H' => k ≤ 256) (fun k => 256 - k) 0 ?_ ?_ ?_ ?_
  · exact (by omega)
  · exact .cons (rfl) (.cons (rfl) (.cons (rfl) (.cons (rfl) (.cons (rfl) (.nil)))))
  · exact (by first | rfl | (rw [← upTo_zero]; done) | (rw [← upTo_zero]; rfl))
  intro k H1 hle2 hi3
  refine Wp.seq ?_
  refine Wp.seq ?_
  refine Wp.region ?_
  refine Seg.op (OpT.move rfl) rfl ?_
  refine Seg.op (OpT.lss rfl rfl) rfl ?_
  refine Seg.nil ?_
  refine At.then_n ?_
  refine Wp.cond (b := decide (((k : Nat) : Int) < 256)) rfl (fun hb4 => ?_) (fun hb4 => ?_)
  ·
    replace hb4 := of_decide_eq_true hb4
    refine Wp.skip ?_
    refine At.then_n ?_
    refine Wp.seq ?_
    refine Wp.block ?_
    refine Wp.seq ?_
    refine Wp.region ?_
    refine Seg.op (OpT.ldBlkW (i := 3) Try.underlying24 rfl ti24 rfl rfl rfl) rfl ?_
    refine Seg.op (OpT.move rfl) rfl ?_
    refine Seg.op (OpT.call ent32 rfl (rhas_w p k (by omega))) rfl ?_
    refine Seg.op (OpT.move rfl) rfl ?_
    refine Seg.split (t := 15) (b := p k) rfl (fun hb5 => ?_) (fun hb5 => ?_)
    ·
      refine Seg.opG rfl rfl (OpT.ldBlkW (i := 2) Try.underlying24 rfl ti24 rfl rfl rfl) rfl ?_
      refine Seg.opG rfl rfl (OpT.move rfl) rfl ?_
      refine Seg.opG rfl rfl (OpT.call ent32 rfl (rhas_w q k (by omega))) rfl ?_
      refine Seg.op (OpT.pickT rfl rfl) rfl ?_
      refine Seg.nil ?_
      refine At.then_n ?_
      refine Wp.cond (b := q k) rfl (fun hb6 => ?_) (fun hb6 => ?_)
      ·
        refine Wp.region ?_
        refine Seg.op (OpT.ldBlkW (i := 0) Try.underlying24 rfl ti24 rfl rfl rfl) rfl ?_
        refine Seg.op (OpT.move rfl) rfl ?_
        refine Seg.op (OpT.cast (v' := (.agg (bcs (upTo (fun x => p x && q x) (k + 1))))) (OpT.call ent31 rfl (with_w (upTo (fun x => p x && q x) k) k (by omega))) (congrArg Value.agg (upTo_hit _ k (by simp_all)))) rfl ?_
        refine Seg.stBlkW (i := 0) (cs' := (bcs (upTo (fun x => p x && q x) (k + 1)))) rfl rfl ti24 rfl rfl (bcs_one _) rfl ?_
        refine Seg.nil ?_
        refine At.blk_n ?_
        refine At.then_n ?_
        refine Wp.region ?_
        refine Seg.op (OpT.move rfl) rfl ?_
        refine Seg.op (OpT.add rfl rfl (fits64 (by omega))) rfl ?_
        refine Seg.op (OpT.assign rfl) rfl ?_
        refine Seg.nil ?_
        refine At.next (k + 1) (Hp.le.refl _) ?_ ?_ ?_ ?_
        · exact (by omega)
        · exact .cons (rfl) (.cons (rfl) (.cons (rfl) (.cons (rfl) (.cons (rfl) (.nil)))))
        · exact (by first | rfl | (rw [upTo_skip _ k (by simp_all)]; done) | (rw [upTo_skip _ k (by simp_all)]; rfl))
        · exact (by (try dsimp only); omega)
      ·
        refine Wp.skip ?_
        refine At.blk_n ?_
        refine At.then_n ?_
        refine Wp.region ?_
        refine Seg.op (OpT.move rfl) rfl ?_
        refine Seg.op (OpT.add rfl rfl (fits64 (by omega))) rfl ?_
        refine Seg.op (OpT.assign rfl) rfl ?_
        refine Seg.nil ?_
        refine At.next (k + 1) (Hp.le.refl _) ?_ ?_ ?_ ?_
        · exact (by omega)
        · exact .cons (rfl) (.cons (rfl) (.cons (rfl) (.cons (rfl) (.cons (rfl) (.nil)))))
        · exact (by first | rfl | (rw [upTo_skip _ k (by simp_all)]; done) | (rw [upTo_skip _ k (by simp_all)]; rfl))
        · exact (by (try dsimp only); omega)
    ·
      refine Seg.skipG rfl rfl rfl rfl ?_
      refine Seg.skipG rfl rfl rfl rfl ?_
      refine Seg.skipG rfl rfl rfl rfl ?_
      refine Seg.op (OpT.pickF rfl rfl) rfl ?_
      refine Seg.nil ?_
      refine At.then_n ?_
      refine Wp.condF rfl ?_
      refine Wp.skip ?_
      refine At.blk_n ?_
      refine At.then_n ?_
      refine Wp.region ?_
      refine Seg.op (OpT.move rfl) rfl ?_
      refine Seg.op (OpT.add rfl rfl (fits64 (by omega))) rfl ?_
      refine Seg.op (OpT.assign rfl) rfl ?_
      refine Seg.nil ?_
      refine At.next (k + 1) (Hp.le.refl _) ?_ ?_ ?_ ?_
      · exact (by omega)
      · exact .cons (rfl) (.cons (rfl) (.cons (rfl) (.cons (rfl) (.cons (rfl) (.nil)))))
      · exact (by first | rfl | (rw [upTo_skip _ k (by simp_all)]; done) | (rw [upTo_skip _ k (by simp_all)]; rfl))
      · exact (by (try dsimp only); omega)
  ·
    replace hb4 := of_decide_eq_false hb4
    refine Wp.exit ?_
    refine At.then_x ?_
    refine At.then_x ?_
    refine At.blk_hit ?_
    refine At.then_n ?_
    refine Wp.seq ?_
    refine Wp.region ?_
    refine Seg.op (OpT.ldBlkW (i := 0) Try.underlying24 rfl ti24 rfl rfl rfl) rfl ?_
    refine Seg.stBlkW (i := 1) (cs' := (bcs (upTo (fun x => p x && q x) k))) rfl rfl ti24 rfl rfl (bcs_one _) rfl ?_
    refine Seg.nil ?_
    refine At.then_n ?_
    refine Wp.ret ?_
    refine At.res1 rfl (RV.cellA (i := 1) rfl Try.underlying24 rfl ti24 (rfl) rfl) ?_
    exact fun w hs => ⟨by exact congrArg (fun c => Ending.returned (.agg c)) (upTo_done _ _ (by omega)), (hs.dropN 4).weaken hle2⟩

set_option maxHeartbeats 4000000 in
theorem not_w (p : Nat → Bool) :
    TriV Try.prog 21 [(.agg (bcs p))] H O (bs (fun x => !p x)) := by
  intro w hs
  refine wp_of Try.func21 rfl rfl rfl ?_ hs
  clear hs w
  refine Wp.seq ?_
  refine Wp.region ?_
  refine Seg.box (cs := bcs p) rfl rfl rfl fun Ba => ?_
  refine Seg.alloc (cs := bcs (fun _ => false)) ti24 bcs_empty rfl fun Br => ?_
  refine Seg.nil ?_
  refine At.then_n ?_
  refine Wp.seq ?_
  refine Wp.seq ?_
  refine Wp.region ?_
  refine Seg.op (OpT.move rfl) rfl ?_
  refine Seg.nil ?_
  refine At.then_n ?_
  refine Wp.block ?_
  refine Wp.loop (X := Nat) (fun k => [(4, (.int .i64 (((k : Nat) : Int)))), (1, (ptr Ba (0))), (2, (ptr Br (0)))]) (fun k => .blk Br (.cells (bcs (fun _ => false)) 24 (0, 0)) :: .blk Ba (.cells (bcs (mixTo (fun x => !p x) p k)) 24 (0, 0)) :: O) (fun k H' => k ≤ 4) (fun k => 4 - k) 0 ?_ ?_ ?_ ?_
  · exact (by omega)
  · exact .cons (rfl) (.cons (rfl) (.cons (rfl) (.nil)))
  · exact (by first | rfl | (rw [← mix_zero]; done) | (rw [← mix_zero]; rfl))
  intro k H1 hle2 hi3
  refine Wp.seq ?_
  refine Wp.region ?_
  refine Seg.op (OpT.lss rfl rfl) rfl ?_
  refine Seg.nil ?_
  refine At.then_n ?_
  refine Wp.seq ?_
  refine Wp.cond (b := decide (((k : Nat) : Int) < 4)) rfl (fun hb4 => ?_) (fun hb4 => ?_)
  ·
    replace hb4 := of_decide_eq_true hb4
    refine Wp.skip ?_
    refine At.then_n ?_
    refine Wp.seq ?_
    refine Wp.block ?_
    refine Wp.seq ?_
    refine Wp.region ?_
    refine Seg.op (OpT.move rfl) rfl ?_
    refine Seg.op (OpT.assign rfl) rfl ?_
    refine Seg.nil ?_
    refine At.then_n ?_
    refine Wp.region ?_
    refine Seg.op (OpT.move rfl) rfl ?_
    refine Seg.op (OpT.move rfl) rfl ?_
    refine Seg.op (OpT.ixArr (off' := k) Try.underlying24 ti22 rfl rfl (by omega) (by omega)) rfl ?_
    refine Seg.op (OpT.ldBlk (i := 1) (v := (w64 (word p k))) Try.underlying22 rfl rfl rfl (mix_get _ _ _ (by omega))) rfl ?_
    refine Seg.op (OpT.notW rfl) rfl ?_
    refine Seg.op (OpT.ixArr (off' := k) Try.underlying24 ti22 rfl rfl (by omega) (by omega)) rfl ?_
    refine Seg.stBlk1 (i := 1) rfl rfl rfl ti22 rfl (by rw [bcs_size]; omega) ?_
    rw [mix_step _ _ k _ (by omega) (word_not p k)]
    refine Seg.nil ?_
    refine At.blk_n ?_
    refine At.then_n ?_
    refine Wp.region ?_
    refine Seg.op (OpT.add rfl rfl (fits64 (by omega))) rfl ?_
    refine Seg.op (OpT.move rfl) rfl ?_
    refine Seg.nil ?_
    refine At.next (k + 1) (Hp.le.refl _) ?_ ?_ ?_ ?_
    · exact (by omega)
    · exact .cons (rfl) (.cons (rfl) (.cons (rfl) (.nil)))
    · exact (rfl)
    · exact (by (try dsimp only); omega)
  ·
    replace hb4 := of_decide_eq_false hb4
    refine Wp.exit ?_
    refine At.then_x ?_
    refine At.then_x ?_
    refine At.blk_hit ?_
    refine At.then_n ?_
    refine Wp.seq ?_
    refine Wp.region ?_
    refine Seg.op (OpT.ldBlkW (i := 1) Try.underlying24 rfl ti24 rfl rfl rfl) rfl ?_
    refine Seg.stBlkW (i := 0) (cs' := (bcs (mixTo (fun x => !p x) p k))) rfl rfl ti24 rfl rfl (bcs_one _) rfl ?_
    refine Seg.nil ?_
    refine At.then_n ?_
    refine Wp.ret ?_
    refine At.res1 rfl (RV.cellA (i := 0) rfl Try.underlying24 rfl ti24 (rfl) rfl) ?_
    exact fun w hs => ⟨by exact congrArg (fun c => Ending.returned (.agg c)) (mix_done _ _ _ (by omega)), (hs.dropN 2).weaken hle2⟩

set_option maxHeartbeats 4000000 in
theorem rnot_w (p : Nat → Bool) :
    TriV Try.prog 22 [(.agg (bcs p))] H O (bs (fun x => !p x)) := by
  intro w hs
  refine wp_of Try.func22 rfl rfl rfl ?_ hs
  clear hs w
  refine Wp.seq ?_
  refine Wp.region ?_
  refine Seg.box (cs := bcs p) rfl rfl rfl fun Ba => ?_
  refine Seg.alloc (cs := bcs (fun _ => false)) ti24 bcs_empty rfl fun Br => ?_
  refine Seg.nil ?_
  refine At.then_n ?_
  refine Wp.seq ?_
  refine Wp.region ?_
  refine Seg.op (OpT.cast (OpT.buildA (ps := []) Try.underlying24 ti24 ti22 rfl rfl rfl) (congrArg Value.agg bcs_empty)) rfl ?_
  refine Seg.alloc (cs := bcs (fun _ => false)) ti24 bcs_empty rfl fun Bo => ?_
  refine Seg.stBlkW (i := 0) (cs' := (bcs (fun _ => false))) rfl rfl ti24 rfl rfl (bcs_one _) rfl ?_
  refine Seg.nil ?_
  refine At.then_n ?_
  refine Wp.seq ?_
  refine Wp.seq ?_
  refine Wp.region ?_
  refine Seg.op (OpT.assign rfl) rfl ?_
  refine Seg.nil ?_
  refine At.then_n ?_
  refine Wp.block ?_
  refine Wp.loop (X := Nat) (fun k => [(4, (.int .i64 (((k : Nat) : Int)))), (1, (ptr Ba (0))), (2, (ptr Br (0))), (3, (ptr Bo (0)))]) (fun k => .blk Bo (.cells (bcs (upTo (fun x => !p x) k)) 24 (0, 0)) :: .blk Br (.cells (bcs (fun _ => false)) 24 (0, 0)) :: .blk Ba (.cells (bcs p) 24 (0, 0)) :: O) (fun k H' => k ≤ 256) (fun k => 256 - k) 0 ?_ ?_ ?_ ?_
  · exact (by omega)
  · exact .cons (rfl) (.cons (rfl) (.cons (rfl) (.cons (rfl) (.nil))))
  · exact (by first | rfl | (rw [← upTo_zero]; done) | (rw [← upTo_zero]; rfl))
  intro k H1 hle2 hi3
  refine Wp.seq ?_
  refine Wp.seq ?_
  refine Wp.region ?_
  refine Seg.op (OpT.move rfl) rfl ?_
  refine Seg.op (OpT.lss rfl rfl) rfl ?_
  refine Seg.nil ?_
  refine At.then_n ?_
  refine Wp.cond (b := decide (((k : Nat) : Int) < 256)) rfl (fun hb4 => ?_) (fun hb4 => ?_)
  ·
    replace hb4 := of_decide_eq_true hb4
    refine Wp.skip ?_
    refine At.then_n ?_
    refine Wp.seq ?_
    refine Wp.block ?_
    refine Wp.seq ?_
    refine Wp.region ?_
    refine Seg.op (OpT.ldBlkW (i := 2) Try.underlying24 rfl ti24 rfl rfl rfl) rfl ?_
    refine Seg.op (OpT.move rfl) rfl ?_
    refine Seg.op (OpT.call ent32 rfl (rhas_w p k (by omega))) rfl ?_
    refine Seg.op (OpT.not rfl) rfl ?_
    refine Seg.nil ?_
    refine At.then_n ?_
    refine Wp.cond (b := !(p k)) rfl (fun hb5 => ?_) (fun hb5 => ?_)
    ·
      refine Wp.region ?_
      refine Seg.op (OpT.ldBlkW (i := 0) Try.underlying24 rfl ti24 rfl rfl rfl) rfl ?_
      refine Seg.op (OpT.move rfl) rfl ?_
      refine Seg.op (OpT.cast (v' := (.agg (bcs (upTo (fun x => !p x) (k + 1))))) (OpT.call ent31 rfl (with_w (upTo (fun x => !p x) k) k (by omega))) (congrArg Value.agg (upTo_hit _ k (by simp_all)))) rfl ?_
      refine Seg.stBlkW (i := 0) (cs' := (bcs (upTo (fun x => !p x) (k + 1)))) rfl rfl ti24 rfl rfl (bcs_one _) rfl ?_
      refine Seg.nil ?_
      refine At.blk_n ?_
      refine At.then_n ?_
      refine Wp.region ?_
      refine Seg.op (OpT.move rfl) rfl ?_
      refine Seg.op (OpT.add rfl rfl (fits64 (by omega))) rfl ?_
      refine Seg.op (OpT.assign rfl) rfl ?_
      refine Seg.nil ?_
      refine At.next (k + 1) (Hp.le.refl _) ?_ ?_ ?_ ?_
      · exact (by omega)
      · exact .cons (rfl) (.cons (rfl) (.cons (rfl) (.cons (rfl) (.nil))))
      · exact (by first | rfl | (rw [upTo_skip _ k (by simp_all)]; done) | (rw [upTo_skip _ k (by simp_all)]; rfl))
      · exact (by (try dsimp only); omega)
    ·
      refine Wp.skip ?_
      refine At.blk_n ?_
      refine At.then_n ?_
      refine Wp.region ?_
      refine Seg.op (OpT.move rfl) rfl ?_
      refine Seg.op (OpT.add rfl rfl (fits64 (by omega))) rfl ?_
      refine Seg.op (OpT.assign rfl) rfl ?_
      refine Seg.nil ?_
      refine At.next (k + 1) (Hp.le.refl _) ?_ ?_ ?_ ?_
      · exact (by omega)
      · exact .cons (rfl) (.cons (rfl) (.cons (rfl) (.cons (rfl) (.nil))))
      · exact (by first | rfl | (rw [upTo_skip _ k (by simp_all)]; done) | (rw [upTo_skip _ k (by simp_all)]; rfl))
      · exact (by (try dsimp only); omega)
  ·
    replace hb4 := of_decide_eq_false hb4
    refine Wp.exit ?_
    refine At.then_x ?_
    refine At.then_x ?_
    refine At.blk_hit ?_
    refine At.then_n ?_
    refine Wp.seq ?_
    refine Wp.region ?_
    refine Seg.op (OpT.ldBlkW (i := 0) Try.underlying24 rfl ti24 rfl rfl rfl) rfl ?_
    refine Seg.stBlkW (i := 1) (cs' := (bcs (upTo (fun x => !p x) k))) rfl rfl ti24 rfl rfl (bcs_one _) rfl ?_
    refine Seg.nil ?_
    refine At.then_n ?_
    refine Wp.ret ?_
    refine At.res1 rfl (RV.cellA (i := 1) rfl Try.underlying24 rfl ti24 (rfl) rfl) ?_
    exact fun w hs => ⟨by exact congrArg (fun c => Ending.returned (.agg c)) (upTo_done _ _ (by omega)), (hs.dropN 3).weaken hle2⟩

set_option maxHeartbeats 4000000 in
theorem rof_w (lo hi : Nat) (h1 : lo < 256) (h2 : hi < 256) :
    TriV Try.prog 13 [(.int .i64 (((lo : Nat) : Int))), (.int .i64 (((hi : Nat) : Int)))] H O (bs (ofP lo hi)) := by
  intro w hs
  refine wp_of Try.func13 rfl rfl rfl ?_ hs
  clear hs w
  refine Wp.seq ?_
  refine Wp.region ?_
  refine Seg.alloc (cs := bcs (fun _ => false)) ti24 bcs_empty rfl fun Br => ?_
  refine Seg.nil ?_
  refine At.then_n ?_
  refine Wp.seq ?_
  refine Wp.region ?_
  refine Seg.op (OpT.cast (OpT.buildA (ps := []) Try.underlying24 ti24 ti22 rfl rfl rfl) (congrArg Value.agg bcs_empty)) rfl ?_
  refine Seg.alloc (cs := bcs (fun _ => false)) ti24 bcs_empty rfl fun Bo => ?_
  refine Seg.stBlkW (i := 0) (cs' := (bcs (fun _ => false))) rfl rfl ti24 rfl rfl (bcs_one _) rfl ?_
  refine Seg.nil ?_
  refine At.then_n ?_
  refine Wp.seq ?_
  refine Wp.seq ?_
  refine Wp.region ?_
  refine Seg.op (OpT.move rfl) rfl ?_
  refine Seg.op (OpT.assign rfl) rfl ?_
  refine Seg.nil ?_
  refine At.then_n ?_
  refine Wp.block ?_
  refine Wp.loop (X := Nat) (fun k => [(6, (.int .i64 ((((lo + k) : Nat) : Int)))), (1, (.int .i64 (((hi : Nat) : Int)))), (4, (ptr Br (0))), (5, (ptr Bo (0)))]) (fun k => .blk Bo (.cells (bcs (upTo (ofP lo hi) (lo + k))) 24 (0, 0)) :: .blk Br (.cells (bcs (fun _ => false)) 24 (0, 0)) :: O) (fun k H' => k ≤ 256) (fun k => 257 - k) 0 ?_ ?_ ?_ ?_
  · exact (by omega)
  · exact .cons (by rw [Nat.add_zero]; rfl) (.cons (rfl) (.cons (rfl) (.cons (rfl) (.nil))))
  · exact (by first | rfl | (rw [← upTo_lo lo hi]; done) | (rw [← upTo_lo lo hi]; rfl))
  intro k H1 hle2 hi3
  refine Wp.seq ?_
  refine Wp.seq ?_
  refine Wp.region ?_
  refine Seg.op (OpT.move rfl) rfl ?_
  refine Seg.op (OpT.move rfl) rfl ?_
  refine Seg.op (OpT.leq rfl rfl) rfl ?_
  refine Seg.nil ?_
  refine At.then_n ?_
  refine Wp.cond (b := decide ((((lo + k) : Nat) : Int) ≤ ((hi : Nat) : Int))) rfl (fun hb4 => ?_) (fun hb4 => ?_)
  ·
    replace hb4 := of_decide_eq_true hb4
    refine Wp.skip ?_
    refine At.then_n ?_
    refine Wp.seq ?_
    refine Wp.block ?_
    refine Wp.region ?_
    refine Seg.op (OpT.ldBlkW (i := 0) Try.underlying24 rfl ti24 rfl rfl rfl) rfl ?_
    refine Seg.op (OpT.move rfl) rfl ?_
    refine Seg.op (OpT.cast (v' := (.agg (bcs (upTo (ofP lo hi) (lo + k + 1))))) (OpT.call ent31 rfl (with_w (upTo (ofP lo hi) (lo + k)) (lo + k) (by omega))) (congrArg Value.agg (upTo_hit _ _ (ofP_in lo hi (lo + k) (by omega) (by omega))))) rfl ?_
    refine Seg.stBlkW (i := 0) (cs' := (bcs (upTo (ofP lo hi) (lo + k + 1)))) rfl rfl ti24 rfl rfl (bcs_one _) rfl ?_
    refine Seg.nil ?_
    refine At.blk_n ?_
    refine At.then_n ?_
    refine Wp.region ?_
    refine Seg.op (OpT.move rfl) rfl ?_
    refine Seg.op (OpT.add rfl rfl (fits64 (by omega))) rfl ?_
    refine Seg.op (OpT.assign rfl) rfl ?_
    refine Seg.nil ?_
    refine At.next (k + 1) (Hp.le.refl _) ?_ ?_ ?_ ?_
    · exact (by omega)
    · exact .cons (by rfl) (.cons (rfl) (.cons (rfl) (.cons (rfl) (.nil))))
    · exact (rfl)
    · exact (by omega)
  ·
    replace hb4 := of_decide_eq_false hb4
    refine Wp.exit ?_
    refine At.then_x ?_
    refine At.then_x ?_
    refine At.blk_hit ?_
    refine At.then_n ?_
    refine Wp.seq ?_
    refine Wp.region ?_
    refine Seg.op (OpT.ldBlkW (i := 0) Try.underlying24 rfl ti24 rfl rfl rfl) rfl ?_
    refine Seg.stBlkW (i := 1) (cs' := (bcs (upTo (ofP lo hi) (lo + k)))) rfl rfl ti24 rfl rfl (bcs_one _) rfl ?_
    refine Seg.nil ?_
    refine At.then_n ?_
    refine Wp.ret ?_
    refine At.res1 rfl (RV.cellA (i := 1) rfl Try.underlying24 rfl ti24 (rfl) rfl) ?_
    exact fun w hs => ⟨by exact congrArg (fun c => Ending.returned (.agg c)) (upTo_hi lo hi _ (by omega)), (hs.dropN 2).weaken hle2⟩

set_option maxHeartbeats 4000000 in
theorem len_w (p : Nat → Bool) :
    TriV Try.prog 25 [(.agg (bcs p))] H O (.int .i64 (cntTo p 256 : Nat)) := by
  intro w hs
  refine wp_of Try.func25 rfl rfl rfl ?_ hs
  clear hs w
  refine Wp.seq ?_
  refine Wp.region ?_
  refine Seg.box (cs := bcs p) rfl rfl rfl fun Ba => ?_
  refine Seg.op (OpT.assign rfl) rfl ?_
  refine Seg.nil ?_
  refine At.then_n ?_
  refine Wp.seq ?_
  refine Wp.region ?_
  refine Seg.op (OpT.assign rfl) rfl ?_
  refine Seg.nil ?_
  refine At.then_n ?_
  refine Wp.seq ?_
  refine Wp.seq ?_
  refine Wp.region ?_
  refine Seg.op (OpT.move rfl) rfl ?_
  refine Seg.nil ?_
  refine At.then_n ?_
  refine Wp.block ?_
  refine Wp.loop (X := Nat) (fun k => [(5, (.int .i64 (((k : Nat) : Int)))), (3, (.int .i64 ((((cntTo p k) : Nat) : Int)))), (1, (ptr Ba (0))), (2, (.int .i64 (0)))]) (fun k => .blk Ba (.cells (bcs p) 24 (0, 0)) :: O) (fun k H' => k ≤ 256) (fun k => 256 - k) 0 ?_ ?_ ?_ ?_
  · exact (by omega)
  · exact .cons (rfl) (.cons (lk_int rfl (by rw [cntTo_zero]; rfl)) (.cons (rfl) (.cons (rfl) (.nil))))
  · exact (rfl)
  intro k H1 hle2 hi3
  have hc := cntTo_le p k
  refine Wp.seq ?_
  refine Wp.region ?_
  refine Seg.op (OpT.lss rfl rfl) rfl ?_
  refine Seg.nil ?_
  refine At.then_n ?_
  refine Wp.seq ?_
  refine Wp.cond (b := decide (((k : Nat) : Int) < 256)) rfl (fun hb4 => ?_) (fun hb4 => ?_)
  ·
    replace hb4 := of_decide_eq_true hb4
    refine Wp.skip ?_
    refine At.then_n ?_
    refine Wp.seq ?_
    refine Wp.block ?_
    refine Wp.seq ?_
    refine Wp.region ?_
    refine Seg.op (OpT.move rfl) rfl ?_
    refine Seg.op (OpT.assign rfl) rfl ?_
    refine Seg.nil ?_
    refine At.then_n ?_
    refine Wp.seq ?_
    refine Wp.region ?_
    refine Seg.op (OpT.ldBlkW (i := 0) Try.underlying24 rfl ti24 rfl rfl rfl) rfl ?_
    refine Seg.op (OpT.move rfl) rfl ?_
    refine Seg.op (OpT.conv Try.underlying3 Try.underlying5 rfl (fitsU8 (by omega))) rfl ?_
    refine Seg.op (OpT.call ent15 rfl (has_w p k (by omega))) rfl ?_
    refine Seg.nil ?_
    refine At.then_n ?_
    refine Wp.cond (b := p k) rfl (fun hb5 => ?_) (fun hb5 => ?_)
    ·
      refine Wp.region ?_
      refine Seg.op (OpT.move rfl) rfl ?_
      refine Seg.op (OpT.add rfl rfl (fits64 (by omega))) rfl ?_
      refine Seg.op (OpT.assign rfl) rfl ?_
      refine Seg.nil ?_
      refine At.blk_n ?_
      refine At.then_n ?_
      refine Wp.region ?_
      refine Seg.op (OpT.add rfl rfl (fits64 (by omega))) rfl ?_
      refine Seg.op (OpT.move rfl) rfl ?_
      refine Seg.nil ?_
      refine At.next (k + 1) (Hp.le.refl _) ?_ ?_ ?_ ?_
      · exact (by omega)
      · exact .cons (rfl) (.cons (lk_int rfl (by first | (have := cntTo_hit p k (by assumption); omega) | (have := cntTo_skip p k (by assumption); omega))) (.cons (rfl) (.cons (rfl) (.nil))))
      · exact (rfl)
      · exact (by (try dsimp only); omega)
    ·
      refine Wp.skip ?_
      refine At.blk_n ?_
      refine At.then_n ?_
      refine Wp.region ?_
      refine Seg.op (OpT.add rfl rfl (fits64 (by omega))) rfl ?_
      refine Seg.op (OpT.move rfl) rfl ?_
      refine Seg.nil ?_
      refine At.next (k + 1) (Hp.le.refl _) ?_ ?_ ?_ ?_
      · exact (by omega)
      · exact .cons (rfl) (.cons (lk_int rfl (by first | (have := cntTo_hit p k (by assumption); omega) | (have := cntTo_skip p k (by assumption); omega))) (.cons (rfl) (.cons (rfl) (.nil))))
      · exact (rfl)
      · exact (by (try dsimp only); omega)
  ·
    replace hb4 := of_decide_eq_false hb4
    refine Wp.exit ?_
    refine At.then_x ?_
    refine At.then_x ?_
    refine At.blk_hit ?_
    refine At.then_n ?_
    refine Wp.seq ?_
    refine Wp.region ?_
    refine Seg.op (OpT.move rfl) rfl ?_
    refine Seg.op (OpT.assign rfl) rfl ?_
    refine Seg.nil ?_
    refine At.then_n ?_
    refine Wp.ret ?_
    refine At.res1 rfl (RV.tmp (v := (.int .i64 ((((cntTo p k) : Nat) : Int)))) rfl) ?_
    exact fun w hs => ⟨congrArg (fun n : Nat => Ending.returned (.int .i64 (n : Int))) (congrArg (cntTo p) (by omega : k = 256)), (hs.dropN 1).weaken hle2⟩

set_option maxHeartbeats 4000000 in
theorem least_w (p : Nat → Bool) :
    TriV Try.prog 24 [(.agg (bcs p))] H O (.tuple #[.int .u8 (lst p : Nat), .bool (anyS p)]) := by
  intro w hs
  refine wp_of Try.func24 rfl rfl rfl ?_ hs
  clear hs w
  refine Wp.seq ?_
  refine Wp.region ?_
  refine Seg.box (cs := bcs p) rfl rfl rfl fun Ba => ?_
  refine Seg.op (OpT.assign rfl) rfl ?_
  refine Seg.op (OpT.assign rfl) rfl ?_
  refine Seg.nil ?_
  refine At.then_n ?_
  refine Wp.seq ?_
  refine Wp.seq ?_
  refine Wp.region ?_
  refine Seg.op (OpT.move rfl) rfl ?_
  refine Seg.nil ?_
  refine At.then_n ?_
  refine Wp.block ?_
  refine Wp.loop (X := Nat) (fun k => [(5, (.int .i64 (((k : Nat) : Int)))), (1, (ptr Ba (0)))]) (fun k => .blk Ba (.cells (bcs p) 24 (0, 0)) :: O) (fun k H' => k ≤ 256 ∧ ∀ x, x < k → p x = false) (fun k => 256 - k) 0 ?_ ?_ ?_ ?_
  · exact (⟨by omega, fun x hx => by omega⟩)
  · exact .cons (rfl) (.cons (rfl) (.nil))
  · exact (rfl)
  intro k H1 hle2 hi3
  have hk : k ≤ 256 := hi3.1
  have h0 := hi3.2
  refine Wp.seq ?_
  refine Wp.region ?_
  refine Seg.op (OpT.lss rfl rfl) rfl ?_
  refine Seg.nil ?_
  refine At.then_n ?_
  refine Wp.seq ?_
  refine Wp.cond (b := decide (((k : Nat) : Int) < 256)) rfl (fun hb4 => ?_) (fun hb4 => ?_)
  ·
    replace hb4 := of_decide_eq_true hb4
    refine Wp.skip ?_
    refine At.then_n ?_
    refine Wp.seq ?_
    refine Wp.block ?_
    refine Wp.seq ?_
    refine Wp.region ?_
    refine Seg.op (OpT.move rfl) rfl ?_
    refine Seg.op (OpT.assign rfl) rfl ?_
    refine Seg.nil ?_
    refine At.then_n ?_
    refine Wp.seq ?_
    refine Wp.region ?_
    refine Seg.op (OpT.ldBlkW (i := 0) Try.underlying24 rfl ti24 rfl rfl rfl) rfl ?_
    refine Seg.op (OpT.move rfl) rfl ?_
    refine Seg.op (OpT.conv Try.underlying3 Try.underlying5 rfl (fitsU8 (by omega))) rfl ?_
    refine Seg.op (OpT.call ent15 rfl (has_w p k (by omega))) rfl ?_
    refine Seg.nil ?_
    refine At.then_n ?_
    refine Wp.cond (b := p k) rfl (fun hb5 => ?_) (fun hb5 => ?_)
    ·
      refine Wp.seq ?_
      refine Wp.region ?_
      refine Seg.op (OpT.move rfl) rfl ?_
      refine Seg.op (OpT.conv Try.underlying3 Try.underlying5 rfl (fitsU8 (by omega))) rfl ?_
      refine Seg.op (OpT.assign rfl) rfl ?_
      refine Seg.op (OpT.assign rfl) rfl ?_
      refine Seg.nil ?_
      refine At.then_n ?_
      refine Wp.ret ?_
      refine At.blk_r ?_
      refine At.then_r ?_
      refine At.then_r ?_
      refine At.blk_r ?_
      refine At.then_r ?_
      refine At.res2 rfl (RV.tmp (v := (.int .u8 (((k : Nat) : Int)))) rfl) (RV.tmp (v := (.bool (true))) rfl) ?_
      exact fun w hs => ⟨by first | (have h := least_hit p k (by omega) h0 (by assumption); rw [h.1, h.2]; done) | (have h := least_none p k (by omega) h0; rw [h.1, h.2]; done) | (have h := least_none p k (by omega) h0; rw [h.1, h.2]; rfl), (hs.dropN 1).weaken hle2⟩
    ·
      refine Wp.skip ?_
      refine At.blk_n ?_
      refine At.then_n ?_
      refine Wp.region ?_
      refine Seg.op (OpT.add rfl rfl (fits64 (by omega))) rfl ?_
      refine Seg.op (OpT.move rfl) rfl ?_
      refine Seg.nil ?_
      refine At.next (k + 1) (Hp.le.refl _) ?_ ?_ ?_ ?_
      · exact (⟨by omega, none_succ p k h0 (by assumption)⟩)
      · exact .cons (rfl) (.cons (rfl) (.nil))
      · exact (rfl)
      · exact (by (try dsimp only); omega)
  ·
    replace hb4 := of_decide_eq_false hb4
    refine Wp.exit ?_
    refine At.then_x ?_
    refine At.then_x ?_
    refine At.blk_hit ?_
    refine At.then_n ?_
    refine Wp.seq ?_
    refine Wp.region ?_
    refine Seg.op (OpT.assign rfl) rfl ?_
    refine Seg.op (OpT.assign rfl) rfl ?_
    refine Seg.nil ?_
    refine At.then_n ?_
    refine Wp.ret ?_
    refine At.res2 rfl (RV.tmp (v := (.int .u8 (0))) rfl) (RV.tmp (v := (.bool (false))) rfl) ?_
    exact fun w hs => ⟨by first | (have h := least_hit p k (by omega) h0 (by assumption); rw [h.1, h.2]; done) | (have h := least_none p k (by omega) h0; rw [h.1, h.2]; done) | (have h := least_none p k (by omega) h0; rw [h.1, h.2]; rfl), (hs.dropN 1).weaken hle2⟩

end Go.Proofs.Ythhhdpcbkkldgaa
