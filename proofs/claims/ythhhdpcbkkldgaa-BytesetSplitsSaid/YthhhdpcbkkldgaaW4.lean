/- Walks, written by a program (gen.py), one law an operation. -/
import Derived.Test.YthhhdpcbkkldgaaW3
namespace Go.Proofs.Ythhhdpcbkkldgaa
open Go.GK
variable {H : Hp} {O : List Res}

set_option maxHeartbeats 4000000 in
theorem alike_w (l : List St) (v : Value) (hl : Sl H v 4 l.length (l.flatMap bcl)) (hn : l.length ≤ 4294967296) (x y : Nat) (hx : x < 256) (hy : y < 256) :
    TriV Try.prog 33 [v, (.int .i64 (((x : Nat) : Int))), (.int .i64 (((y : Nat) : Int)))] H O (.bool (alikeB l x y)) := by
  intro w hs
  refine wp_of Try.func33 rfl rfl rfl ?_ hs
  clear hs w
  refine Wp.seq ?_
  refine Wp.region ?_
  refine Seg.op (OpT.assign rfl) rfl ?_
  refine Seg.nil ?_
  refine At.then_n ?_
  refine Wp.seq ?_
  refine Wp.seq ?_
  refine Wp.region ?_
  refine Seg.op (OpT.assign rfl) rfl ?_
  refine Seg.nil ?_
  refine At.then_n ?_
  refine Wp.block ?_
  refine Wp.loop (X := Nat) (fun i => [(7, (.int .i64 (((i : Nat) : Int)))), (0, v), (1, (.int .i64 (((x : Nat) : Int)))), (2, (.int .i64 (((y : Nat) : Int))))]) (fun i => [] ++ O) (fun i H' => i ≤ l.length ∧ ∀ j, j < i → (nth l j) x = (nth l j) y) (fun i => l.length - i) 0 ?_ ?_ ?_ ?_
  · exact (⟨by omega, fun j hj => by omega⟩)
  · exact .cons (rfl) (.cons (rfl) (.cons (rfl) (.cons (rfl) (.nil))))
  · exact (rfl)
  intro i H1 hle2 hi3
  have hi1 := hi3.1
  have hi2 := hi3.2
  refine Wp.seq ?_
  refine Wp.seq ?_
  refine Wp.region ?_
  refine Seg.op (OpT.move rfl) rfl ?_
  refine Seg.op (OpT.move rfl) rfl ?_
  refine Seg.op (OpT.lenImm Try.underlying45 rfl (hl.mono hle2)) rfl ?_
  refine Seg.op (OpT.lss rfl rfl) rfl ?_
  refine Seg.nil ?_
  refine At.then_n ?_
  refine Wp.cond (b := decide (((i : Nat) : Int) < ((l.length : Nat) : Int))) rfl (fun hb4 => ?_) (fun hb4 => ?_)
  ·
    replace hb4 := of_decide_eq_true hb4
    refine Wp.skip ?_
    refine At.then_n ?_
    refine Wp.seq ?_
    refine Wp.block ?_
    refine Wp.seq ?_
    refine Wp.drawE 13 follows rfl (by kernel_rfl) ?_
    refine SegL.opE (OpT.move rfl) rfl ?_
    refine SegL.opE (OpT.move rfl) rfl ?_
    refine SegL.opE (OpT.ixImm Try.underlying45 ti24 rfl (hl.mono hle2) rfl (by omega)) rfl ?_
    refine SegL.opE (OpT.ldImmA  (vs := (bcl (nth l i))) Try.underlying24 rfl ti24 (bcl_ne _) rfl (hl.mono hle2) (bcl_at l i (by omega))) rfl ?_
    refine SegL.opE (OpT.move rfl) rfl ?_
    refine SegL.opE (OpT.call ent32 rfl (rhas_w (nth l i) x (by omega))) rfl ?_
    refine SegL.opE (OpT.move rfl) rfl ?_
    refine SegL.opE (OpT.move rfl) rfl ?_
    refine SegL.opE (OpT.ixImm Try.underlying45 ti24 rfl (hl.mono hle2) rfl (by omega)) rfl ?_
    refine SegL.opE (OpT.ldImmA  (vs := (bcl (nth l i))) Try.underlying24 rfl ti24 (bcl_ne _) rfl (hl.mono hle2) (bcl_at l i (by omega))) rfl ?_
    refine SegL.opE (OpT.move rfl) rfl ?_
    refine SegL.opE (OpT.call ent32 rfl (rhas_w (nth l i) y (by omega))) rfl ?_
    refine SegL.opE (OpT.neB Try.underlying4 rfl rfl) rfl ?_
    refine SegL.doneE ?_
    refine EndL.is (t := 7) (v := (.int .i64 (((i : Nat) : Int)))) rfl ?_
    refine EndL.is (t := 0) (v := v) rfl ?_
    refine EndL.is (t := 1) (v := (.int .i64 (((x : Nat) : Int)))) rfl ?_
    refine EndL.is (t := 2) (v := (.int .i64 (((y : Nat) : Int)))) rfl ?_
    refine EndL.is (t := 8) (v := (.int .i64 (((i : Nat) : Int)))) rfl ?_
    refine EndL.is (t := 9) (v := v) rfl ?_
    refine EndL.is (t := 10) (v := (.int .i64 (((l.length : Nat) : Int)))) rfl ?_
    refine EndL.is (t := 11) (v := (.bool (decide (((i : Nat) : Int) < ((l.length : Nat) : Int))))) rfl ?_
    refine EndL.is (t := 14) (v := v) rfl ?_
    refine EndL.is (t := 15) (v := (.int .i64 (((i : Nat) : Int)))) rfl ?_
    refine EndL.is (t := 16) (v := (elemPtr v (i * 4))) rfl ?_
    refine EndL.is (t := 17) (v := (.agg (bcs (nth l i)))) rfl ?_
    refine EndL.is (t := 18) (v := (.int .i64 (((x : Nat) : Int)))) rfl ?_
    refine EndL.is (t := 19) (v := (.bool ((nth l i) x))) rfl ?_
    refine EndL.is (t := 20) (v := v) rfl ?_
    refine EndL.is (t := 21) (v := (.int .i64 (((i : Nat) : Int)))) rfl ?_
    refine EndL.is (t := 22) (v := (elemPtr v (i * 4))) rfl ?_
    refine EndL.is (t := 23) (v := (.agg (bcs (nth l i)))) rfl ?_
    refine EndL.is (t := 24) (v := (.int .i64 (((y : Nat) : Int)))) rfl ?_
    refine EndL.is (t := 25) (v := (.bool ((nth l i) y))) rfl ?_
    refine EndL.is (t := 26) (v := (.bool (!(((nth l i) x) == ((nth l i) y))))) rfl ?_
    refine EndL.seg ?_
    refine Seg.nil ?_
    refine At.then_n ?_
    refine Wp.cond (b := !(((nth l i) x) == ((nth l i) y))) rfl (fun hb5 => ?_) (fun hb5 => ?_)
    ·
      refine Wp.seq ?_
      refine Wp.region ?_
      refine Seg.op (OpT.assign rfl) rfl ?_
      refine Seg.nil ?_
      refine At.then_n ?_
      refine Wp.ret ?_
      refine At.blk_r ?_
      refine At.then_r ?_
      refine At.then_r ?_
      refine At.blk_r ?_
      refine At.then_r ?_
      refine At.res1 rfl (RV.tmp (v := (.bool (false))) rfl) ?_
      exact fun w hs => ⟨congrArg (fun b => Ending.returned (.bool b)) (by first | exact (alike_no l x y i (by omega) (by assumption)).symm | exact (alike_yes l x y (fun j hj => hi2 j (by omega))).symm), (hs.dropN 0).weaken hle2⟩
    ·
      refine Wp.skip ?_
      refine At.blk_n ?_
      refine At.then_n ?_
      refine Wp.region ?_
      refine Seg.op (OpT.move rfl) rfl ?_
      refine Seg.op (OpT.add rfl rfl (fits64 (by omega))) rfl ?_
      refine Seg.op (OpT.assign rfl) rfl ?_
      refine Seg.nil ?_
      refine At.next (i + 1) (Hp.le.refl _) ?_ ?_ ?_ ?_
      · exact (⟨by omega, alike_step l x y i hi2 (by assumption)⟩)
      · exact .cons (rfl) (.cons (rfl) (.cons (rfl) (.cons (rfl) (.nil))))
      · exact (rfl)
      · exact (by (try dsimp only); omega)
  ·
    replace hb4 := of_decide_eq_false hb4
    refine Wp.exit ?_
    refine At.then_x ?_
    refine At.then_x ?_
    refine At.blk_hit ?_
    refine At.then_n ?_
    refine Wp.seq ?_
    refine Wp.region ?_
    refine Seg.op (OpT.assign rfl) rfl ?_
    refine Seg.nil ?_
    refine At.then_n ?_
    refine Wp.ret ?_
    refine At.res1 rfl (RV.tmp (v := (.bool (true))) rfl) ?_
    exact fun w hs => ⟨congrArg (fun b => Ending.returned (.bool b)) (by first | exact (alike_no l x y i (by omega) (by assumption)).symm | exact (alike_yes l x y (fun j hj => hi2 j (by omega))).symm), (hs.dropN 0).weaken hle2⟩

set_option maxHeartbeats 4000000 in
theorem rpart_w (l : List St) (v : Value) (hl : Sl H v 4 l.length (l.flatMap bcl)) (hn : l.length ≤ 4294967296) :
    Tri Try.prog 30 [v] H O (fun v H' O' => O' = O ∧ Sl H' v 4 (rpartsOf l).length ((rpartsOf l).flatMap bcl)) := by
  intro w hs
  refine wp_of Try.func30 rfl rfl rfl ?_ hs
  clear hs w
  refine Wp.seq ?_
  refine Wp.region ?_
  refine Seg.op (OpT.assign rfl) rfl ?_
  refine Seg.nil ?_
  refine At.then_n ?_
  refine Wp.seq ?_
  refine Wp.region ?_
  refine Seg.op (OpT.assign rfl) rfl ?_
  refine Seg.nil ?_
  refine At.then_n ?_
  refine Wp.seq ?_
  refine Wp.nilRow 24 4 ?_
  refine Wp.region ?_
  refine Seg.op (OpT.cast (OpT.buildA (ps := []) Try.underlying24 ti24 ti22 rfl rfl rfl) (congrArg Value.agg bcs_empty)) rfl ?_
  refine Seg.alloc (cs := bcs (fun _ => false)) ti24 bcs_empty rfl fun Bd => ?_
  refine Seg.stBlkW (i := 0) (cs' := (bcs (fun _ => false))) rfl rfl ti24 rfl rfl (bcs_one _) rfl ?_
  refine Seg.nil ?_
  refine At.then_n ?_
  refine Wp.seq ?_
  refine Wp.seq ?_
  refine Wp.region ?_
  refine Seg.op (OpT.assign rfl) rfl ?_
  refine Seg.nil ?_
  refine At.then_n ?_
  refine Wp.block ?_
  refine Wp.loop (X := Nat × Value) (fun x => [(5, (.int .i64 (((x.1 : Nat) : Int)))), (3, x.2), (0, v), (2, (.slice none 0 0)), (4, (ptr Bd (0)))]) (fun x => .blk Bd (.cells (bcs (rpSt l x.1).2) 24 (0, 0)) :: .row x.2 24 4 (((rpSt l x.1).1).length) (((rpSt l x.1).1).flatMap bcl) :: O) (fun x H' => x.1 ≤ 256) (fun x => 256 - x.1) (0, .slice none 0 0) ?_ ?_ ?_ ?_
  · exact (by omega)
  · exact .cons (rfl) (.cons (rfl) (.cons (rfl) (.cons (rfl) (.cons (rfl) (.nil)))))
  · exact (by first | rfl | (rw [rpSt_zero]; done) | (rw [rpSt_zero]; rfl))
  intro x H1 hle2 hi3
  have hc := rpSt_len l x.1
  refine Wp.seq ?_
  refine Wp.seq ?_
  refine Wp.region ?_
  refine Seg.op (OpT.move rfl) rfl ?_
  refine Seg.op (OpT.lss rfl rfl) rfl ?_
  refine Seg.nil ?_
  refine At.then_n ?_
  refine Wp.cond (b := decide (((x.1 : Nat) : Int) < 256)) rfl (fun hb4 => ?_) (fun hb4 => ?_)
  ·
    replace hb4 := of_decide_eq_true hb4
    refine Wp.skip ?_
    refine At.then_n ?_
    refine Wp.seq ?_
    refine Wp.block ?_
    refine Wp.seq ?_
    refine Wp.seq ?_
    refine Wp.region ?_
    refine Seg.op (OpT.ldBlkW (i := 0) Try.underlying24 rfl ti24 rfl rfl rfl) rfl ?_
    refine Seg.op (OpT.move rfl) rfl ?_
    refine Seg.op (OpT.call ent32 rfl (rhas_w ((rpSt l x.1).2) x.1 (by omega))) rfl ?_
    refine Seg.nil ?_
    refine At.then_n ?_
    refine Wp.cond (b := ((rpSt l x.1).2) x.1) rfl (fun hb5 => ?_) (fun hb5 => ?_)
    ·
      refine Wp.exit ?_
      refine At.then_x ?_
      refine At.blk_hit ?_
      refine At.then_n ?_
      refine Wp.region ?_
      refine Seg.op (OpT.move rfl) rfl ?_
      refine Seg.op (OpT.add rfl rfl (fits64 (by omega))) rfl ?_
      refine Seg.op (OpT.assign rfl) rfl ?_
      refine Seg.nil ?_
      refine At.next (x.1 + 1, x.2) (Hp.le.refl _) ?_ ?_ ?_ ?_
      · exact (by (try dsimp only); omega)
      · exact .cons (rfl) (.cons (rfl) (.cons (rfl) (.cons (rfl) (.cons (rfl) (.nil)))))
      · exact (by first | (rw [rpSt_skip l x.1 (by assumption)]; done) | (rw [rpSt_skip l x.1 (by assumption)]; rfl) | (rw [rpSt_new l x.1 (by assumption)]; simp [bcl]))
      · exact (by (try dsimp only); omega)
    ·
      refine Wp.skip ?_
      refine At.then_n ?_
      refine Wp.seq ?_
      refine Wp.region ?_
      refine Seg.op (OpT.cast (OpT.buildA (ps := []) Try.underlying24 ti24 ti22 rfl rfl rfl) (congrArg Value.agg bcs_empty)) rfl ?_
      refine Seg.alloc (cs := bcs (fun _ => false)) ti24 bcs_empty rfl fun Bp => ?_
      refine Seg.stBlkW (i := 0) (cs' := (bcs (fun _ => false))) rfl rfl ti24 rfl rfl (bcs_one _) rfl ?_
      refine Seg.nil ?_
      refine At.then_n ?_
      refine Wp.seq ?_
      refine Wp.seq ?_
      refine Wp.region ?_
      refine Seg.op (OpT.move rfl) rfl ?_
      refine Seg.op (OpT.assign rfl) rfl ?_
      refine Seg.nil ?_
      refine At.then_n ?_
      refine Wp.block ?_
      refine Wp.loop (X := Nat) (fun j => [(7, (.int .i64 ((((x.1 + j) : Nat) : Int)))), (5, (.int .i64 (((x.1 : Nat) : Int)))), (3, x.2), (0, v), (2, (.slice none 0 0)), (4, (ptr Bd (0))), (9, (.int .i64 (((x.1 : Nat) : Int)))), (10, (.bool (decide (((x.1 : Nat) : Int) < 256)))), (13, (.agg (bcs (rpSt l x.1).2))), (14, (.int .i64 (((x.1 : Nat) : Int)))), (15, (.bool (((rpSt l x.1).2) x.1))), (16, (.agg (bcs (fun _ => false)))), (6, (ptr Bp (0))), (17, (.int .i64 (((x.1 : Nat) : Int))))]) (fun j => .blk Bp (.cells (bcs (upTo (cls l x.1) (x.1 + j))) 24 (0, 0)) :: .blk Bd (.cells (bcs (fun y => (rpSt l x.1).2 y || upTo (cls l x.1) (x.1 + j) y)) 24 (0, 0)) :: .row x.2 24 4 (((rpSt l x.1).1).length) (((rpSt l x.1).1).flatMap bcl) :: O) (fun j H' => x.1 + j ≤ 256) (fun j => 256 - (x.1 + j)) 0 ?_ ?_ ?_ ?_
      · exact (by omega)
      · exact .cons (rfl) (.cons (rfl) (.cons (rfl) (.cons (rfl) (.cons (rfl) (.cons (rfl) (.cons (rfl) (.cons (rfl) (.cons (rfl) (.cons (rfl) (.cons (rfl) (.cons (rfl) (.cons (rfl) (.cons (rfl) (.nil))))))))))))))
      · exact (by first | rfl | (rw [← cls_zero l x.1, ← dn_zero l (rpSt l x.1).2 x.1]; done) | (rw [← cls_zero l x.1, ← dn_zero l (rpSt l x.1).2 x.1]; rfl))
      intro j H6 hle7 hi8
      refine Wp.seq ?_
      refine Wp.seq ?_
      refine Wp.region ?_
      refine Seg.op (OpT.move rfl) rfl ?_
      refine Seg.op (OpT.lss rfl rfl) rfl ?_
      refine Seg.nil ?_
      refine At.then_n ?_
      refine Wp.cond (b := decide ((((x.1 + j) : Nat) : Int) < 256)) rfl (fun hb9 => ?_) (fun hb9 => ?_)
      ·
        replace hb9 := of_decide_eq_true hb9
        refine Wp.skip ?_
        refine At.then_n ?_
        refine Wp.seq ?_
        refine Wp.block ?_
        refine Wp.seq ?_
        refine Wp.region ?_
        refine Seg.op (OpT.move rfl) rfl ?_
        refine Seg.op (OpT.move rfl) rfl ?_
        refine Seg.op (OpT.move rfl) rfl ?_
        refine Seg.op (OpT.call ent33 rfl (alike_w l v (hl.mono (hle2.trans hle7)) hn x.1 (x.1 + j) (by omega) (by omega))) rfl ?_
        refine Seg.nil ?_
        refine At.then_n ?_
        refine Wp.cond (b := alikeB l x.1 (x.1 + j)) rfl (fun hb10 => ?_) (fun hb10 => ?_)
        ·
          refine Wp.seq ?_
          refine Wp.region ?_
          refine Seg.op (OpT.ldBlkW (i := 0) Try.underlying24 rfl ti24 rfl rfl rfl) rfl ?_
          refine Seg.op (OpT.move rfl) rfl ?_
          refine Seg.op (OpT.cast (v' := (.agg (bcs (upTo (cls l x.1) (x.1 + j + 1))))) (OpT.call ent31 rfl (with_w (upTo (cls l x.1) (x.1 + j)) (x.1 + j) (by omega))) (congrArg Value.agg (upTo_hit _ _ (cls_in l x.1 j (by assumption))))) rfl ?_
          refine Seg.stBlkW (i := 0) (cs' := (bcs (upTo (cls l x.1) (x.1 + j + 1)))) rfl rfl ti24 rfl rfl (bcs_one _) rfl ?_
          refine Seg.nil ?_
          refine At.then_n ?_
          refine Wp.region ?_
          refine Seg.op (OpT.ldBlkW (i := 1) Try.underlying24 rfl ti24 rfl rfl rfl) rfl ?_
          refine Seg.op (OpT.move rfl) rfl ?_
          refine Seg.op (OpT.cast (v' := (.agg (bcs (fun y => (rpSt l x.1).2 y || upTo (cls l x.1) (x.1 + j + 1) y)))) (OpT.call ent31 rfl (with_w (fun y => (rpSt l x.1).2 y || upTo (cls l x.1) (x.1 + j) y) (x.1 + j) (by omega))) (congrArg Value.agg (dn_hit (rpSt l x.1).2 (cls l x.1) _ (cls_in l x.1 j (by assumption))))) rfl ?_
          refine Seg.stBlkW (i := 1) (cs' := (bcs (fun y => (rpSt l x.1).2 y || upTo (cls l x.1) (x.1 + j + 1) y))) rfl rfl ti24 rfl rfl (bcs_one _) rfl ?_
          refine Seg.nil ?_
          refine At.blk_n ?_
          refine At.then_n ?_
          refine Wp.region ?_
          refine Seg.op (OpT.move rfl) rfl ?_
          refine Seg.op (OpT.add rfl rfl (fits64 (by omega))) rfl ?_
          refine Seg.op (OpT.assign rfl) rfl ?_
          refine Seg.nil ?_
          refine At.next (j + 1) (Hp.le.refl _) ?_ ?_ ?_ ?_
          · exact (by omega)
          · exact .cons (rfl) (.cons (rfl) (.cons (rfl) (.cons (rfl) (.cons (rfl) (.cons (rfl) (.cons (rfl) (.cons (rfl) (.cons (rfl) (.cons (rfl) (.cons (rfl) (.cons (rfl) (.cons (rfl) (.cons (rfl) (.nil))))))))))))))
          · exact (by first | rfl | (rw [upTo_skip (cls l x.1) (x.1 + j) (cls_out l x.1 j (by assumption)), dn_skip (rpSt l x.1).2 (cls l x.1) (x.1 + j) (cls_out l x.1 j (by assumption))]; done) | (rw [upTo_skip (cls l x.1) (x.1 + j) (cls_out l x.1 j (by assumption)), dn_skip (rpSt l x.1).2 (cls l x.1) (x.1 + j) (cls_out l x.1 j (by assumption))]; rfl))
          · exact (by omega)
        ·
          refine Wp.skip ?_
          refine At.blk_n ?_
          refine At.then_n ?_
          refine Wp.region ?_
          refine Seg.op (OpT.move rfl) rfl ?_
          refine Seg.op (OpT.add rfl rfl (fits64 (by omega))) rfl ?_
          refine Seg.op (OpT.assign rfl) rfl ?_
          refine Seg.nil ?_
          refine At.next (j + 1) (Hp.le.refl _) ?_ ?_ ?_ ?_
          · exact (by omega)
          · exact .cons (rfl) (.cons (rfl) (.cons (rfl) (.cons (rfl) (.cons (rfl) (.cons (rfl) (.cons (rfl) (.cons (rfl) (.cons (rfl) (.cons (rfl) (.cons (rfl) (.cons (rfl) (.cons (rfl) (.cons (rfl) (.nil))))))))))))))
          · exact (by first | rfl | (rw [upTo_skip (cls l x.1) (x.1 + j) (cls_out l x.1 j (by assumption)), dn_skip (rpSt l x.1).2 (cls l x.1) (x.1 + j) (cls_out l x.1 j (by assumption))]; done) | (rw [upTo_skip (cls l x.1) (x.1 + j) (cls_out l x.1 j (by assumption)), dn_skip (rpSt l x.1).2 (cls l x.1) (x.1 + j) (cls_out l x.1 j (by assumption))]; rfl))
          · exact (by omega)
      ·
        replace hb9 := of_decide_eq_false hb9
        refine Wp.exit ?_
        refine At.then_x ?_
        refine At.then_x ?_
        refine At.blk_hit ?_
        refine At.then_n ?_
        refine Wp.own (O := .blk Bp (.cells (bcs (cls l x.1)) 24 (0, 0)) :: .blk Bd (.cells (bcs (fun y => (rpSt l x.1).2 y || cls l x.1 y)) 24 (0, 0)) :: .row x.2 24 4 (((rpSt l x.1).1).length) (((rpSt l x.1).1).flatMap bcl) :: O) ?_ (by rw [upTo_done (cls l x.1) _ (by omega), dn_done (rpSt l x.1).2 (cls l x.1) _ (by omega)])
        refine Wp.region ?_
        refine Seg.op (OpT.move rfl) rfl ?_
        refine Seg.op (OpT.ldBlkW (i := 0) Try.underlying24 rfl ti24 rfl rfl rfl) rfl ?_
        refine Seg.buildSl1 (cs := (bcs (cls l x.1))) Try.underlying45 ti24 rfl rfl rfl rfl rfl rfl fun v11 => ?_
        refine Seg.append (z := (.agg #[.int .u64 0, .int .u64 0, .int .u64 0, .int .u64 0])) (i := 3) Try.underlying45 ti24 rfl (by decide) rfl rfl rfl (fun w hs => hs.srcRow (i := 0) rfl) (by simpa using bcs_one _) (by omega) (by omega) rfl fun v12 => ?_
        refine Seg.drop (i := 0) ?_
        refine Seg.op (OpT.assign rfl) rfl ?_
        refine Seg.nil ?_
        refine At.blk_n ?_
        refine At.then_n ?_
        refine Wp.region ?_
        refine Seg.op (OpT.move rfl) rfl ?_
        refine Seg.op (OpT.add rfl rfl (fits64 (by omega))) rfl ?_
        refine Seg.op (OpT.assign rfl) rfl ?_
        refine Seg.nil ?_
        refine At.drop (i := 0) ?_
        refine At.next (x.1 + 1, v12) hle7 ?_ ?_ ?_ ?_
        · exact (by (try dsimp only); omega)
        · exact .cons (rfl) (.cons (rfl) (.cons (rfl) (.cons (rfl) (.cons (rfl) (.nil)))))
        · exact (by first | (rw [rpSt_skip l x.1 (by assumption)]; done) | (rw [rpSt_skip l x.1 (by assumption)]; rfl) | (rw [rpSt_new l x.1 (by assumption)]; simp [bcl]))
        · exact (by (try dsimp only); omega)
  ·
    replace hb4 := of_decide_eq_false hb4
    refine Wp.exit ?_
    refine At.then_x ?_
    refine At.then_x ?_
    refine At.blk_hit ?_
    refine At.then_n ?_
    refine Wp.seq ?_
    refine Wp.region ?_
    refine Seg.op (OpT.move rfl) rfl ?_
    refine Seg.op (OpT.assign rfl) rfl ?_
    refine Seg.nil ?_
    refine At.then_n ?_
    refine Wp.ret ?_
    refine At.freeze (i := 1) rfl fun H13 hle14 hsl15 => ?_
    refine At.drop (i := 0) ?_
    refine At.res1 rfl (RV.tmp (v := x.2) rfl) ?_
    exact Ret.mk (hle2.trans hle14) (⟨rfl, by have e : x.1 = 256 := (by omega); rw [e] at hsl15; exact hsl15⟩)

set_option maxHeartbeats 4000000 in
theorem same_w (la lb : List St) (v u : Value) (ha : Sl H v 4 la.length (la.flatMap bcl)) (hb : Sl H u 4 lb.length (lb.flatMap bcl)) (hn : la.length ≤ 4294967296) (hs : la.length = lb.length ∧ ∀ i, i < la.length → eqS (nth la i) (nth lb i) = true) :
    TriV Try.prog 28 [v, u] H O (.bool true) := by
  intro w hs
  refine wp_of Try.func28 rfl rfl rfl ?_ hs
  clear hs w
  refine Wp.seq ?_
  have hs1 := hs.1
  refine Wp.region ?_
  refine Seg.op (OpT.assign rfl) rfl ?_
  refine Seg.nil ?_
  refine At.then_n ?_
  refine Wp.seq ?_
  refine Wp.seq ?_
  refine Wp.region ?_
  refine Seg.op (OpT.move rfl) rfl ?_
  refine Seg.op (OpT.lenImm Try.underlying45 rfl ha) rfl ?_
  refine Seg.op (OpT.move rfl) rfl ?_
  refine Seg.op (OpT.lenImm Try.underlying45 rfl hb) rfl ?_
  refine Seg.op (OpT.asB (b := decide (((la.length : Nat) : Int) ≠ ((lb.length : Nat) : Int))) (c := false) (OpT.neq rfl rfl) (by simp; omega)) rfl ?_
  refine Seg.nil ?_
  refine At.then_n ?_
  refine Wp.condF rfl ?_
  refine Wp.skip ?_
  refine At.then_n ?_
  refine Wp.seq ?_
  refine Wp.seq ?_
  refine Wp.region ?_
  refine Seg.op (OpT.assign rfl) rfl ?_
  refine Seg.nil ?_
  refine At.then_n ?_
  refine Wp.block ?_
  refine Wp.loop (X := Nat) (fun i => [(5, (.int .i64 (((i : Nat) : Int)))), (0, v), (1, u)]) (fun i => [] ++ O) (fun i H' => i ≤ la.length) (fun i => la.length - i) 0 ?_ ?_ ?_ ?_
  · exact (by omega)
  · exact .cons (rfl) (.cons (rfl) (.cons (rfl) (.nil)))
  · exact (rfl)
  intro i H1 hle2 hi3
  refine Wp.seq ?_
  refine Wp.seq ?_
  refine Wp.region ?_
  refine Seg.op (OpT.move rfl) rfl ?_
  refine Seg.op (OpT.move rfl) rfl ?_
  refine Seg.op (OpT.lenImm Try.underlying45 rfl (ha.mono hle2)) rfl ?_
  refine Seg.op (OpT.lss rfl rfl) rfl ?_
  refine Seg.nil ?_
  refine At.then_n ?_
  refine Wp.cond (b := decide (((i : Nat) : Int) < ((la.length : Nat) : Int))) rfl (fun hb4 => ?_) (fun hb4 => ?_)
  ·
    replace hb4 := of_decide_eq_true hb4
    refine Wp.skip ?_
    refine At.then_n ?_
    refine Wp.seq ?_
    refine Wp.block ?_
    refine Wp.seq ?_
    refine Wp.drawE 9 follows rfl (by kernel_rfl) ?_
    refine SegL.opE (OpT.move rfl) rfl ?_
    refine SegL.opE (OpT.move rfl) rfl ?_
    refine SegL.opE (OpT.ixImm Try.underlying45 ti24 rfl (ha.mono hle2) rfl (by omega)) rfl ?_
    refine SegL.opE (OpT.ldImmA  (vs := (bcl (nth la i))) Try.underlying24 rfl ti24 (bcl_ne _) rfl (ha.mono hle2) (bcl_at la i (by omega))) rfl ?_
    refine SegL.opE (OpT.move rfl) rfl ?_
    refine SegL.opE (OpT.move rfl) rfl ?_
    refine SegL.opE (OpT.ixImm Try.underlying45 ti24 rfl (hb.mono hle2) rfl (by omega)) rfl ?_
    refine SegL.opE (OpT.ldImmA  (vs := (bcl (nth lb i))) Try.underlying24 rfl ti24 (bcl_ne _) rfl (hb.mono hle2) (bcl_at lb i (by omega))) rfl ?_
    refine SegL.opE (OpT.asB (b := !eqS (nth la i) (nth lb i)) (c := false) (OpT.neBs (p := (nth la i)) (q := (nth lb i)) eqg24 Try.underlying24 Try.underlying22 ti22 rfl rfl) (by simp [hs.2 i (by omega)])) rfl ?_
    refine SegL.doneE ?_
    refine EndL.is (t := 5) (v := (.int .i64 (((i : Nat) : Int)))) rfl ?_
    refine EndL.is (t := 0) (v := v) rfl ?_
    refine EndL.is (t := 1) (v := u) rfl ?_
    refine EndL.is (t := 11) (v := (.int .i64 (((i : Nat) : Int)))) rfl ?_
    refine EndL.is (t := 12) (v := v) rfl ?_
    refine EndL.is (t := 13) (v := (.int .i64 (((la.length : Nat) : Int)))) rfl ?_
    refine EndL.is (t := 14) (v := (.bool (decide (((i : Nat) : Int) < ((la.length : Nat) : Int))))) rfl ?_
    refine EndL.is (t := 17) (v := v) rfl ?_
    refine EndL.is (t := 18) (v := (.int .i64 (((i : Nat) : Int)))) rfl ?_
    refine EndL.is (t := 19) (v := (elemPtr v (i * 4))) rfl ?_
    refine EndL.is (t := 20) (v := (.agg (bcs (nth la i)))) rfl ?_
    refine EndL.is (t := 21) (v := u) rfl ?_
    refine EndL.is (t := 22) (v := (.int .i64 (((i : Nat) : Int)))) rfl ?_
    refine EndL.is (t := 23) (v := (elemPtr u (i * 4))) rfl ?_
    refine EndL.is (t := 24) (v := (.agg (bcs (nth lb i)))) rfl ?_
    refine EndL.is (t := 25) (v := (.bool (false))) rfl ?_
    refine EndL.seg ?_
    refine Seg.nil ?_
    refine At.then_n ?_
    refine Wp.condF rfl ?_
    refine Wp.skip ?_
    refine At.blk_n ?_
    refine At.then_n ?_
    refine Wp.region ?_
    refine Seg.op (OpT.move rfl) rfl ?_
    refine Seg.op (OpT.add rfl rfl (fits64 (by omega))) rfl ?_
    refine Seg.op (OpT.assign rfl) rfl ?_
    refine Seg.nil ?_
    refine At.next (i + 1) (Hp.le.refl _) ?_ ?_ ?_ ?_
    · exact (by omega)
    · exact .cons (rfl) (.cons (rfl) (.cons (rfl) (.nil)))
    · exact (rfl)
    · exact (by (try dsimp only); omega)
  ·
    replace hb4 := of_decide_eq_false hb4
    refine Wp.exit ?_
    refine At.then_x ?_
    refine At.then_x ?_
    refine At.blk_hit ?_
    refine At.then_n ?_
    refine Wp.seq ?_
    refine Wp.region ?_
    refine Seg.op (OpT.assign rfl) rfl ?_
    refine Seg.nil ?_
    refine At.then_n ?_
    refine Wp.ret ?_
    refine At.res1 rfl (RV.tmp (v := (.bool (true))) rfl) ?_
    exact fun w hs => ⟨rfl, (hs.dropN 0).weaken hle2⟩

set_option maxHeartbeats 4000000 in
theorem part_w (l : List St) (v : Value) (hl : Sl H v 4 l.length (l.flatMap bcl)) (hn : l.length ≤ 4294967296) :
    Tri Try.prog 29 [v] H O (fun v H' O' => O' = O ∧ Sl H' v 4 (partsOf l).length ((partsOf l).flatMap bcl)) := by
  intro w hs
  refine wp_of Try.func29 rfl rfl rfl ?_ hs
  clear hs w
  refine Wp.seq ?_
  refine Wp.region ?_
  refine Seg.op (OpT.assign rfl) rfl ?_
  refine Seg.nil ?_
  refine At.then_n ?_
  refine Wp.seq ?_
  refine Wp.region ?_
  refine Seg.op (OpT.call ent12 rfl (of_w 0 255 (by decide) (by decide))) rfl ?_
  refine Seg.buildSl1 (cs := (bcs (ofP 0 255))) Try.underlying45 ti24 rfl rfl rfl rfl rfl rfl fun v1 => ?_
  refine Seg.op (OpT.assign rfl) rfl ?_
  refine Seg.nil ?_
  refine At.then_n ?_
  refine Wp.seq ?_
  refine Wp.seq ?_
  refine Wp.region ?_
  refine Seg.op (OpT.move rfl) rfl ?_
  refine Seg.op (OpT.lenImm Try.underlying45 rfl hl) rfl ?_
  refine Seg.op (OpT.move rfl) rfl ?_
  refine Seg.nil ?_
  refine At.then_n ?_
  refine Wp.block ?_
  refine Wp.loop (X := Nat × Value) (fun x => [(20, (.int .i64 (((x.1 : Nat) : Int)))), (3, x.2), (2, (.slice none 0 0)), (18, v), (19, (.int .i64 (((l.length : Nat) : Int))))]) (fun x => .row x.2 24 4 ((psTo l x.1).length) ((psTo l x.1).flatMap bcl) :: O) (fun x H' => x.1 ≤ l.length) (fun x => l.length - x.1) (0, v1) ?_ ?_ ?_ ?_
  · exact (by (try dsimp only); omega)
  · exact .cons (rfl) (.cons (rfl) (.cons (rfl) (.cons (rfl) (.cons (rfl) (.nil)))))
  · exact (by rw [psTo_zero]; simp [bcl])
  intro x H2 hle3 hi4
  have hp := psTo_len l x.1
  refine Wp.seq ?_
  refine Wp.region ?_
  refine Seg.op (OpT.lss rfl rfl) rfl ?_
  refine Seg.nil ?_
  refine At.then_n ?_
  refine Wp.seq ?_
  refine Wp.cond (b := decide (((x.1 : Nat) : Int) < ((l.length : Nat) : Int))) rfl (fun hb5 => ?_) (fun hb5 => ?_)
  ·
    replace hb5 := of_decide_eq_true hb5
    refine Wp.skip ?_
    refine At.then_n ?_
    refine Wp.seq ?_
    refine Wp.block ?_
    refine Wp.seq ?_
    refine Wp.region ?_
    refine Seg.op (OpT.ixImm Try.underlying45 ti24 rfl (hl.mono hle3) rfl (by omega)) rfl ?_
    refine Seg.op (OpT.ldImmA  (vs := (bcl (nth l x.1))) Try.underlying24 rfl ti24 (bcl_ne _) rfl (hl.mono hle3) (bcl_at l x.1 (by omega))) rfl ?_
    refine Seg.alloc (cs := bcs (fun _ => false)) ti24 bcs_empty rfl fun Bs => ?_
    refine Seg.stBlkW (i := 0) (cs' := (bcs (nth l x.1))) rfl rfl ti24 rfl rfl (bcs_one _) rfl ?_
    refine Seg.nil ?_
    refine At.then_n ?_
    refine Wp.seq ?_
    refine Wp.region ?_
    refine Seg.op (OpT.assign rfl) rfl ?_
    refine Seg.nil ?_
    refine At.then_n ?_
    refine Wp.seq ?_
    refine Wp.seq ?_
    refine Wp.nilRow 24 4 ?_
    refine Wp.region ?_
    refine Seg.op (OpT.move rfl) rfl ?_
    refine Seg.op (OpT.lenRow (i := 2) Try.underlying45 rfl rfl) rfl ?_
    refine Seg.op (OpT.move rfl) rfl ?_
    refine Seg.nil ?_
    refine At.then_n ?_
    refine Wp.block ?_
    refine Wp.loop (X := Nat × Value) (fun y => [(26, (.int .i64 (((y.1 : Nat) : Int)))), (6, y.2), (20, (.int .i64 (((x.1 : Nat) : Int)))), (3, x.2), (2, (.slice none 0 0)), (18, v), (19, (.int .i64 (((l.length : Nat) : Int)))), (21, (.bool (decide (((x.1 : Nat) : Int) < ((l.length : Nat) : Int))))), (22, (elemPtr v (x.1 * 4))), (23, (.agg (bcs (nth l x.1)))), (5, (ptr Bs (0))), (24, x.2), (25, (.int .i64 ((((psTo l x.1).length : Nat) : Int))))]) (fun y => .row y.2 24 4 ((nx l x.1 y.1 0).length) ((nx l x.1 y.1 0).flatMap bcl) :: .blk Bs (.cells (bcs (nth l x.1)) 24 (0, 0)) :: .row x.2 24 4 ((psTo l x.1).length) ((psTo l x.1).flatMap bcl) :: O) (fun y H' => y.1 ≤ (psTo l x.1).length) (fun y => (psTo l x.1).length - y.1) (0, .slice none 0 0) ?_ ?_ ?_ ?_
    · exact (by (try dsimp only); omega)
    · exact .cons (rfl) (.cons (rfl) (.cons (rfl) (.cons (rfl) (.cons (rfl) (.cons (rfl) (.cons (rfl) (.cons (rfl) (.cons (rfl) (.cons (rfl) (.cons (rfl) (.cons (rfl) (.cons (rfl) (.nil)))))))))))))
    · exact (by first | rfl | (rw [nx_zero]; done) | (rw [nx_zero]; rfl))
    intro y H6 hle7 hi8
    refine Wp.seq ?_
    refine Wp.region ?_
    refine Seg.op (OpT.lss rfl rfl) rfl ?_
    refine Seg.nil ?_
    refine At.then_n ?_
    refine Wp.seq ?_
    refine Wp.cond (b := decide (((y.1 : Nat) : Int) < (((psTo l x.1).length : Nat) : Int))) rfl (fun hb9 => ?_) (fun hb9 => ?_)
    ·
      replace hb9 := of_decide_eq_true hb9
      refine Wp.skip ?_
      refine At.then_n ?_
      refine Wp.seq ?_
      refine Wp.block ?_
      refine Wp.seq ?_
      refine Wp.region ?_
      refine Seg.op (OpT.ixRow (j := 2) Try.underlying45 ti24 rfl rfl rfl (by omega)) rfl ?_
      refine Seg.op (OpT.ldRowA (i := 2) (vs := (bcl (nth (psTo l x.1) y.1))) Try.underlying24 rfl ti24 (bcl_ne _) rfl rfl (bcl_at (psTo l x.1) y.1 (by omega))) rfl ?_
      refine Seg.alloc (cs := bcs (fun _ => false)) ti24 bcs_empty rfl fun Bp => ?_
      refine Seg.stBlkW (i := 0) (cs' := (bcs (nth (psTo l x.1) y.1))) rfl rfl ti24 rfl rfl (bcs_one _) rfl ?_
      refine Seg.nil ?_
      refine At.then_n ?_
      refine Wp.seq ?_
      refine Wp.drawE 9 follows rfl (by kernel_rfl) ?_
      refine SegL.opE (OpT.ldBlkW (i := 0) Try.underlying24 rfl ti24 rfl rfl rfl) rfl ?_
      refine SegL.opE (OpT.ldBlkW (i := 2) Try.underlying24 rfl ti24 rfl rfl rfl) rfl ?_
      refine SegL.opE (OpT.cast (v' := (.agg (bcs (cutA (nth (psTo l x.1) y.1) (nth l x.1))))) (OpT.call ent19 rfl (and_w (nth (psTo l x.1) y.1) (nth l x.1))) (cutA_eq _ _)) rfl ?_
      refine SegL.opE (OpT.ldBlkW (i := 0) Try.underlying24 rfl ti24 rfl rfl rfl) rfl ?_
      refine SegL.opE (OpT.ldBlkW (i := 2) Try.underlying24 rfl ti24 rfl rfl rfl) rfl ?_
      refine SegL.opE (OpT.call ent21 rfl (not_w (nth l x.1))) rfl ?_
      refine SegL.opE (OpT.cast (v' := (.agg (bcs (cutB (nth (psTo l x.1) y.1) (nth l x.1))))) (OpT.call ent19 rfl (and_w (nth (psTo l x.1) y.1) (fun t => !(nth l x.1) t))) (cutB_eq _ _)) rfl ?_
      refine SegL.opE (OpT.buildA (vs := [(0, .agg (bcs (cutA (nth (psTo l x.1) y.1) (nth l x.1)))), (1, .agg (bcs (cutB (nth (psTo l x.1) y.1) (nth l x.1))))]) (cs := bcs2 (cutA (nth (psTo l x.1) y.1) (nth l x.1)) (cutB (nth (psTo l x.1) y.1) (nth l x.1))) Try.underlying53 ti53 ti24 rfl rfl (fill2 _ _)) rfl ?_
      refine SegL.opE (OpT.move rfl) rfl ?_
      refine SegL.doneE ?_
      refine EndL.is (t := 26) (v := (.int .i64 (((y.1 : Nat) : Int)))) rfl ?_
      refine EndL.is (t := 6) (v := y.2) rfl ?_
      refine EndL.is (t := 20) (v := (.int .i64 (((x.1 : Nat) : Int)))) rfl ?_
      refine EndL.is (t := 3) (v := x.2) rfl ?_
      refine EndL.is (t := 2) (v := (.slice none 0 0)) rfl ?_
      refine EndL.is (t := 18) (v := v) rfl ?_
      refine EndL.is (t := 19) (v := (.int .i64 (((l.length : Nat) : Int)))) rfl ?_
      refine EndL.is (t := 21) (v := (.bool (decide (((x.1 : Nat) : Int) < ((l.length : Nat) : Int))))) rfl ?_
      refine EndL.is (t := 22) (v := (elemPtr v (x.1 * 4))) rfl ?_
      refine EndL.is (t := 23) (v := (.agg (bcs (nth l x.1)))) rfl ?_
      refine EndL.is (t := 5) (v := (ptr Bs (0))) rfl ?_
      refine EndL.is (t := 24) (v := x.2) rfl ?_
      refine EndL.is (t := 25) (v := (.int .i64 ((((psTo l x.1).length : Nat) : Int)))) rfl ?_
      refine EndL.is (t := 27) (v := (.bool (decide (((y.1 : Nat) : Int) < (((psTo l x.1).length : Nat) : Int))))) rfl ?_
      refine EndL.is (t := 28) (v := (elemPtr x.2 (y.1 * 4))) rfl ?_
      refine EndL.is (t := 29) (v := (.agg (bcs (nth (psTo l x.1) y.1)))) rfl ?_
      refine EndL.is (t := 8) (v := (ptr Bp (0))) rfl ?_
      refine EndL.is (t := 30) (v := (.agg (bcs (nth (psTo l x.1) y.1)))) rfl ?_
      refine EndL.is (t := 31) (v := (.agg (bcs (nth l x.1)))) rfl ?_
      refine EndL.is (t := 32) (v := (.agg (bcs (cutA (nth (psTo l x.1) y.1) (nth l x.1))))) rfl ?_
      refine EndL.is (t := 33) (v := (.agg (bcs (nth (psTo l x.1) y.1)))) rfl ?_
      refine EndL.is (t := 34) (v := (.agg (bcs (nth l x.1)))) rfl ?_
      refine EndL.is (t := 35) (v := (.agg (bcs (fun t => !(nth l x.1) t)))) rfl ?_
      refine EndL.is (t := 36) (v := (.agg (bcs (cutB (nth (psTo l x.1) y.1) (nth l x.1))))) rfl ?_
      refine EndL.is (t := 37) (v := (.agg (bcs2 (cutA (nth (psTo l x.1) y.1) (nth l x.1)) (cutB (nth (psTo l x.1) y.1) (nth l x.1))))) rfl ?_
      refine EndL.is (t := 38) (v := (.int .i64 (0))) rfl ?_
      refine EndL.seg ?_
      refine Seg.nil ?_
      refine At.then_n ?_
      refine Wp.block ?_
      refine Wp.loop (X := Nat × Value) (fun z => [(38, (.int .i64 (((z.1 : Nat) : Int)))), (6, z.2), (26, (.int .i64 (((y.1 : Nat) : Int)))), (20, (.int .i64 (((x.1 : Nat) : Int)))), (3, x.2), (2, (.slice none 0 0)), (18, v), (19, (.int .i64 (((l.length : Nat) : Int)))), (21, (.bool (decide (((x.1 : Nat) : Int) < ((l.length : Nat) : Int))))), (22, (elemPtr v (x.1 * 4))), (23, (.agg (bcs (nth l x.1)))), (5, (ptr Bs (0))), (24, x.2), (25, (.int .i64 ((((psTo l x.1).length : Nat) : Int)))), (27, (.bool (decide (((y.1 : Nat) : Int) < (((psTo l x.1).length : Nat) : Int))))), (28, (elemPtr x.2 (y.1 * 4))), (29, (.agg (bcs (nth (psTo l x.1) y.1)))), (8, (ptr Bp (0))), (30, (.agg (bcs (nth (psTo l x.1) y.1)))), (31, (.agg (bcs (nth l x.1)))), (32, (.agg (bcs (cutA (nth (psTo l x.1) y.1) (nth l x.1))))), (33, (.agg (bcs (nth (psTo l x.1) y.1)))), (34, (.agg (bcs (nth l x.1)))), (35, (.agg (bcs (fun t => !(nth l x.1) t)))), (36, (.agg (bcs (cutB (nth (psTo l x.1) y.1) (nth l x.1))))), (37, (.agg (bcs2 (cutA (nth (psTo l x.1) y.1) (nth l x.1)) (cutB (nth (psTo l x.1) y.1) (nth l x.1)))))]) (fun z => .blk Bp (.cells (bcs (nth (psTo l x.1) y.1)) 24 (0, 0)) :: .row z.2 24 4 ((nx l x.1 y.1 z.1).length) ((nx l x.1 y.1 z.1).flatMap bcl) :: .blk Bs (.cells (bcs (nth l x.1)) 24 (0, 0)) :: .row x.2 24 4 ((psTo l x.1).length) ((psTo l x.1).flatMap bcl) :: O) (fun z H' => z.1 ≤ 2) (fun z => 2 - z.1) (0, y.2) ?_ ?_ ?_ ?_
      · exact (by (try dsimp only); omega)
      · exact .cons (rfl) (.cons (rfl) (.cons (rfl) (.cons (rfl) (.cons (rfl) (.cons (rfl) (.cons (rfl) (.cons (rfl) (.cons (rfl) (.cons (rfl) (.cons (rfl) (.cons (rfl) (.cons (rfl) (.cons (rfl) (.cons (rfl) (.cons (rfl) (.cons (rfl) (.cons (rfl) (.cons (rfl) (.cons (rfl) (.cons (rfl) (.cons (rfl) (.cons (rfl) (.cons (rfl) (.cons (rfl) (.cons (rfl) (.nil))))))))))))))))))))))))))
      · exact (rfl)
      intro z H10 hle11 hi12
      have hx := nx_len l x.1 y.1 z.1 (by omega)
      refine Wp.seq ?_
      refine Wp.region ?_
      refine Seg.op (OpT.lss rfl rfl) rfl ?_
      refine Seg.nil ?_
      refine At.then_n ?_
      refine Wp.seq ?_
      refine Wp.cond (b := decide (((z.1 : Nat) : Int) < 2)) rfl (fun hb13 => ?_) (fun hb13 => ?_)
      ·
        replace hb13 := of_decide_eq_true hb13
        refine Wp.skip ?_
        refine At.then_n ?_
        refine Wp.seq ?_
        refine Wp.block ?_
        refine Wp.seq ?_
        refine Wp.region ?_
        refine Seg.op (OpT.cast (v' := .agg (bcs (sel (cutA (nth (psTo l x.1) y.1) (nth l x.1)) (cutB (nth (psTo l x.1) y.1) (nth l x.1)) z.1))) (OpT.indexA Try.underlying53 Try.underlying24 rfl ti24 rfl rfl (by omega)) (bcs2_at _ _ z.1 (by omega))) rfl ?_
        refine Seg.alloc (cs := bcs (fun _ => false)) ti24 bcs_empty rfl fun Bx => ?_
        refine Seg.stBlkW (i := 0) (cs' := (bcs (sel (cutA (nth (psTo l x.1) y.1) (nth l x.1)) (cutB (nth (psTo l x.1) y.1) (nth l x.1)) z.1))) rfl rfl ti24 rfl rfl (bcs_one _) rfl ?_
        refine Seg.nil ?_
        refine At.then_n ?_
        refine Wp.seq ?_
        refine Wp.region ?_
        refine Seg.op (OpT.ldBlkW (i := 0) Try.underlying24 rfl ti24 rfl rfl rfl) rfl ?_
        refine Seg.op (OpT.cast (OpT.buildA (ps := []) Try.underlying24 ti24 ti22 rfl rfl rfl) (congrArg Value.agg bcs_empty)) rfl ?_
        refine Seg.op (OpT.asB (b := !eqS (sel (cutA (nth (psTo l x.1) y.1) (nth l x.1)) (cutB (nth (psTo l x.1) y.1) (nth l x.1)) z.1) (fun _ => false)) (c := ne (sel (cutA (nth (psTo l x.1) y.1) (nth l x.1)) (cutB (nth (psTo l x.1) y.1) (nth l x.1)) z.1)) (OpT.neBs (p := (sel (cutA (nth (psTo l x.1) y.1) (nth l x.1)) (cutB (nth (psTo l x.1) y.1) (nth l x.1)) z.1)) (q := (fun _ => false)) eqg24 Try.underlying24 Try.underlying22 ti22 rfl rfl) (ne_eq _)) rfl ?_
        refine Seg.nil ?_
        refine At.then_n ?_
        refine Wp.cond (b := ne (sel (cutA (nth (psTo l x.1) y.1) (nth l x.1)) (cutB (nth (psTo l x.1) y.1) (nth l x.1)) z.1)) rfl (fun hb14 => ?_) (fun hb14 => ?_)
        ·
          refine Wp.region ?_
          refine Seg.op (OpT.move rfl) rfl ?_
          refine Seg.op (OpT.ldBlkW (i := 0) Try.underlying24 rfl ti24 rfl rfl rfl) rfl ?_
          refine Seg.buildSl1 (cs := (bcs (sel (cutA (nth (psTo l x.1) y.1) (nth l x.1)) (cutB (nth (psTo l x.1) y.1) (nth l x.1)) z.1))) Try.underlying45 ti24 rfl rfl rfl rfl rfl rfl fun v15 => ?_
          refine Seg.append (z := (.agg #[.int .u64 0, .int .u64 0, .int .u64 0, .int .u64 0])) (i := 3) Try.underlying45 ti24 rfl (by decide) rfl rfl rfl (fun w hs => hs.srcRow (i := 0) rfl) (by simpa using bcs_one _) (by omega) (by omega) rfl fun v16 => ?_
          refine Seg.drop (i := 0) ?_
          refine Seg.op (OpT.assign rfl) rfl ?_
          refine Seg.nil ?_
          refine At.blk_n ?_
          refine At.then_n ?_
          refine Wp.region ?_
          refine Seg.op (OpT.add rfl rfl (fits64 (by omega))) rfl ?_
          refine Seg.op (OpT.move rfl) rfl ?_
          refine Seg.nil ?_
          refine At.drop (i := 0) ?_
          refine At.next (z.1 + 1, v16) (Hp.le.refl _) ?_ ?_ ?_ ?_
          · exact (by (try dsimp only); omega)
          · exact .cons (rfl) (.cons (rfl) (.cons (rfl) (.cons (rfl) (.cons (rfl) (.cons (rfl) (.cons (rfl) (.cons (rfl) (.cons (rfl) (.cons (rfl) (.cons (rfl) (.cons (rfl) (.cons (rfl) (.cons (rfl) (.cons (rfl) (.cons (rfl) (.cons (rfl) (.cons (rfl) (.cons (rfl) (.cons (rfl) (.cons (rfl) (.cons (rfl) (.cons (rfl) (.cons (rfl) (.cons (rfl) (.cons (rfl) (.nil))))))))))))))))))))))))))
          · exact (by first | (rw [nx_hit l x.1 y.1 z.1 (by omega) (by assumption)]; simp [bcl]; done) | (rw [nx_skip l x.1 y.1 z.1 (by omega) (by assumption)]; rfl))
          · exact (by (try dsimp only); omega)
        ·
          refine Wp.skip ?_
          refine At.blk_n ?_
          refine At.then_n ?_
          refine Wp.region ?_
          refine Seg.op (OpT.add rfl rfl (fits64 (by omega))) rfl ?_
          refine Seg.op (OpT.move rfl) rfl ?_
          refine Seg.nil ?_
          refine At.drop (i := 0) ?_
          refine At.next (z.1 + 1, z.2) (Hp.le.refl _) ?_ ?_ ?_ ?_
          · exact (by (try dsimp only); omega)
          · exact .cons (rfl) (.cons (rfl) (.cons (rfl) (.cons (rfl) (.cons (rfl) (.cons (rfl) (.cons (rfl) (.cons (rfl) (.cons (rfl) (.cons (rfl) (.cons (rfl) (.cons (rfl) (.cons (rfl) (.cons (rfl) (.cons (rfl) (.cons (rfl) (.cons (rfl) (.cons (rfl) (.cons (rfl) (.cons (rfl) (.cons (rfl) (.cons (rfl) (.cons (rfl) (.cons (rfl) (.cons (rfl) (.cons (rfl) (.nil))))))))))))))))))))))))))
          · exact (by first | (rw [nx_hit l x.1 y.1 z.1 (by omega) (by assumption)]; simp [bcl]; done) | (rw [nx_skip l x.1 y.1 z.1 (by omega) (by assumption)]; rfl))
          · exact (by (try dsimp only); omega)
      ·
        replace hb13 := of_decide_eq_false hb13
        refine Wp.exit ?_
        refine At.then_x ?_
        refine At.then_x ?_
        refine At.blk_hit ?_
        refine At.blk_n ?_
        refine At.then_n ?_
        refine Wp.region ?_
        refine Seg.op (OpT.add rfl rfl (fits64 (by omega))) rfl ?_
        refine Seg.op (OpT.move rfl) rfl ?_
        refine Seg.nil ?_
        refine At.drop (i := 0) ?_
        refine At.next (y.1 + 1, z.2) hle11 ?_ ?_ ?_ ?_
        · exact (by (try dsimp only); omega)
        · exact .cons (rfl) (.cons (rfl) (.cons (rfl) (.cons (rfl) (.cons (rfl) (.cons (rfl) (.cons (rfl) (.cons (rfl) (.cons (rfl) (.cons (rfl) (.cons (rfl) (.cons (rfl) (.cons (rfl) (.nil)))))))))))))
        · exact (by first | rfl | (rw [nx_next l x.1 y.1 (by omega), show z.1 = 2 by omega]; done) | (rw [nx_next l x.1 y.1 (by omega), show z.1 = 2 by omega]; rfl))
        · exact (by (try dsimp only); omega)
    ·
      replace hb9 := of_decide_eq_false hb9
      refine Wp.exit ?_
      refine At.then_x ?_
      refine At.then_x ?_
      refine At.blk_hit ?_
      refine At.then_n ?_
      refine Wp.region ?_
      refine Seg.op (OpT.move rfl) rfl ?_
      refine Seg.op (OpT.assign rfl) rfl ?_
      refine Seg.nil ?_
      refine At.drop (i := 2) ?_
      refine At.blk_n ?_
      refine At.then_n ?_
      refine Wp.region ?_
      refine Seg.op (OpT.add rfl rfl (fits64 (by omega))) rfl ?_
      refine Seg.op (OpT.move rfl) rfl ?_
      refine Seg.nil ?_
      refine At.drop (i := 1) ?_
      refine At.next (x.1 + 1, y.2) hle7 ?_ ?_ ?_ ?_
      · exact (by (try dsimp only); omega)
      · exact .cons (rfl) (.cons (rfl) (.cons (rfl) (.cons (rfl) (.cons (rfl) (.nil)))))
      · exact (by first | rfl | (rw [nx_done l x.1 y.1 (by omega) (by omega)]; done) | (rw [nx_done l x.1 y.1 (by omega) (by omega)]; rfl))
      · exact (by (try dsimp only); omega)
  ·
    replace hb5 := of_decide_eq_false hb5
    refine Wp.exit ?_
    refine At.then_x ?_
    refine At.then_x ?_
    refine At.blk_hit ?_
    refine At.then_n ?_
    refine Wp.seq ?_
    refine Wp.region ?_
    refine Seg.op (OpT.assign rfl) rfl ?_
    refine Seg.nil ?_
    refine At.then_n ?_
    refine Wp.seq ?_
    refine Wp.nilRow 24 4 ?_
    refine Wp.region ?_
    refine Seg.op (OpT.cast (OpT.buildA (ps := []) Try.underlying24 ti24 ti22 rfl rfl rfl) (congrArg Value.agg bcs_empty)) rfl ?_
    refine Seg.alloc (cs := bcs (fun _ => false)) ti24 bcs_empty rfl fun Bn => ?_
    refine Seg.stBlkW (i := 0) (cs' := (bcs (fun _ => false))) rfl rfl ti24 rfl rfl (bcs_one _) rfl ?_
    refine Seg.nil ?_
    refine At.then_n ?_
    refine Wp.seq ?_
    refine Wp.seq ?_
    refine Wp.region ?_
    refine Seg.op (OpT.move rfl) rfl ?_
    refine Seg.nil ?_
    refine At.then_n ?_
    refine Wp.block ?_
    refine Wp.loop (X := Nat × Value) (fun b => [(53, (.int .i64 (((b.1 : Nat) : Int)))), (11, b.2), (3, x.2), (2, (.slice none 0 0)), (12, (ptr Bn (0)))]) (fun b => .blk Bn (.cells (bcs (outSt (psTo l x.1) b.1).2) 24 (0, 0)) :: .row b.2 24 4 (((outSt (psTo l x.1) b.1).1).length) (((outSt (psTo l x.1) b.1).1).flatMap bcl) :: .row x.2 24 4 ((psTo l x.1).length) ((psTo l x.1).flatMap bcl) :: O) (fun b H' => b.1 ≤ 256) (fun b => 256 - b.1) (0, .slice none 0 0) ?_ ?_ ?_ ?_
    · exact (by (try dsimp only); omega)
    · exact .cons (rfl) (.cons (rfl) (.cons (rfl) (.cons (rfl) (.cons (rfl) (.nil)))))
    · exact (by first | rfl | (rw [outSt_zero]; done) | (rw [outSt_zero]; rfl))
    intro b H17 hle18 hi19
    refine Wp.seq ?_
    refine Wp.region ?_
    refine Seg.op (OpT.lss rfl rfl) rfl ?_
    refine Seg.nil ?_
    refine At.then_n ?_
    refine Wp.seq ?_
    refine Wp.cond (b := decide (((b.1 : Nat) : Int) < 256)) rfl (fun hb20 => ?_) (fun hb20 => ?_)
    ·
      replace hb20 := of_decide_eq_true hb20
      refine Wp.skip ?_
      refine At.then_n ?_
      refine Wp.seq ?_
      refine Wp.block ?_
      refine Wp.seq ?_
      refine Wp.region ?_
      refine Seg.op (OpT.move rfl) rfl ?_
      refine Seg.op (OpT.assign rfl) rfl ?_
      refine Seg.nil ?_
      refine At.then_n ?_
      refine Wp.seq ?_
      refine Wp.seq ?_
      refine Wp.region ?_
      refine Seg.op (OpT.ldBlkW (i := 0) Try.underlying24 rfl ti24 rfl rfl rfl) rfl ?_
      refine Seg.op (OpT.move rfl) rfl ?_
      refine Seg.op (OpT.conv Try.underlying3 Try.underlying5 rfl (fitsU8 (by omega))) rfl ?_
      refine Seg.op (OpT.call ent15 rfl (has_w ((outSt (psTo l x.1) b.1).2) b.1 (by omega))) rfl ?_
      refine Seg.nil ?_
      refine At.then_n ?_
      refine Wp.cond (b := ((outSt (psTo l x.1) b.1).2) b.1) rfl (fun hb21 => ?_) (fun hb21 => ?_)
      ·
        refine Wp.exit ?_
        refine At.then_x ?_
        refine At.blk_hit ?_
        refine At.then_n ?_
        refine Wp.region ?_
        refine Seg.op (OpT.add rfl rfl (fits64 (by omega))) rfl ?_
        refine Seg.op (OpT.move rfl) rfl ?_
        refine Seg.nil ?_
        refine At.next (b.1 + 1, b.2) (Hp.le.refl _) ?_ ?_ ?_ ?_
        · exact (by (try dsimp only); omega)
        · exact .cons (rfl) (.cons (rfl) (.cons (rfl) (.cons (rfl) (.cons (rfl) (.nil)))))
        · exact (by first | (rw [outSt_skip _ b.1 (by assumption)]; done) | (rw [outSt_skip _ b.1 (by assumption)]; rfl) | (rw [outSt_new _ b.1 m.1 (by assumption) (by omega)]; done) | (rw [outSt_new _ b.1 m.1 (by assumption) (by omega)]; rfl))
        · exact (by (try dsimp only); omega)
      ·
        refine Wp.skip ?_
        refine At.then_n ?_
        refine Wp.seq ?_
        refine Wp.region ?_
        refine Seg.op (OpT.move rfl) rfl ?_
        refine Seg.op (OpT.lenRow (i := 2) Try.underlying45 rfl rfl) rfl ?_
        refine Seg.op (OpT.move rfl) rfl ?_
        refine Seg.nil ?_
        refine At.then_n ?_
        refine Wp.block ?_
        refine Wp.loop (X := Nat × Value) (fun m => [(62, (.int .i64 (((m.1 : Nat) : Int)))), (11, m.2), (53, (.int .i64 (((b.1 : Nat) : Int)))), (3, x.2), (2, (.slice none 0 0)), (12, (ptr Bn (0))), (54, (.bool (decide (((b.1 : Nat) : Int) < 256)))), (55, (.int .i64 (((b.1 : Nat) : Int)))), (13, (.int .i64 (((b.1 : Nat) : Int)))), (56, (.agg (bcs (outSt (psTo l x.1) b.1).2))), (57, (.int .i64 (((b.1 : Nat) : Int)))), (58, (.int .u8 (((b.1 : Nat) : Int)))), (59, (.bool (((outSt (psTo l x.1) b.1).2) b.1))), (60, x.2), (61, (.int .i64 ((((psTo l x.1).length : Nat) : Int))))]) (fun m => .blk Bn (.cells (bcs (outIn (psTo l x.1) b.1 m.1).2) 24 (0, 0)) :: .row m.2 24 4 (((outIn (psTo l x.1) b.1 m.1).1).length) (((outIn (psTo l x.1) b.1 m.1).1).flatMap bcl) :: .row x.2 24 4 ((psTo l x.1).length) ((psTo l x.1).flatMap bcl) :: O) (fun m H' => m.1 ≤ (psTo l x.1).length) (fun m => (psTo l x.1).length - m.1) (0, b.2) ?_ ?_ ?_ ?_
        · exact (by (try dsimp only); omega)
        · exact .cons (rfl) (.cons (rfl) (.cons (rfl) (.cons (rfl) (.cons (rfl) (.cons (rfl) (.cons (rfl) (.cons (rfl) (.cons (rfl) (.cons (rfl) (.cons (rfl) (.cons (rfl) (.cons (rfl) (.cons (rfl) (.cons (rfl) (.nil)))))))))))))))
        · exact (by first | rfl | (rw [outIn_zero]; done) | (rw [outIn_zero]; rfl))
        intro m H22 hle23 hi24
        have ho := outIn_len (psTo l x.1) (by omega) b.1 m.1
        refine Wp.seq ?_
        refine Wp.region ?_
        refine Seg.op (OpT.lss rfl rfl) rfl ?_
        refine Seg.nil ?_
        refine At.then_n ?_
        refine Wp.seq ?_
        refine Wp.cond (b := decide (((m.1 : Nat) : Int) < (((psTo l x.1).length : Nat) : Int))) rfl (fun hb25 => ?_) (fun hb25 => ?_)
        ·
          replace hb25 := of_decide_eq_true hb25
          refine Wp.skip ?_
          refine At.then_n ?_
          refine Wp.seq ?_
          refine Wp.block ?_
          refine Wp.seq ?_
          refine Wp.region ?_
          refine Seg.op (OpT.ixRow (j := 2) Try.underlying45 ti24 rfl rfl rfl (by omega)) rfl ?_
          refine Seg.op (OpT.ldRowA (i := 2) (vs := (bcl (nth (psTo l x.1) m.1))) Try.underlying24 rfl ti24 (bcl_ne _) rfl rfl (bcl_at (psTo l x.1) m.1 (by omega))) rfl ?_
          refine Seg.alloc (cs := bcs (fun _ => false)) ti24 bcs_empty rfl fun Bq => ?_
          refine Seg.stBlkW (i := 0) (cs' := (bcs (nth (psTo l x.1) m.1))) rfl rfl ti24 rfl rfl (bcs_one _) rfl ?_
          refine Seg.nil ?_
          refine At.then_n ?_
          refine Wp.seq ?_
          refine Wp.region ?_
          refine Seg.op (OpT.ldBlkW (i := 0) Try.underlying24 rfl ti24 rfl rfl rfl) rfl ?_
          refine Seg.op (OpT.move rfl) rfl ?_
          refine Seg.op (OpT.conv Try.underlying3 Try.underlying5 rfl (fitsU8 (by omega))) rfl ?_
          refine Seg.op (OpT.call ent15 rfl (has_w (nth (psTo l x.1) m.1) b.1 (by omega))) rfl ?_
          refine Seg.nil ?_
          refine At.then_n ?_
          refine Wp.cond (b := (nth (psTo l x.1) m.1) b.1) rfl (fun hb26 => ?_) (fun hb26 => ?_)
          ·
            refine Wp.seq ?_
            refine Wp.region ?_
            refine Seg.op (OpT.move rfl) rfl ?_
            refine Seg.op (OpT.ldBlkW (i := 0) Try.underlying24 rfl ti24 rfl rfl rfl) rfl ?_
            refine Seg.buildSl1 (cs := (bcs (nth (psTo l x.1) m.1))) Try.underlying45 ti24 rfl rfl rfl rfl rfl rfl fun v27 => ?_
            refine Seg.append (z := (.agg #[.int .u64 0, .int .u64 0, .int .u64 0, .int .u64 0])) (i := 3) Try.underlying45 ti24 rfl (by decide) rfl rfl rfl (fun w hs => hs.srcRow (i := 0) rfl) (by simpa using bcs_one _) (by omega) (by omega) rfl fun v28 => ?_
            refine Seg.drop (i := 0) ?_
            refine Seg.op (OpT.assign rfl) rfl ?_
            refine Seg.nil ?_
            refine At.then_n ?_
            refine Wp.region ?_
            refine Seg.op (OpT.ldBlkW (i := 1) Try.underlying24 rfl ti24 rfl rfl rfl) rfl ?_
            refine Seg.op (OpT.ldBlkW (i := 0) Try.underlying24 rfl ti24 rfl rfl rfl) rfl ?_
            refine Seg.op (OpT.call ent17 rfl (or_w (outIn (psTo l x.1) b.1 m.1).2 (nth (psTo l x.1) m.1))) rfl ?_
            refine Seg.stBlkW (i := 1) (cs' := (bcs (fun y => (outIn (psTo l x.1) b.1 m.1).2 y || (nth (psTo l x.1) m.1) y))) rfl rfl ti24 rfl rfl (bcs_one _) rfl ?_
            refine Seg.nil ?_
            refine At.blk_n ?_
            refine At.then_n ?_
            refine Wp.region ?_
            refine Seg.op (OpT.add rfl rfl (fits64 (by omega))) rfl ?_
            refine Seg.op (OpT.move rfl) rfl ?_
            refine Seg.nil ?_
            refine At.drop (i := 0) ?_
            refine At.next (m.1 + 1, v28) (Hp.le.refl _) ?_ ?_ ?_ ?_
            · exact (by (try dsimp only); omega)
            · exact .cons (rfl) (.cons (rfl) (.cons (rfl) (.cons (rfl) (.cons (rfl) (.cons (rfl) (.cons (rfl) (.cons (rfl) (.cons (rfl) (.cons (rfl) (.cons (rfl) (.cons (rfl) (.cons (rfl) (.cons (rfl) (.cons (rfl) (.nil)))))))))))))))
            · exact (by first | (rw [outIn_hit _ b.1 m.1 (by omega) (by assumption)]; simp [bcl]; done) | (rw [outIn_skip _ b.1 m.1 (by omega) (by assumption)]; rfl))
            · exact (by (try dsimp only); omega)
          ·
            refine Wp.skip ?_
            refine At.blk_n ?_
            refine At.then_n ?_
            refine Wp.region ?_
            refine Seg.op (OpT.add rfl rfl (fits64 (by omega))) rfl ?_
            refine Seg.op (OpT.move rfl) rfl ?_
            refine Seg.nil ?_
            refine At.drop (i := 0) ?_
            refine At.next (m.1 + 1, m.2) (Hp.le.refl _) ?_ ?_ ?_ ?_
            · exact (by (try dsimp only); omega)
            · exact .cons (rfl) (.cons (rfl) (.cons (rfl) (.cons (rfl) (.cons (rfl) (.cons (rfl) (.cons (rfl) (.cons (rfl) (.cons (rfl) (.cons (rfl) (.cons (rfl) (.cons (rfl) (.cons (rfl) (.cons (rfl) (.cons (rfl) (.nil)))))))))))))))
            · exact (by first | (rw [outIn_hit _ b.1 m.1 (by omega) (by assumption)]; simp [bcl]; done) | (rw [outIn_skip _ b.1 m.1 (by omega) (by assumption)]; rfl))
            · exact (by (try dsimp only); omega)
        ·
          replace hb25 := of_decide_eq_false hb25
          refine Wp.exit ?_
          refine At.then_x ?_
          refine At.then_x ?_
          refine At.blk_hit ?_
          refine At.blk_n ?_
          refine At.then_n ?_
          refine Wp.region ?_
          refine Seg.op (OpT.add rfl rfl (fits64 (by omega))) rfl ?_
          refine Seg.op (OpT.move rfl) rfl ?_
          refine Seg.nil ?_
          refine At.next (b.1 + 1, m.2) hle23 ?_ ?_ ?_ ?_
          · exact (by (try dsimp only); omega)
          · exact .cons (rfl) (.cons (rfl) (.cons (rfl) (.cons (rfl) (.cons (rfl) (.nil)))))
          · exact (by first | (rw [outSt_skip _ b.1 (by assumption)]; done) | (rw [outSt_skip _ b.1 (by assumption)]; rfl) | (rw [outSt_new _ b.1 m.1 (by assumption) (by omega)]; done) | (rw [outSt_new _ b.1 m.1 (by assumption) (by omega)]; rfl))
          · exact (by (try dsimp only); omega)
    ·
      replace hb20 := of_decide_eq_false hb20
      refine Wp.exit ?_
      refine At.then_x ?_
      refine At.then_x ?_
      refine At.blk_hit ?_
      refine At.then_n ?_
      refine Wp.seq ?_
      refine Wp.region ?_
      refine Seg.op (OpT.move rfl) rfl ?_
      refine Seg.op (OpT.assign rfl) rfl ?_
      refine Seg.nil ?_
      refine At.then_n ?_
      refine Wp.ret ?_
      refine At.freeze (i := 1) rfl fun H29 hle30 hsl31 => ?_
      refine At.drop (i := 0) ?_
      refine At.drop (i := 0) ?_
      refine At.res1 rfl (RV.tmp (v := b.2) rfl) ?_
      exact Ret.mk ((hle3.trans hle18).trans hle30) (⟨rfl, by have e : x.1 = l.length := (by omega); have e2 : b.1 = 256 := (by omega); rw [e, e2] at hsl31; exact hsl31⟩)

end Go.Proofs.Ythhhdpcbkkldgaa
