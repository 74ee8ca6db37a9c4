/- Walks, written by a program (gen.py), one law an operation. -/
import Derived.Test.YthhhdpcbkkldgaaHd
namespace Go.Proofs.Ythhhdpcbkkldgaa
open Go.GK
variable {H : Hp} {O : List Res}

set_option maxHeartbeats 4000000 in
theorem has_w (p : Nat → Bool) (b : Nat) (hb : b < 256) :
    TriV Try.prog 15 [(.agg (bcs p)), (.int .u8 (((b : Nat) : Int)))] H O (.bool (p b)) := by
  intro w hs
  refine wp_of Try.func15 rfl rfl rfl ?_ hs
  clear hs w
  refine Wp.seq ?_
  refine Wp.region ?_
  refine Seg.box (cs := bcs p) rfl rfl rfl fun B1 => ?_
  refine Seg.op (OpT.assign rfl) rfl ?_
  refine Seg.nil ?_
  refine At.then_n ?_
  refine Wp.seq ?_
  refine Wp.region ?_
  refine Seg.op (OpT.move rfl) rfl ?_
  refine Seg.op (OpT.quo rfl rfl (by omega) (by omega) (leu8 (by omega))) rfl ?_
  refine Seg.op (OpT.ixArr (off' := b / 64) Try.underlying24 ti22 rfl rfl (by omega) (by omega)) rfl ?_
  refine Seg.op (OpT.ldBlk (i := 0) (v := (w64 (word p (b / 64)))) Try.underlying22 rfl rfl rfl (bcs_get p _ (by omega))) rfl ?_
  refine Seg.op (OpT.move rfl) rfl ?_
  refine Seg.op (OpT.rem rfl rfl (by omega) (by omega)) rfl ?_
  refine Seg.op (OpT.shrW (n := b % 64) rfl rfl) rfl ?_
  refine Seg.op (OpT.andW (b := 1#64) rfl rfl) rfl ?_
  refine Seg.op (OpT.eqW (b := 1#64) rfl rfl) rfl ?_
  refine Seg.op (OpT.assign rfl) rfl ?_
  refine Seg.nil ?_
  refine At.then_n ?_
  refine Wp.ret ?_
  refine At.res1 rfl (RV.tmp (v := (.bool (decide ((((word p (b / 64)) >>> (b % 64)) &&& (1#64)) = (1#64))))) rfl) ?_
  exact fun w hs => ⟨congrArg (fun b => Ending.returned (.bool b)) (by rw [Bool.eq_iff_iff, decide_eq_true_iff]; exact has_bit p b), (hs.dropN 1).weaken (Hp.le.refl _)⟩

set_option maxHeartbeats 4000000 in
theorem with_w (p : Nat → Bool) (b : Nat) (hb : b < 256) :
    TriV Try.prog 31 [(.agg (bcs p)), (.int .i64 (((b : Nat) : Int)))] H O (bs (fun x => p x || x == b)) := by
  intro w hs
  refine wp_of Try.func31 rfl rfl rfl ?_ hs
  clear hs w
  refine Wp.seq ?_
  refine Wp.region ?_
  refine Seg.box (cs := bcs p) rfl rfl rfl fun B1 => ?_
  refine Seg.alloc (cs := bcs (fun _ => false)) ti24 bcs_empty rfl fun B2 => ?_
  refine Seg.nil ?_
  refine At.then_n ?_
  refine Wp.seq ?_
  refine Wp.region ?_
  refine Seg.op (OpT.ldBlkW (i := 1) Try.underlying24 rfl ti24 rfl rfl rfl) rfl ?_
  refine Seg.alloc (cs := bcs (fun _ => false)) ti24 bcs_empty rfl fun B3 => ?_
  refine Seg.stBlkW (i := 0) (cs' := (bcs p)) rfl rfl ti24 rfl rfl (bcs_one _) rfl ?_
  refine Seg.nil ?_
  refine At.then_n ?_
  refine Wp.seq ?_
  refine Wp.region ?_
  refine Seg.op (OpT.move rfl) rfl ?_
  refine Seg.op (OpT.quo rfl rfl (by omega) (by omega) (lei64 (by omega))) rfl ?_
  refine Seg.op (OpT.move rfl) rfl ?_
  refine Seg.op (OpT.quo rfl rfl (by omega) (by omega) (lei64 (by omega))) rfl ?_
  refine Seg.op (OpT.ixArr (off' := b / 64) Try.underlying24 ti22 rfl rfl (by omega) (by omega)) rfl ?_
  refine Seg.op (OpT.ldBlk (i := 0) (v := (w64 (word p (b / 64)))) Try.underlying22 rfl rfl rfl (bcs_get p _ (by omega))) rfl ?_
  refine Seg.op (OpT.move rfl) rfl ?_
  refine Seg.op (OpT.conv Try.underlying3 Try.underlying55 rfl (fitsU64 (by omega))) rfl ?_
  refine Seg.op (OpT.rem rfl rfl (by omega) (by omega)) rfl ?_
  refine Seg.op (OpT.shlW (a := 1#64) (n := b % 64) rfl rfl) rfl ?_
  refine Seg.op (OpT.orW rfl rfl) rfl ?_
  refine Seg.op (OpT.ixArr (off' := b / 64) Try.underlying24 ti22 rfl rfl (by omega) (by omega)) rfl ?_
  refine Seg.stBlk1 (i := 0) rfl rfl rfl ti22 rfl (by rw [bcs_size]; omega) ?_
  rw [bcs_set p b hb]
  refine Seg.nil ?_
  refine At.then_n ?_
  refine Wp.seq ?_
  refine Wp.region ?_
  refine Seg.op (OpT.ldBlkW (i := 0) Try.underlying24 rfl ti24 rfl rfl rfl) rfl ?_
  refine Seg.stBlkW (i := 1) (cs' := (bcs (fun x => p x || x == b))) rfl rfl ti24 rfl rfl (bcs_one _) rfl ?_
  refine Seg.nil ?_
  refine At.then_n ?_
  refine Wp.ret ?_
  refine At.res1 rfl (RV.cellA (i := 1) rfl Try.underlying24 rfl ti24 (rfl) rfl) ?_
  exact fun w hs => ⟨rfl, (hs.dropN 3).weaken (Hp.le.refl _)⟩

set_option maxHeartbeats 4000000 in
theorem rhas_w (p : Nat → Bool) (b : Nat) (hb : b < 256) :
    TriV Try.prog 32 [(.agg (bcs p)), (.int .i64 (((b : Nat) : Int)))] H O (.bool (p b)) := by
  intro w hs
  refine wp_of Try.func32 rfl rfl rfl ?_ hs
  clear hs w
  refine Wp.seq ?_
  refine Wp.region ?_
  refine Seg.box (cs := bcs p) rfl rfl rfl fun B1 => ?_
  refine Seg.op (OpT.assign rfl) rfl ?_
  refine Seg.nil ?_
  refine At.then_n ?_
  refine Wp.seq ?_
  refine Wp.region ?_
  refine Seg.op (OpT.move rfl) rfl ?_
  refine Seg.op (OpT.asB (b := decide (0 ≤ ((b : Nat) : Int))) (c := true) (OpT.geq rfl rfl) (by simp)) rfl ?_
  refine Seg.op (OpT.move rfl) rfl ?_
  refine Seg.opG rfl rfl (OpT.move rfl) rfl ?_
  refine Seg.opG rfl rfl (OpT.asB (b := decide (((b : Nat) : Int) < 256)) (c := true) (OpT.lss rfl rfl) (by simp; omega)) rfl ?_
  refine Seg.op (OpT.pickT rfl rfl) rfl ?_
  refine Seg.op (OpT.move rfl) rfl ?_
  refine Seg.opG rfl rfl (OpT.move rfl) rfl ?_
  refine Seg.opG rfl rfl (OpT.quo rfl rfl (by omega) (by omega) (lei64 (by omega))) rfl ?_
  refine Seg.opG rfl rfl (OpT.ixArr (off' := b / 64) Try.underlying24 ti22 rfl rfl (by omega) (by omega)) rfl ?_
  refine Seg.opG rfl rfl (OpT.ldBlk (i := 0) (v := (w64 (word p (b / 64)))) Try.underlying22 rfl rfl rfl (bcs_get p _ (by omega))) rfl ?_
  refine Seg.opG rfl rfl (OpT.move rfl) rfl ?_
  refine Seg.opG rfl rfl (OpT.conv Try.underlying3 Try.underlying55 rfl (fitsU64 (by omega))) rfl ?_
  refine Seg.opG rfl rfl (OpT.rem rfl rfl (by omega) (by omega)) rfl ?_
  refine Seg.opG rfl rfl (OpT.shrW (n := b % 64) rfl rfl) rfl ?_
  refine Seg.opG rfl rfl (OpT.remW (b := 2#64) rfl rfl (by decide)) rfl ?_
  refine Seg.opG rfl rfl (OpT.eqW (b := 1#64) rfl rfl) rfl ?_
  refine Seg.op (OpT.pickT rfl rfl) rfl ?_
  refine Seg.op (OpT.assign rfl) rfl ?_
  refine Seg.nil ?_
  refine At.then_n ?_
  refine Wp.ret ?_
  refine At.res1 rfl (RV.tmp (v := (.bool (decide ((((word p (b / 64)) >>> (b % 64)) % (2#64)) = (1#64))))) rfl) ?_
  exact fun w hs => ⟨congrArg (fun b => Ending.returned (.bool b)) (has_rem p b), (hs.dropN 1).weaken (Hp.le.refl _)⟩

set_option maxHeartbeats 4000000 in
theorem rhas_neg (p : Nat → Bool) (b : Int) (hb : b < 0) :
    TriV Try.prog 32 [(.agg (bcs p)), (.int .i64 (b))] H O (.bool false) := by
  intro w hs
  refine wp_of Try.func32 rfl rfl rfl ?_ hs
  clear hs w
  refine Wp.seq ?_
  refine Wp.region ?_
  refine Seg.box (cs := bcs p) rfl rfl rfl fun B1 => ?_
  refine Seg.op (OpT.assign rfl) rfl ?_
  refine Seg.nil ?_
  refine At.then_n ?_
  refine Wp.seq ?_
  refine Wp.region ?_
  refine Seg.op (OpT.move rfl) rfl ?_
  refine Seg.op (OpT.asB (b := decide (0 ≤ b)) (c := false) (OpT.geq rfl rfl) (by simp; omega)) rfl ?_
  refine Seg.op (OpT.move rfl) rfl ?_
  refine Seg.skipG rfl rfl rfl rfl ?_
  refine Seg.skipG rfl rfl rfl rfl ?_
  refine Seg.op (OpT.pickF rfl rfl) rfl ?_
  refine Seg.op (OpT.move rfl) rfl ?_
  refine Seg.skipG rfl rfl rfl rfl ?_
  refine Seg.skipG rfl rfl rfl rfl ?_
  refine Seg.skipG rfl rfl rfl rfl ?_
  refine Seg.skipG rfl rfl rfl rfl ?_
  refine Seg.skipG rfl rfl rfl rfl ?_
  refine Seg.skipG rfl rfl rfl rfl ?_
  refine Seg.skipG rfl rfl rfl rfl ?_
  refine Seg.skipG rfl rfl rfl rfl ?_
  refine Seg.skipG rfl rfl rfl rfl ?_
  refine Seg.skipG rfl rfl rfl rfl ?_
  refine Seg.op (OpT.pickF rfl rfl) rfl ?_
  refine Seg.op (OpT.assign rfl) rfl ?_
  refine Seg.nil ?_
  refine At.then_n ?_
  refine Wp.ret ?_
  refine At.res1 rfl (RV.tmp (v := (.bool (false))) rfl) ?_
  exact fun w hs => ⟨rfl, (hs.dropN 1).weaken (Hp.le.refl _)⟩

set_option maxHeartbeats 4000000 in
theorem rhas_big (p : Nat → Bool) (b : Int) (hb : 256 ≤ b) :
    TriV Try.prog 32 [(.agg (bcs p)), (.int .i64 (b))] H O (.bool false) := by
  intro w hs
  refine wp_of Try.func32 rfl rfl rfl ?_ hs
  clear hs w
  refine Wp.seq ?_
  refine Wp.region ?_
  refine Seg.box (cs := bcs p) rfl rfl rfl fun B1 => ?_
  refine Seg.op (OpT.assign rfl) rfl ?_
  refine Seg.nil ?_
  refine At.then_n ?_
  refine Wp.seq ?_
  refine Wp.region ?_
  refine Seg.op (OpT.move rfl) rfl ?_
  refine Seg.op (OpT.asB (b := decide (0 ≤ b)) (c := true) (OpT.geq rfl rfl) (by simp; omega)) rfl ?_
  refine Seg.op (OpT.move rfl) rfl ?_
  refine Seg.opG rfl rfl (OpT.move rfl) rfl ?_
  refine Seg.opG rfl rfl (OpT.asB (b := decide (b < 256)) (c := false) (OpT.lss rfl rfl) (by simp; omega)) rfl ?_
  refine Seg.op (OpT.pickT rfl rfl) rfl ?_
  refine Seg.op (OpT.move rfl) rfl ?_
  refine Seg.skipG rfl rfl rfl rfl ?_
  refine Seg.skipG rfl rfl rfl rfl ?_
  refine Seg.skipG rfl rfl rfl rfl ?_
  refine Seg.skipG rfl rfl rfl rfl ?_
  refine Seg.skipG rfl rfl rfl rfl ?_
  refine Seg.skipG rfl rfl rfl rfl ?_
  refine Seg.skipG rfl rfl rfl rfl ?_
  refine Seg.skipG rfl rfl rfl rfl ?_
  refine Seg.skipG rfl rfl rfl rfl ?_
  refine Seg.skipG rfl rfl rfl rfl ?_
  refine Seg.op (OpT.pickF rfl rfl) rfl ?_
  refine Seg.op (OpT.assign rfl) rfl ?_
  refine Seg.nil ?_
  refine At.then_n ?_
  refine Wp.ret ?_
  refine At.res1 rfl (RV.tmp (v := (.bool (false))) rfl) ?_
  exact fun w hs => ⟨rfl, (hs.dropN 1).weaken (Hp.le.refl _)⟩

set_option maxHeartbeats 4000000 in
theorem rHas_w (p : Nat → Bool) (b : Nat) (hb : b < 256) :
    TriV Try.prog 16 [(.agg (bcs p)), (.int .u8 (((b : Nat) : Int)))] H O (.bool (p b)) := by
  intro w hs
  refine wp_of Try.func16 rfl rfl rfl ?_ hs
  clear hs w
  refine Wp.seq ?_
  refine Wp.region ?_
  refine Seg.box (cs := bcs p) rfl rfl rfl fun B1 => ?_
  refine Seg.op (OpT.assign rfl) rfl ?_
  refine Seg.nil ?_
  refine At.then_n ?_
  refine Wp.seq ?_
  refine Wp.region ?_
  refine Seg.op (OpT.ldBlkW (i := 0) Try.underlying24 rfl ti24 rfl rfl rfl) rfl ?_
  refine Seg.op (OpT.move rfl) rfl ?_
  refine Seg.op (OpT.conv Try.underlying5 Try.underlying3 rfl (fits64 (by omega))) rfl ?_
  refine Seg.op (OpT.call ent32 rfl (rhas_w p b (by omega))) rfl ?_
  refine Seg.op (OpT.assign rfl) rfl ?_
  refine Seg.nil ?_
  refine At.then_n ?_
  refine Wp.ret ?_
  refine At.res1 rfl (RV.tmp (v := (.bool (p b))) rfl) ?_
  exact fun w hs => ⟨rfl, (hs.dropN 1).weaken (Hp.le.refl _)⟩

set_option maxHeartbeats 4000000 in
theorem of_w (lo hi : Nat) (h1 : lo < 256) (h2 : hi < 256) :
    TriV Try.prog 12 [(.int .u8 (((lo : Nat) : Int))), (.int .u8 (((hi : Nat) : Int)))] H O (bs (ofP lo hi)) := by
  intro w hs
  refine wp_of Try.func12 rfl rfl rfl ?_ hs
  clear hs w
  refine Wp.seq ?_
  refine Wp.region ?_
  refine Seg.alloc (cs := bcs (fun _ => false)) ti24 bcs_empty rfl fun Br => ?_
  refine Seg.nil ?_
  refine At.then_n ?_
  refine Wp.seq ?_
  refine Wp.region ?_
  refine Seg.alloc (cs := bcs (fun _ => false)) ti24 bcs_empty rfl fun Bs => ?_
  refine Seg.nil ?_
  refine At.then_n ?_
  refine Wp.seq ?_
  refine Wp.seq ?_
  refine Wp.region ?_
  refine Seg.op (OpT.move rfl) rfl ?_
  refine Seg.nil ?_
  refine At.then_n ?_
  refine Wp.block ?_
  refine Wp.loop (X := Nat) (fun k => [(7, (.int .i64 (((k : Nat) : Int)))), (0, (.int .u8 (((lo : Nat) : Int)))), (1, (.int .u8 (((hi : Nat) : Int)))), (4, (ptr Br (0))), (5, (ptr Bs (0)))]) (fun k => .blk Bs (.cells (bcs (ofTo lo hi k)) 24 (0, 0)) :: .blk Br (.cells (bcs (fun _ => false)) 24 (0, 0)) :: O) (fun k H' => k ≤ 256) (fun k => 256 - k) 0 ?_ ?_ ?_ ?_
  · exact (by omega)
  · exact .cons (rfl) (.cons (rfl) (.cons (rfl) (.cons (rfl) (.cons (rfl) (.nil)))))
  · exact (by rw [ofTo_zero])
  intro k H1 hle2 hi3
  have hi3 : k ≤ 256 := hi3
  refine Wp.seq ?_
  refine Wp.region ?_
  refine Seg.op (OpT.lss rfl rfl) rfl ?_
  refine Seg.nil ?_
  refine At.then_n ?_
  refine Wp.seq ?_
  refine Wp.cond (b := decide (((k : Nat) : Int) < 256)) rfl (fun hb4 => ?_) (fun hb4 => ?_)
  ·
    replace hb4 := of_decide_eq_true hb4
    refine Wp.skip ?_
    refine At.then_n ?_
    refine Wp.seq ?_
    refine Wp.block ?_
    refine Wp.seq ?_
    refine Wp.region ?_
    refine Seg.op (OpT.move rfl) rfl ?_
    refine Seg.op (OpT.assign rfl) rfl ?_
    refine Seg.nil ?_
    refine At.then_n ?_
    refine Wp.seq ?_
    refine Wp.region ?_
    refine Seg.op (OpT.move rfl) rfl ?_
    refine Seg.op (OpT.move rfl) rfl ?_
    refine Seg.op (OpT.conv Try.underlying5 Try.underlying3 rfl (fits64 (by omega))) rfl ?_
    refine Seg.op (OpT.geq rfl rfl) rfl ?_
    refine Seg.op (OpT.move rfl) rfl ?_
    refine Seg.split (t := 14) (b := decide (((lo : Nat) : Int) ≤ ((k : Nat) : Int))) rfl (fun hb5 => ?_) (fun hb5 => ?_)
    ·
      replace hb5 := of_decide_eq_true hb5
      refine Seg.opG rfl rfl (OpT.move rfl) rfl ?_
      refine Seg.opG rfl rfl (OpT.move rfl) rfl ?_
      refine Seg.opG rfl rfl (OpT.conv Try.underlying5 Try.underlying3 rfl (fits64 (by omega))) rfl ?_
      refine Seg.opG rfl rfl (OpT.leq rfl rfl) rfl ?_
      refine Seg.op (OpT.pickT rfl rfl) rfl ?_
      refine Seg.nil ?_
      refine At.then_n ?_
      refine Wp.cond (b := decide (((k : Nat) : Int) ≤ ((hi : Nat) : Int))) rfl (fun hb6 => ?_) (fun hb6 => ?_)
      ·
        replace hb6 := of_decide_eq_true hb6
        refine Wp.drawE 9 follows rfl (by kernel_rfl) ?_
        refine SegL.opE (OpT.move rfl) rfl ?_
        refine SegL.opE (OpT.quo rfl rfl (by omega) (by omega) (lei64 (by omega))) rfl ?_
        refine SegL.opE (OpT.ixArr (off' := k / 64) Try.underlying24 ti22 rfl rfl (by omega) (by omega)) rfl ?_
        refine SegL.opE (OpT.ldBlk (i := 0) (v := (w64 (word (ofTo lo hi k) (k / 64)))) Try.underlying22 rfl rfl rfl (bcs_get _ _ (by omega))) rfl ?_
        refine SegL.opE (OpT.move rfl) rfl ?_
        refine SegL.opE (OpT.rem rfl rfl (by omega) (by omega)) rfl ?_
        refine SegL.opE (OpT.shlW (a := 1#64) (n := k % 64) rfl rfl) rfl ?_
        refine SegL.opE (OpT.orW rfl rfl) rfl ?_
        refine SegL.opE (OpT.ixArr (off' := k / 64) Try.underlying24 ti22 rfl rfl (by omega) (by omega)) rfl ?_
        refine SegL.doneE ?_
        refine EndL.is (t := 7) (v := (.int .i64 (((k : Nat) : Int)))) rfl ?_
        refine EndL.is (t := 0) (v := (.int .u8 (((lo : Nat) : Int)))) rfl ?_
        refine EndL.is (t := 1) (v := (.int .u8 (((hi : Nat) : Int)))) rfl ?_
        refine EndL.is (t := 4) (v := (ptr Br (0))) rfl ?_
        refine EndL.is (t := 5) (v := (ptr Bs (0))) rfl ?_
        refine EndL.is (t := 8) (v := (.bool (decide (((k : Nat) : Int) < 256)))) rfl ?_
        refine EndL.is (t := 9) (v := (.int .i64 (((k : Nat) : Int)))) rfl ?_
        refine EndL.is (t := 6) (v := (.int .i64 (((k : Nat) : Int)))) rfl ?_
        refine EndL.is (t := 10) (v := (.int .i64 (((k : Nat) : Int)))) rfl ?_
        refine EndL.is (t := 11) (v := (.int .u8 (((lo : Nat) : Int)))) rfl ?_
        refine EndL.is (t := 12) (v := (.int .i64 (((lo : Nat) : Int)))) rfl ?_
        refine EndL.is (t := 13) (v := (.bool (decide (((lo : Nat) : Int) ≤ ((k : Nat) : Int))))) rfl ?_
        refine EndL.is (t := 14) (v := (.bool (true))) rfl ?_
        refine EndL.is (t := 15) (v := (.int .i64 (((k : Nat) : Int)))) rfl ?_
        refine EndL.is (t := 16) (v := (.int .u8 (((hi : Nat) : Int)))) rfl ?_
        refine EndL.is (t := 17) (v := (.int .i64 (((hi : Nat) : Int)))) rfl ?_
        refine EndL.is (t := 18) (v := (.bool (decide (((k : Nat) : Int) ≤ ((hi : Nat) : Int))))) rfl ?_
        refine EndL.is (t := 19) (v := (.bool (decide (((k : Nat) : Int) ≤ ((hi : Nat) : Int))))) rfl ?_
        refine EndL.is (t := 20) (v := (.int .i64 (((k : Nat) : Int)))) rfl ?_
        refine EndL.is (t := 21) (v := (.int .i64 (((k : Nat) : Int) / 64))) rfl ?_
        refine EndL.is (t := 22) (v := (ptr Bs (k / 64))) rfl ?_
        refine EndL.is (t := 23) (v := (w64 (word (ofTo lo hi k) (k / 64)))) rfl ?_
        refine EndL.is (t := 24) (v := (.int .i64 (((k : Nat) : Int)))) rfl ?_
        refine EndL.is (t := 25) (v := (.int .i64 (((k : Nat) : Int) % 64))) rfl ?_
        refine EndL.is (t := 26) (v := (w64 (1#64 <<< (k % 64)))) rfl ?_
        refine EndL.is (t := 27) (v := (w64 ((word (ofTo lo hi k) (k / 64)) ||| (1#64 <<< (k % 64))))) rfl ?_
        refine EndL.is (t := 28) (v := (ptr Bs (k / 64))) rfl ?_
        refine EndL.seg ?_
        refine Seg.stBlk1 (i := 0) rfl rfl rfl ti22 rfl (by rw [bcs_size]; omega) ?_
        rw [bcs_set _ k (by omega), ofTo_hit lo hi k (by omega) (by omega)]
        refine Seg.nil ?_
        refine At.blk_n ?_
        refine At.then_n ?_
        refine Wp.region ?_
        refine Seg.op (OpT.add rfl rfl (fits64 (by omega))) rfl ?_
        refine Seg.op (OpT.move rfl) rfl ?_
        refine Seg.nil ?_
        refine At.next (k + 1) (Hp.le.refl _) ?_ ?_ ?_ ?_
        · exact (by omega)
        · exact .cons (rfl) (.cons (rfl) (.cons (rfl) (.cons (rfl) (.cons (rfl) (.nil)))))
        · exact (by first | rfl | rw [ofTo_skip lo hi k (by omega)])
        · exact (by (try dsimp only); omega)
      ·
        replace hb6 := of_decide_eq_false hb6
        refine Wp.skip ?_
        refine At.blk_n ?_
        refine At.then_n ?_
        refine Wp.region ?_
        refine Seg.op (OpT.add rfl rfl (fits64 (by omega))) rfl ?_
        refine Seg.op (OpT.move rfl) rfl ?_
        refine Seg.nil ?_
        refine At.next (k + 1) (Hp.le.refl _) ?_ ?_ ?_ ?_
        · exact (by omega)
        · exact .cons (rfl) (.cons (rfl) (.cons (rfl) (.cons (rfl) (.cons (rfl) (.nil)))))
        · exact (by first | rfl | rw [ofTo_skip lo hi k (by omega)])
        · exact (by (try dsimp only); omega)
    ·
      replace hb5 := of_decide_eq_false hb5
      refine Seg.skipG rfl rfl rfl rfl ?_
      refine Seg.skipG rfl rfl rfl rfl ?_
      refine Seg.skipG rfl rfl rfl rfl ?_
      refine Seg.skipG rfl rfl rfl rfl ?_
      refine Seg.op (OpT.pickF rfl rfl) rfl ?_
      refine Seg.nil ?_
      refine At.then_n ?_
      refine Wp.condF rfl ?_
      refine Wp.skip ?_
      refine At.blk_n ?_
      refine At.then_n ?_
      refine Wp.region ?_
      refine Seg.op (OpT.add rfl rfl (fits64 (by omega))) rfl ?_
      refine Seg.op (OpT.move rfl) rfl ?_
      refine Seg.nil ?_
      refine At.next (k + 1) (Hp.le.refl _) ?_ ?_ ?_ ?_
      · exact (by omega)
      · exact .cons (rfl) (.cons (rfl) (.cons (rfl) (.cons (rfl) (.cons (rfl) (.nil)))))
      · exact (by first | rfl | rw [ofTo_skip lo hi k (by omega)])
      · exact (by (try dsimp only); omega)
  ·
    replace hb4 := of_decide_eq_false hb4
    refine Wp.exit ?_
    refine At.then_x ?_
    refine At.then_x ?_
    refine At.blk_hit ?_
    refine At.then_n ?_
    refine Wp.seq ?_
    refine Wp.region ?_
    refine Seg.op (OpT.ldBlkW (i := 0) Try.underlying24 rfl ti24 rfl rfl rfl) rfl ?_
    refine Seg.stBlkW (i := 1) (cs' := (bcs (ofTo lo hi k))) rfl rfl ti24 rfl rfl (bcs_one _) rfl ?_
    refine Seg.nil ?_
    refine At.then_n ?_
    refine Wp.ret ?_
    refine At.res1 rfl (RV.cellA (i := 1) rfl Try.underlying24 rfl ti24 (rfl) rfl) ?_
    exact fun w hs => ⟨by exact congrArg (fun c => Ending.returned (.agg c)) (ofTo_done lo hi _ (by omega)), (hs.dropN 2).weaken hle2⟩

end Go.Proofs.Ythhhdpcbkkldgaa
