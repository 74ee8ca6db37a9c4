/- Walks, written by a program (gen.py), one law an operation. -/
import Derived.Test.YthhhdpcbkkldgaaW2
namespace Go.Proofs.Ythhhdpcbkkldgaa
open Go.GK
variable {H : Hp} {O : List Res}

set_option maxHeartbeats 4000000 in
theorem list_w (p : Nat → Bool) :
    Tri Try.prog 23 [(.agg (bcs p))] H O (fun v H' O' => O' = O ∧ Sl H' v 1 (listTo p 256).length ((listTo p 256).flatMap encI)) := by
  intro w hs
  refine wp_of Try.func23 rfl rfl rfl ?_ hs
  clear hs w
  refine Wp.seq ?_
  refine Wp.region ?_
  refine Seg.box (cs := bcs p) rfl rfl rfl fun Ba => ?_
  refine Seg.op (OpT.assign rfl) rfl ?_
  refine Seg.nil ?_
  refine At.then_n ?_
  refine Wp.seq ?_
  refine Wp.region ?_
  refine Seg.op (OpT.assign rfl) rfl ?_
  refine Seg.nil ?_
  refine At.then_n ?_
  refine Wp.seq ?_
  refine Wp.seq ?_
  refine Wp.nilRow 3 1 ?_
  refine Wp.region ?_
  refine Seg.op (OpT.assign rfl) rfl ?_
  refine Seg.nil ?_
  refine At.then_n ?_
  refine Wp.block ?_
  refine Wp.loop (X := Nat × Value) (fun x => [(4, (.int .i64 (((x.1 : Nat) : Int)))), (3, x.2), (1, (ptr Ba (0))), (2, (.slice none 0 0))]) (fun x => .row x.2 3 1 ((listTo p x.1).length) ((listTo p x.1).flatMap encI) :: .blk Ba (.cells (bcs p) 24 (0, 0)) :: O) (fun x H' => x.1 ≤ 256) (fun x => 256 - x.1) (0, .slice none 0 0) ?_ ?_ ?_ ?_
  · exact (by omega)
  · exact .cons (rfl) (.cons (rfl) (.cons (rfl) (.cons (rfl) (.nil))))
  · exact (by first | rfl | (rw [listTo_zero]; done) | (rw [listTo_zero]; rfl))
  intro x H1 hle2 hi3
  have hc := listTo_len p x.1
  refine Wp.seq ?_
  refine Wp.seq ?_
  refine Wp.region ?_
  refine Seg.op (OpT.move rfl) rfl ?_
  refine Seg.op (OpT.lss rfl rfl) rfl ?_
  refine Seg.nil ?_
  refine At.then_n ?_
  refine Wp.cond (b := decide (((x.1 : Nat) : Int) < 256)) rfl (fun hb4 => ?_) (fun hb4 => ?_)
  ·
    replace hb4 := of_decide_eq_true hb4
    refine Wp.skip ?_
    refine At.then_n ?_
    refine Wp.seq ?_
    refine Wp.block ?_
    refine Wp.seq ?_
    refine Wp.region ?_
    refine Seg.op (OpT.ldBlkW (i := 1) Try.underlying24 rfl ti24 rfl rfl rfl) rfl ?_
    refine Seg.op (OpT.move rfl) rfl ?_
    refine Seg.op (OpT.call ent32 rfl (rhas_w p x.1 (by omega))) rfl ?_
    refine Seg.nil ?_
    refine At.then_n ?_
    refine Wp.cond (b := p x.1) rfl (fun hb5 => ?_) (fun hb5 => ?_)
    ·
      refine Wp.region ?_
      refine Seg.op (OpT.move rfl) rfl ?_
      refine Seg.op (OpT.move rfl) rfl ?_
      refine Seg.buildSl1 (cs := (#[(.int .i64 (((x.1 : Nat) : Int)))])) Try.underlying33 ti3 rfl rfl rfl rfl rfl rfl fun v6 => ?_
      refine Seg.append (z := (.int .i64 0)) (i := 1) Try.underlying33 ti3 rfl (by decide) rfl rfl rfl (fun w hs => hs.srcRow (i := 0) rfl) (one_ofL rfl) (by omega) (by omega) rfl fun v7 => ?_
      refine Seg.drop (i := 0) ?_
      refine Seg.own (O := .row v7 3 1 ((listTo p (x.1 + 1)).length) ((listTo p (x.1 + 1)).flatMap encI) :: .blk Ba (.cells (bcs p) 24 (0, 0)) :: O) ?_ (by rw [listTo_hit p x.1 (by assumption)]; simp [encI])
      refine Seg.op (OpT.assign rfl) rfl ?_
      refine Seg.nil ?_
      refine At.blk_n ?_
      refine At.then_n ?_
      refine Wp.region ?_
      refine Seg.op (OpT.move rfl) rfl ?_
      refine Seg.op (OpT.add rfl rfl (fits64 (by omega))) rfl ?_
      refine Seg.op (OpT.assign rfl) rfl ?_
      refine Seg.nil ?_
      refine At.next (x.1 + 1, v7) (Hp.le.refl _) ?_ ?_ ?_ ?_
      · exact (by (try dsimp only); omega)
      · exact .cons (rfl) (.cons (rfl) (.cons (rfl) (.cons (rfl) (.nil))))
      · exact (by first | rfl | (rw [← listTo_skip p x.1 (by assumption)]; done) | (rw [← listTo_skip p x.1 (by assumption)]; rfl))
      · exact (by (try dsimp only); omega)
    ·
      refine Wp.skip ?_
      refine At.blk_n ?_
      refine At.then_n ?_
      refine Wp.region ?_
      refine Seg.op (OpT.move rfl) rfl ?_
      refine Seg.op (OpT.add rfl rfl (fits64 (by omega))) rfl ?_
      refine Seg.op (OpT.assign rfl) rfl ?_
      refine Seg.nil ?_
      refine At.next (x.1 + 1, x.2) (Hp.le.refl _) ?_ ?_ ?_ ?_
      · exact (by (try dsimp only); omega)
      · exact .cons (rfl) (.cons (rfl) (.cons (rfl) (.cons (rfl) (.nil))))
      · exact (by first | rfl | (rw [← listTo_skip p x.1 (by assumption)]; done) | (rw [← listTo_skip p x.1 (by assumption)]; rfl))
      · exact (by (try dsimp only); omega)
  ·
    replace hb4 := of_decide_eq_false hb4
    refine Wp.exit ?_
    refine At.then_x ?_
    refine At.then_x ?_
    refine At.blk_hit ?_
    refine At.then_n ?_
    refine Wp.seq ?_
    refine Wp.region ?_
    refine Seg.op (OpT.move rfl) rfl ?_
    refine Seg.op (OpT.assign rfl) rfl ?_
    refine Seg.nil ?_
    refine At.then_n ?_
    refine Wp.ret ?_
    refine At.freeze (i := 0) rfl fun H8 hle9 hsl10 => ?_
    refine At.drop (i := 0) ?_
    refine At.res1 rfl (RV.tmp (v := x.2) rfl) ?_
    exact Ret.mk (hle2.trans hle9) (⟨rfl, by have e : x.1 = 256 := (by omega); rw [e] at hsl10; exact hsl10⟩)

theorem rhas_i (p : Nat → Bool) (b : Int) : TriV Try.prog 32 [.agg (bcs p), .int .i64 b] H O (.bool (hasI p b)) := by
  by_cases h0 : b < 0
  · rw [hasI_neg p b h0]; exact rhas_neg p b h0
  · by_cases h1 : 256 ≤ b
    · rw [hasI_big p b h1]; exact rhas_big p b h1
    · obtain ⟨n, rfl⟩ := Int.eq_ofNat_of_zero_le (Int.not_lt.1 h0)
      rw [hasI_in p n (by omega)]; exact rhas_w p n (by omega)

set_option maxHeartbeats 4000000 in
theorem ranges_w (p : Nat → Bool) :
    Tri Try.prog 26 [(.agg (bcs p))] H O (fun v H' O' => O' = O ∧ Sl H' v 2 (rgTo p 256).length ((rgTo p 256).flatMap encB)) := by
  intro w hs
  refine wp_of Try.func26 rfl rfl rfl ?_ hs
  clear hs w
  refine Wp.seq ?_
  refine Wp.region ?_
  refine Seg.box (cs := bcs p) rfl rfl rfl fun Ba => ?_
  refine Seg.op (OpT.assign rfl) rfl ?_
  refine Seg.nil ?_
  refine At.then_n ?_
  refine Wp.seq ?_
  refine Wp.region ?_
  refine Seg.op (OpT.assign rfl) rfl ?_
  refine Seg.nil ?_
  refine At.then_n ?_
  refine Wp.seq ?_
  refine Wp.seq ?_
  refine Wp.nilRow 43 2 ?_
  refine Wp.region ?_
  refine Seg.op (OpT.move rfl) rfl ?_
  refine Seg.nil ?_
  refine At.then_n ?_
  refine Wp.block ?_
  refine Wp.loop (X := Nat × Value) (fun x => [(5, (.int .i64 (((x.1 : Nat) : Int)))), (3, x.2), (1, (ptr Ba (0))), (2, (.slice none 0 0))]) (fun x => .row x.2 43 2 ((rgTo p x.1).length) ((rgTo p x.1).flatMap encB) :: .blk Ba (.cells (bcs p) 24 (0, 0)) :: O) (fun x H' => x.1 ≤ 256) (fun x => 256 - x.1) (0, .slice none 0 0) ?_ ?_ ?_ ?_
  · exact (by omega)
  · exact .cons (rfl) (.cons (rfl) (.cons (rfl) (.cons (rfl) (.nil))))
  · exact (by first | rfl | (rw [rgTo_zero]; done) | (rw [rgTo_zero]; rfl))
  intro x H1 hle2 hi3
  have hc := rgTo_len p x.1
  refine Wp.seq ?_
  refine Wp.region ?_
  refine Seg.op (OpT.lss rfl rfl) rfl ?_
  refine Seg.nil ?_
  refine At.then_n ?_
  refine Wp.seq ?_
  refine Wp.cond (b := decide (((x.1 : Nat) : Int) < 256)) rfl (fun hb4 => ?_) (fun hb4 => ?_)
  ·
    replace hb4 := of_decide_eq_true hb4
    refine Wp.skip ?_
    refine At.then_n ?_
    refine Wp.seq ?_
    refine Wp.block ?_
    refine Wp.seq ?_
    refine Wp.region ?_
    refine Seg.op (OpT.move rfl) rfl ?_
    refine Seg.op (OpT.assign rfl) rfl ?_
    refine Seg.nil ?_
    refine At.then_n ?_
    refine Wp.block ?_
    refine Wp.seq ?_
    refine Wp.region ?_
    refine Seg.op (OpT.ldBlkW (i := 1) Try.underlying24 rfl ti24 rfl rfl rfl) rfl ?_
    refine Seg.op (OpT.move rfl) rfl ?_
    refine Seg.op (OpT.conv Try.underlying3 Try.underlying5 rfl (fitsU8 (by omega))) rfl ?_
    refine Seg.op (OpT.call ent15 rfl (has_w p x.1 (by omega))) rfl ?_
    refine Seg.op (OpT.not rfl) rfl ?_
    refine Seg.op (OpT.assign rfl) rfl ?_
    refine Seg.nil ?_
    refine At.then_n ?_
    refine Wp.cond (b := !(p x.1)) rfl (fun hb5 => ?_) (fun hb5 => ?_)
    ·
      refine Wp.skip ?_
      refine At.blk_n ?_
      refine At.blk_n ?_
      refine At.then_n ?_
      refine Wp.region ?_
      refine Seg.op (OpT.add rfl rfl (fits64 (by omega))) rfl ?_
      refine Seg.op (OpT.move rfl) rfl ?_
      refine Seg.nil ?_
      refine At.next (x.1 + 1, x.2) (Hp.le.refl _) ?_ ?_ ?_ ?_
      · exact (by (try dsimp only); omega)
      · exact .cons (rfl) (.cons (rfl) (.cons (rfl) (.cons (rfl) (.nil))))
      · exact (by first | rfl | (rw [← rgTo_skip p x.1 (by simp_all)]; done) | (rw [← rgTo_skip p x.1 (by simp_all)]; rfl))
      · exact (by (try dsimp only); omega)
    ·
      refine Wp.seq ?_
      refine Wp.region ?_
      refine Seg.op (OpT.move rfl) rfl ?_
      refine Seg.op (OpT.gtr rfl rfl) rfl ?_
      refine Seg.op (OpT.move rfl) rfl ?_
      refine Seg.split (t := 25) (b := decide (0 < ((x.1 : Nat) : Int))) rfl (fun hb6 => ?_) (fun hb6 => ?_)
      ·
        replace hb6 := of_decide_eq_true hb6
        refine Seg.opG rfl rfl (OpT.ldBlkW (i := 1) Try.underlying24 rfl ti24 rfl rfl rfl) rfl ?_
        refine Seg.opG rfl rfl (OpT.move rfl) rfl ?_
        refine Seg.opG rfl rfl (OpT.cast (v' := (.int .i64 ((((x.1 - 1) : Nat) : Int)))) (OpT.sub rfl rfl (fits64 (by omega))) (congrArg (Value.int .i64) (by omega))) rfl ?_
        refine Seg.opG rfl rfl (OpT.conv Try.underlying3 Try.underlying5 rfl (fitsU8 (by omega))) rfl ?_
        refine Seg.opG rfl rfl (OpT.call ent15 rfl (has_w p (x.1 - 1) (by omega))) rfl ?_
        refine Seg.op (OpT.pickT rfl rfl) rfl ?_
        refine Seg.op (OpT.assign rfl) rfl ?_
        refine Seg.nil ?_
        refine At.then_n ?_
        refine Wp.cond (b := p (x.1 - 1)) rfl (fun hb7 => ?_) (fun hb7 => ?_)
        ·
          refine Wp.region ?_
          refine Seg.op (OpT.move rfl) rfl ?_
          refine Seg.op (OpT.move rfl) rfl ?_
          refine Seg.op (OpT.lenRow (i := 0) Try.underlying39 rfl rfl) rfl ?_
          refine Seg.op (OpT.cast (v' := (.int .i64 (((((rgTo p x.1).length - 1) : Nat) : Int)))) (OpT.sub rfl rfl (fits64 (by omega))) (congrArg (Value.int .i64) (by have := rg_pos p x.1 (by omega) (by assumption); omega))) rfl ?_
          refine Seg.op (OpT.move rfl) rfl ?_
          refine Seg.op (OpT.conv Try.underlying3 Try.underlying5 rfl (fitsU8 (by omega))) rfl ?_
          refine Seg.op (OpT.ixRow (j := 0) Try.underlying39 ti43 rfl rfl rfl (by have := rg_pos p x.1 (by omega) (by assumption); omega)) rfl ?_
          refine Seg.op (OpT.ixArrRow (q := 0) (j := ((rgTo p x.1).length - 1) * 2) Try.underlying43 ti5 rfl rfl (rg_pos p x.1 (by omega) (by assumption)) rfl (by omega)) rfl ?_
          refine Seg.stRow1 (i := 0) (k := ((rgTo p x.1).length - 1) * 2 + 1) rfl rfl rfl ti5 rfl (by rw [rg_cells]; have := rg_pos p x.1 (by omega) (by assumption); omega) ?_
          refine Seg.own (O := .row x.2 43 2 ((rgTo p (x.1 + 1)).length) ((rgTo p (x.1 + 1)).flatMap encB) :: .blk Ba (.cells (bcs p) 24 (0, 0)) :: O) ?_ (by rw [rg_ext_n p x.1 (by simp_all) (by omega) (by assumption), ← rg_ext_xs p x.1 (by simp_all) (by omega) (by assumption)]; rfl)
          refine Seg.nil ?_
          refine At.blk_n ?_
          refine At.blk_n ?_
          refine At.then_n ?_
          refine Wp.region ?_
          refine Seg.op (OpT.add rfl rfl (fits64 (by omega))) rfl ?_
          refine Seg.op (OpT.move rfl) rfl ?_
          refine Seg.nil ?_
          refine At.next (x.1 + 1, x.2) (Hp.le.refl _) ?_ ?_ ?_ ?_
          · exact (by (try dsimp only); omega)
          · exact .cons (rfl) (.cons (rfl) (.cons (rfl) (.cons (rfl) (.nil))))
          · exact (by first | rfl | (rw [← rgTo_skip p x.1 (by simp_all)]; done) | (rw [← rgTo_skip p x.1 (by simp_all)]; rfl))
          · exact (by (try dsimp only); omega)
        ·
          refine Wp.region ?_
          refine Seg.op (OpT.move rfl) rfl ?_
          refine Seg.op (OpT.move rfl) rfl ?_
          refine Seg.op (OpT.conv Try.underlying3 Try.underlying5 rfl (fitsU8 (by omega))) rfl ?_
          refine Seg.op (OpT.move rfl) rfl ?_
          refine Seg.op (OpT.conv Try.underlying3 Try.underlying5 rfl (fitsU8 (by omega))) rfl ?_
          refine Seg.op (OpT.buildA (vs := [(0, (.int .u8 (((x.1 : Nat) : Int)))), (1, (.int .u8 (((x.1 : Nat) : Int))))]) (cs := #[(.int .u8 (((x.1 : Nat) : Int))), (.int .u8 (((x.1 : Nat) : Int)))]) Try.underlying43 ti43 ti5 rfl rfl rfl) rfl ?_
          refine Seg.buildSl1 (cs := (#[(.int .u8 (((x.1 : Nat) : Int))), (.int .u8 (((x.1 : Nat) : Int)))])) Try.underlying39 ti43 rfl rfl rfl rfl rfl rfl fun v8 => ?_
          refine Seg.append (z := (.agg #[.int .u8 0, .int .u8 0])) (i := 1) Try.underlying39 ti43 rfl (by decide) rfl rfl rfl (fun w hs => hs.srcRow (i := 0) rfl) (one_ofL rfl) (by omega) (by omega) rfl fun v9 => ?_
          refine Seg.drop (i := 0) ?_
          refine Seg.own (O := .row v9 43 2 ((rgTo p (x.1 + 1)).length) ((rgTo p (x.1 + 1)).flatMap encB) :: .blk Ba (.cells (bcs p) 24 (0, 0)) :: O) ?_ (by rw [rgTo_new p x.1 (by simp_all) (by first | omega | simp_all)]; simp [encB])
          refine Seg.op (OpT.assign rfl) rfl ?_
          refine Seg.nil ?_
          refine At.blk_n ?_
          refine At.blk_n ?_
          refine At.then_n ?_
          refine Wp.region ?_
          refine Seg.op (OpT.add rfl rfl (fits64 (by omega))) rfl ?_
          refine Seg.op (OpT.move rfl) rfl ?_
          refine Seg.nil ?_
          refine At.next (x.1 + 1, v9) (Hp.le.refl _) ?_ ?_ ?_ ?_
          · exact (by (try dsimp only); omega)
          · exact .cons (rfl) (.cons (rfl) (.cons (rfl) (.cons (rfl) (.nil))))
          · exact (by first | rfl | (rw [← rgTo_skip p x.1 (by simp_all)]; done) | (rw [← rgTo_skip p x.1 (by simp_all)]; rfl))
          · exact (by (try dsimp only); omega)
      ·
        replace hb6 := of_decide_eq_false hb6
        refine Seg.skipG rfl rfl rfl rfl ?_
        refine Seg.skipG rfl rfl rfl rfl ?_
        refine Seg.skipG rfl rfl rfl rfl ?_
        refine Seg.skipG rfl rfl rfl rfl ?_
        refine Seg.skipG rfl rfl rfl rfl ?_
        refine Seg.op (OpT.pickF rfl rfl) rfl ?_
        refine Seg.op (OpT.assign rfl) rfl ?_
        refine Seg.nil ?_
        refine At.then_n ?_
        refine Wp.condF rfl ?_
        refine Wp.region ?_
        refine Seg.op (OpT.move rfl) rfl ?_
        refine Seg.op (OpT.move rfl) rfl ?_
        refine Seg.op (OpT.conv Try.underlying3 Try.underlying5 rfl (fitsU8 (by omega))) rfl ?_
        refine Seg.op (OpT.move rfl) rfl ?_
        refine Seg.op (OpT.conv Try.underlying3 Try.underlying5 rfl (fitsU8 (by omega))) rfl ?_
        refine Seg.op (OpT.buildA (vs := [(0, (.int .u8 (((x.1 : Nat) : Int)))), (1, (.int .u8 (((x.1 : Nat) : Int))))]) (cs := #[(.int .u8 (((x.1 : Nat) : Int))), (.int .u8 (((x.1 : Nat) : Int)))]) Try.underlying43 ti43 ti5 rfl rfl rfl) rfl ?_
        refine Seg.buildSl1 (cs := (#[(.int .u8 (((x.1 : Nat) : Int))), (.int .u8 (((x.1 : Nat) : Int)))])) Try.underlying39 ti43 rfl rfl rfl rfl rfl rfl fun v10 => ?_
        refine Seg.append (z := (.agg #[.int .u8 0, .int .u8 0])) (i := 1) Try.underlying39 ti43 rfl (by decide) rfl rfl rfl (fun w hs => hs.srcRow (i := 0) rfl) (one_ofL rfl) (by omega) (by omega) rfl fun v11 => ?_
        refine Seg.drop (i := 0) ?_
        refine Seg.own (O := .row v11 43 2 ((rgTo p (x.1 + 1)).length) ((rgTo p (x.1 + 1)).flatMap encB) :: .blk Ba (.cells (bcs p) 24 (0, 0)) :: O) ?_ (by rw [rgTo_new p x.1 (by simp_all) (by first | omega | simp_all)]; simp [encB])
        refine Seg.op (OpT.assign rfl) rfl ?_
        refine Seg.nil ?_
        refine At.blk_n ?_
        refine At.blk_n ?_
        refine At.then_n ?_
        refine Wp.region ?_
        refine Seg.op (OpT.add rfl rfl (fits64 (by omega))) rfl ?_
        refine Seg.op (OpT.move rfl) rfl ?_
        refine Seg.nil ?_
        refine At.next (x.1 + 1, v11) (Hp.le.refl _) ?_ ?_ ?_ ?_
        · exact (by (try dsimp only); omega)
        · exact .cons (rfl) (.cons (rfl) (.cons (rfl) (.cons (rfl) (.nil))))
        · exact (by first | rfl | (rw [← rgTo_skip p x.1 (by simp_all)]; done) | (rw [← rgTo_skip p x.1 (by simp_all)]; rfl))
        · exact (by (try dsimp only); omega)
  ·
    replace hb4 := of_decide_eq_false hb4
    refine Wp.exit ?_
    refine At.then_x ?_
    refine At.then_x ?_
    refine At.blk_hit ?_
    refine At.then_n ?_
    refine Wp.seq ?_
    refine Wp.region ?_
    refine Seg.op (OpT.move rfl) rfl ?_
    refine Seg.op (OpT.assign rfl) rfl ?_
    refine Seg.nil ?_
    refine At.then_n ?_
    refine Wp.ret ?_
    refine At.freeze (i := 0) rfl fun H12 hle13 hsl14 => ?_
    refine At.drop (i := 0) ?_
    refine At.res1 rfl (RV.tmp (v := x.2) rfl) ?_
    exact Ret.mk (hle2.trans hle13) (⟨rfl, by have e : x.1 = 256 := (by omega); rw [e] at hsl14; exact hsl14⟩)

set_option maxHeartbeats 4000000 in
theorem rranges_w (p : Nat → Bool) :
    Tri Try.prog 27 [(.agg (bcs p))] H O (fun v H' O' => O' = O ∧ Sl H' v 2 (rrTo p 256).length ((rrTo p 256).flatMap encZ)) := by
  intro w hs
  refine wp_of Try.func27 rfl rfl rfl ?_ hs
  clear hs w
  refine Wp.seq ?_
  refine Wp.region ?_
  refine Seg.box (cs := bcs p) rfl rfl rfl fun Ba => ?_
  refine Seg.op (OpT.assign rfl) rfl ?_
  refine Seg.nil ?_
  refine At.then_n ?_
  refine Wp.seq ?_
  refine Wp.region ?_
  refine Seg.op (OpT.assign rfl) rfl ?_
  refine Seg.nil ?_
  refine At.then_n ?_
  refine Wp.seq ?_
  refine Wp.seq ?_
  refine Wp.nilRow 44 2 ?_
  refine Wp.region ?_
  refine Seg.op (OpT.assign rfl) rfl ?_
  refine Seg.nil ?_
  refine At.then_n ?_
  refine Wp.block ?_
  refine Wp.loop (X := Nat × Value) (fun x => [(4, (.int .i64 (((x.1 : Nat) : Int)))), (3, x.2), (1, (ptr Ba (0))), (2, (.slice none 0 0))]) (fun x => .row x.2 44 2 ((rrTo p x.1).length) ((rrTo p x.1).flatMap encZ) :: .blk Ba (.cells (bcs p) 24 (0, 0)) :: O) (fun x H' => x.1 ≤ 256) (fun x => 256 - x.1) (0, .slice none 0 0) ?_ ?_ ?_ ?_
  · exact (by omega)
  · exact .cons (rfl) (.cons (rfl) (.cons (rfl) (.cons (rfl) (.nil))))
  · exact (by first | rfl | (rw [rrTo_zero]; done) | (rw [rrTo_zero]; rfl))
  intro x H1 hle2 hi3
  have hc := rrTo_len p x.1
  refine Wp.seq ?_
  refine Wp.seq ?_
  refine Wp.region ?_
  refine Seg.op (OpT.move rfl) rfl ?_
  refine Seg.op (OpT.lss rfl rfl) rfl ?_
  refine Seg.nil ?_
  refine At.then_n ?_
  refine Wp.cond (b := decide (((x.1 : Nat) : Int) < 256)) rfl (fun hb4 => ?_) (fun hb4 => ?_)
  ·
    replace hb4 := of_decide_eq_true hb4
    refine Wp.skip ?_
    refine At.then_n ?_
    refine Wp.seq ?_
    refine Wp.block ?_
    refine Wp.seq ?_
    refine Wp.seq ?_
    refine Wp.region ?_
    refine Seg.op (OpT.ldBlkW (i := 1) Try.underlying24 rfl ti24 rfl rfl rfl) rfl ?_
    refine Seg.op (OpT.move rfl) rfl ?_
    refine Seg.op (OpT.call ent32 rfl (rhas_w p x.1 (by omega))) rfl ?_
    refine Seg.op (OpT.not rfl) rfl ?_
    refine Seg.op (OpT.move rfl) rfl ?_
    refine Seg.split (t := 14) (b := !(p x.1)) rfl (fun hb5 => ?_) (fun hb5 => ?_)
    ·
      refine Seg.skipG rfl rfl rfl rfl ?_
      refine Seg.skipG rfl rfl rfl rfl ?_
      refine Seg.skipG rfl rfl rfl rfl ?_
      refine Seg.skipG rfl rfl rfl rfl ?_
      refine Seg.op (OpT.pickT rfl rfl) rfl ?_
      refine Seg.nil ?_
      refine At.then_n ?_
      refine Wp.condT rfl ?_
      refine Wp.exit ?_
      refine At.then_x ?_
      refine At.blk_hit ?_
      refine At.then_n ?_
      refine Wp.region ?_
      refine Seg.op (OpT.move rfl) rfl ?_
      refine Seg.op (OpT.add rfl rfl (fits64 (by omega))) rfl ?_
      refine Seg.op (OpT.assign rfl) rfl ?_
      refine Seg.nil ?_
      refine At.next (x.1 + 1, x.2) (Hp.le.refl _) ?_ ?_ ?_ ?_
      · exact (by (try dsimp only); omega)
      · exact .cons (rfl) (.cons (rfl) (.cons (rfl) (.cons (rfl) (.nil))))
      · exact (by first | rfl | (rw [← rrTo_skip p x.1 (by simp_all)]; done) | (rw [← rrTo_skip p x.1 (by simp_all)]; rfl))
      · exact (by (try dsimp only); omega)
    ·
      refine Seg.opG rfl rfl (OpT.ldBlkW (i := 1) Try.underlying24 rfl ti24 rfl rfl rfl) rfl ?_
      refine Seg.opG rfl rfl (OpT.move rfl) rfl ?_
      refine Seg.opG rfl rfl (OpT.sub rfl rfl (fits64 (by omega))) rfl ?_
      refine Seg.opG rfl rfl (OpT.call ent32 rfl (rhas_i p (((x.1 : Nat) : Int) - 1))) rfl ?_
      refine Seg.op (OpT.pickF rfl rfl) rfl ?_
      refine Seg.nil ?_
      refine At.then_n ?_
      refine Wp.cond (b := hasI p (((x.1 : Nat) : Int) - 1)) rfl (fun hb6 => ?_) (fun hb6 => ?_)
      ·
        refine Wp.exit ?_
        refine At.then_x ?_
        refine At.blk_hit ?_
        refine At.then_n ?_
        refine Wp.region ?_
        refine Seg.op (OpT.move rfl) rfl ?_
        refine Seg.op (OpT.add rfl rfl (fits64 (by omega))) rfl ?_
        refine Seg.op (OpT.assign rfl) rfl ?_
        refine Seg.nil ?_
        refine At.next (x.1 + 1, x.2) (Hp.le.refl _) ?_ ?_ ?_ ?_
        · exact (by (try dsimp only); omega)
        · exact .cons (rfl) (.cons (rfl) (.cons (rfl) (.cons (rfl) (.nil))))
        · exact (by first | rfl | (rw [← rrTo_skip p x.1 (by simp_all)]; done) | (rw [← rrTo_skip p x.1 (by simp_all)]; rfl))
        · exact (by (try dsimp only); omega)
      ·
        refine Wp.skip ?_
        refine At.then_n ?_
        refine Wp.seq ?_
        refine Wp.region ?_
        refine Seg.op (OpT.move rfl) rfl ?_
        refine Seg.op (OpT.assign rfl) rfl ?_
        refine Seg.nil ?_
        refine At.then_n ?_
        refine Wp.seq ?_
        refine Wp.block ?_
        refine Wp.loop (X := Nat) (fun y => [(5, (.int .i64 (((y : Nat) : Int)))), (4, (.int .i64 (((x.1 : Nat) : Int)))), (3, x.2), (1, (ptr Ba (0))), (2, (.slice none 0 0)), (6, (.int .i64 (((x.1 : Nat) : Int)))), (7, (.bool (decide (((x.1 : Nat) : Int) < 256)))), (10, (.agg (bcs p))), (11, (.int .i64 (((x.1 : Nat) : Int)))), (12, (.bool (p x.1))), (13, (.bool (!(p x.1)))), (14, (.bool (false))), (15, (.agg (bcs p))), (16, (.int .i64 (((x.1 : Nat) : Int)))), (17, (.int .i64 (((x.1 : Nat) : Int) - 1))), (18, (.bool (hasI p (((x.1 : Nat) : Int) - 1)))), (19, (.bool (hasI p (((x.1 : Nat) : Int) - 1)))), (20, (.int .i64 (((x.1 : Nat) : Int))))]) (fun y => .row x.2 44 2 ((rrTo p x.1).length) ((rrTo p x.1).flatMap encZ) :: .blk Ba (.cells (bcs p) 24 (0, 0)) :: O) (fun y H' => y ≤ 255 ∧ re p y = re p x.1) (fun y => 256 - y) x.1 ?_ ?_ ?_ ?_
        · exact (⟨by omega, rfl⟩)
        · exact .cons (rfl) (.cons (rfl) (.cons (rfl) (.cons (rfl) (.cons (rfl) (.cons (rfl) (.cons (rfl) (.cons (rfl) (.cons (rfl) (.cons (rfl) (.cons (rfl) (.cons (rfl) (.cons (rfl) (.cons (rfl) (.cons (rfl) (.cons (rfl) (.cons (rfl) (.cons (rfl) (.nil))))))))))))))))))
        · exact (rfl)
        intro y H7 hle8 hi9
        have hy := hi9
        have hy1 := hi9.1
        refine Wp.seq ?_
        refine Wp.seq ?_
        refine Wp.region ?_
        refine Seg.op (OpT.ldBlkW (i := 1) Try.underlying24 rfl ti24 rfl rfl rfl) rfl ?_
        refine Seg.op (OpT.move rfl) rfl ?_
        refine Seg.op (OpT.add rfl rfl (fits64 (by omega))) rfl ?_
        refine Seg.op (OpT.call ent32 rfl (rhas_i p (((y : Nat) : Int) + 1))) rfl ?_
        refine Seg.nil ?_
        refine At.then_n ?_
        refine Wp.cond (b := hasI p (((y : Nat) : Int) + 1)) rfl (fun hb10 => ?_) (fun hb10 => ?_)
        ·
          refine Wp.skip ?_
          refine At.then_n ?_
          refine Wp.block ?_
          refine Wp.region ?_
          refine Seg.op (OpT.move rfl) rfl ?_
          refine Seg.op (OpT.add rfl rfl (fits64 (by omega))) rfl ?_
          refine Seg.op (OpT.assign rfl) rfl ?_
          refine Seg.nil ?_
          refine At.blk_n ?_
          refine At.next (y + 1) (Hp.le.refl _) ?_ ?_ ?_ ?_
          · exact (⟨hasI_lt p y (by assumption), by rw [re_step p y hy.1 (by assumption)]; exact hy.2⟩)
          · exact .cons (rfl) (.cons (rfl) (.cons (rfl) (.cons (rfl) (.cons (rfl) (.cons (rfl) (.cons (rfl) (.cons (rfl) (.cons (rfl) (.cons (rfl) (.cons (rfl) (.cons (rfl) (.cons (rfl) (.cons (rfl) (.cons (rfl) (.cons (rfl) (.cons (rfl) (.cons (rfl) (.nil))))))))))))))))))
          · exact (rfl)
          · exact (by omega)
        ·
          refine Wp.exit ?_
          refine At.then_x ?_
          refine At.then_x ?_
          refine At.blk_hit ?_
          refine At.then_n ?_
          refine Wp.region ?_
          refine Seg.op (OpT.move rfl) rfl ?_
          refine Seg.op (OpT.move rfl) rfl ?_
          refine Seg.op (OpT.move rfl) rfl ?_
          refine Seg.op (OpT.buildA (vs := [(0, (.int .i64 (((x.1 : Nat) : Int)))), (1, (.int .i64 (((y : Nat) : Int))))]) (cs := #[(.int .i64 (((x.1 : Nat) : Int))), (.int .i64 (((y : Nat) : Int)))]) Try.underlying44 ti44 ti3 rfl rfl rfl) rfl ?_
          refine Seg.buildSl1 (cs := (#[(.int .i64 (((x.1 : Nat) : Int))), (.int .i64 (((y : Nat) : Int)))])) Try.underlying41 ti44 rfl rfl rfl rfl rfl rfl fun v11 => ?_
          refine Seg.append (z := (.agg #[.int .i64 0, .int .i64 0])) (i := 1) Try.underlying41 ti44 rfl (by decide) rfl rfl rfl (fun w hs => hs.srcRow (i := 0) rfl) (one_ofL rfl) (by omega) (by omega) rfl fun v12 => ?_
          refine Seg.drop (i := 0) ?_
          refine Seg.own (O := .row v12 44 2 ((rrTo p (x.1 + 1)).length) ((rrTo p (x.1 + 1)).flatMap encZ) :: .blk Ba (.cells (bcs p) 24 (0, 0)) :: O) ?_ (by rw [rrTo_hit p x.1 (by simp_all) (by assumption), ← hy.2, re_stop p y hy.1 (by assumption)]; simp [encZ])
          refine Seg.op (OpT.assign rfl) rfl ?_
          refine Seg.nil ?_
          refine At.blk_n ?_
          refine At.then_n ?_
          refine Wp.region ?_
          refine Seg.op (OpT.move rfl) rfl ?_
          refine Seg.op (OpT.add rfl rfl (fits64 (by omega))) rfl ?_
          refine Seg.op (OpT.assign rfl) rfl ?_
          refine Seg.nil ?_
          refine At.next (x.1 + 1, v12) hle8 ?_ ?_ ?_ ?_
          · exact (by (try dsimp only); omega)
          · exact .cons (rfl) (.cons (rfl) (.cons (rfl) (.cons (rfl) (.nil))))
          · exact (by first | rfl | (rw [← rrTo_skip p x.1 (by simp_all)]; done) | (rw [← rrTo_skip p x.1 (by simp_all)]; rfl))
          · exact (by (try dsimp only); omega)
  ·
    replace hb4 := of_decide_eq_false hb4
    refine Wp.exit ?_
    refine At.then_x ?_
    refine At.then_x ?_
    refine At.blk_hit ?_
    refine At.then_n ?_
    refine Wp.seq ?_
    refine Wp.region ?_
    refine Seg.op (OpT.move rfl) rfl ?_
    refine Seg.op (OpT.assign rfl) rfl ?_
    refine Seg.nil ?_
    refine At.then_n ?_
    refine Wp.ret ?_
    refine At.freeze (i := 0) rfl fun H13 hle14 hsl15 => ?_
    refine At.drop (i := 0) ?_
    refine At.res1 rfl (RV.tmp (v := x.2) rfl) ?_
    exact Ret.mk (hle2.trans hle14) (⟨rfl, by have e : x.1 = 256 := (by omega); rw [e] at hsl15; exact hsl15⟩)

end Go.Proofs.Ythhhdpcbkkldgaa
