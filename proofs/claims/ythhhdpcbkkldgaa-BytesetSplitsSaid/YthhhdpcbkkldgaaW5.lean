/- Walks, written by a program (gen.py), one law an operation. -/
import Derived.Test.YthhhdpcbkkldgaaW4
namespace Go.Proofs.Ythhhdpcbkkldgaa
open Go.GK
variable {H : Hp} {O : List Res}

def aw : St := fun t => ofP 97 99 t || ofP 100 100 t
theorem aw_rg : rgTo aw 256 = [(97, 100)] := by decide +kernel
theorem aw_lst : lst aw = 97 := by decide +kernel
theorem aw_any : anyS aw = true := by decide +kernel
theorem aw_full : eqS (nth [ofP 0 255] 0) (fun t => !(fun _ => false) t) = true := by decide +kernel
theorem aw_cnt : cntTo (nth [ofP 0 255] 0) 256 = 256 := by decide +kernel
theorem aw_and : eqS (fun t => aw t && aw t) aw = true := by decide +kernel
theorem aw_has : aw 100 = true := by decide +kernel
theorem parts_len (l : List St) : (partsOf l).length ≤ 65536 := by have := outSt_len (psTo l l.length) (psTo_len l l.length) 256; exact this

set_option maxHeartbeats 4000000 in
theorem awake_w  :
    TriV Try.prog 14 [] H O (.bool true) := by
  intro w hs
  refine wp_of Try.func14 rfl rfl rfl ?_ hs
  clear hs w
  refine Wp.seq ?_
  refine Wp.region ?_
  refine Seg.op (OpT.assign rfl) rfl ?_
  refine Seg.nil ?_
  refine At.then_n ?_
  refine Wp.seq ?_
  refine Wp.region ?_
  refine Seg.op (OpT.call ent12 rfl (of_w 97 99 (by omega) (by omega))) rfl ?_
  refine Seg.op (OpT.call ent12 rfl (of_w 100 100 (by omega) (by omega))) rfl ?_
  refine Seg.op (OpT.cast (v' := (.agg (bcs aw))) (OpT.call ent17 rfl (or_w (ofP 97 99) (ofP 100 100))) (rfl)) rfl ?_
  refine Seg.alloc (cs := bcs (fun _ => false)) ti24 bcs_empty rfl fun Ba => ?_
  refine Seg.stBlkW (i := 0) (cs' := (bcs aw)) rfl rfl ti24 rfl rfl (bcs_one _) rfl ?_
  refine Seg.nil ?_
  refine At.then_n ?_
  refine Wp.seq ?_
  refine Wp.region ?_
  refine Seg.op (OpT.ldBlkW (i := 0) Try.underlying24 rfl ti24 rfl rfl rfl) rfl ?_
  refine Seg.opS (OpS.call ent26 rfl (ranges_w aw)) rfl ?_
  rintro v1 H2 O3 hle4 hr5
  obtain ⟨hq, hr5⟩ := hr5
  subst O3
  rw [aw_rg] at hr5
  replace hr5 : Sl _ _ 2 1 [.int .u8 97, .int .u8 100] := hr5
  refine Seg.op (OpT.assign rfl) rfl ?_
  refine Seg.nil ?_
  refine At.then_n ?_
  refine Wp.seq ?_
  refine Wp.region ?_
  refine Seg.opS (OpS.call ent29 rfl (part_w [] _ (Sl.nil _ _) (by simp))) rfl ?_
  rintro v6 H7 O8 hle9 hr10
  obtain ⟨hq, hr10⟩ := hr10
  subst O8
  rw [parts_nil] at hr10
  refine Seg.op (OpT.assign rfl) rfl ?_
  refine Seg.nil ?_
  refine At.then_n ?_
  refine Wp.seq ?_
  refine Wp.region ?_
  refine Seg.op (OpT.ldBlkW (i := 0) Try.underlying24 rfl ti24 rfl rfl rfl) rfl ?_
  refine Seg.op (OpT.cast (v' := (.tuple #[.int .u8 97, .bool true])) (OpT.call ent24 rfl (least_w aw)) (by rw [aw_lst, aw_any]; rfl)) rfl ?_
  refine Seg.op (OpT.move rfl) rfl ?_
  refine Seg.op (OpT.extract rfl rfl) rfl ?_
  refine Seg.op (OpT.extract rfl rfl) rfl ?_
  refine Seg.op (OpT.assign rfl) rfl ?_
  refine Seg.op (OpT.assign rfl) rfl ?_
  refine Seg.nil ?_
  refine At.then_n ?_
  refine Wp.seq ?_
  refine Wp.drawE 49 follows rfl (by kernel_rfl) ?_
  refine SegL.opE (OpT.move rfl) rfl ?_
  refine SegL.opE (OpT.lenImm Try.underlying39 rfl (hr5.mono hle9)) rfl ?_
  refine SegL.opE (OpT.asB (b := decide (((1 : Nat) : Int) = 1)) (c := true) (OpT.eql rfl rfl) (by decide)) rfl ?_
  refine SegL.opE (OpT.move rfl) rfl ?_
  refine SegL.opGE rfl rfl (OpT.move rfl) rfl ?_
  refine SegL.opGE rfl rfl (OpT.ixImm Try.underlying39 ti43 rfl (hr5.mono hle9) rfl (by decide)) rfl ?_
  refine SegL.opGE rfl rfl (OpT.ldImmA  (vs := [.int .u8 97, .int .u8 100]) Try.underlying43 rfl ti43 (by simp) rfl (hr5.mono hle9) (fun j u hu => by simpa using hu)) rfl ?_
  refine SegL.opGE rfl rfl (OpT.buildA (vs := [(0, (.int .u8 (97))), (1, (.int .u8 (100)))]) (cs := #[(.int .u8 (97)), (.int .u8 (100))]) Try.underlying43 ti43 ti5 rfl rfl rfl) rfl ?_
  refine SegL.opGE rfl rfl (OpT.asB (b := decide (([97, 100] : List Int) = [97, 100])) (c := true) (OpT.eqArr (xs := [97, 100]) (ys := [97, 100]) eqg43 Try.underlying43 Try.underlying5 ti5 rfl rfl rfl rfl) (by decide)) rfl ?_
  refine SegL.opE (OpT.pickT rfl rfl) rfl ?_
  refine SegL.opE (OpT.move rfl) rfl ?_
  refine SegL.opGE rfl rfl (OpT.move rfl) rfl ?_
  refine SegL.opGE rfl rfl (OpT.lenImm Try.underlying45 rfl hr10) rfl ?_
  refine SegL.opGE rfl rfl (OpT.asB (b := decide (((([ofP 0 255] : List St).length : Nat) : Int) = 1)) (c := true) (OpT.eql rfl rfl) (by decide)) rfl ?_
  refine SegL.opE (OpT.pickT rfl rfl) rfl ?_
  refine SegL.opE (OpT.move rfl) rfl ?_
  refine SegL.opGE rfl rfl (OpT.move rfl) rfl ?_
  refine SegL.opGE rfl rfl (OpT.ixImm Try.underlying45 ti24 rfl hr10 rfl (by decide)) rfl ?_
  refine SegL.opGE rfl rfl (OpT.ldImmA  (vs := (bcl (nth ([ofP 0 255]) 0))) Try.underlying24 rfl ti24 (bcl_ne _) rfl hr10 (bcl_at [ofP 0 255] 0 (by decide))) rfl ?_
  refine SegL.opGE rfl rfl (OpT.cast (OpT.buildA (ps := []) Try.underlying24 ti24 ti22 rfl rfl rfl) (congrArg Value.agg bcs_empty)) rfl ?_
  refine SegL.opGE rfl rfl (OpT.call ent21 rfl (not_w (fun _ => false))) rfl ?_
  refine SegL.opGE rfl rfl (OpT.asB (b := eqS (nth ([ofP 0 255]) 0) (fun t => !(fun _ => false) t)) (c := true) (OpT.eqBs (p := (nth ([ofP 0 255]) 0)) (q := (fun t => !(fun _ => false) t)) eqg24 Try.underlying24 Try.underlying22 ti22 rfl rfl) (aw_full)) rfl ?_
  refine SegL.opE (OpT.pickT rfl rfl) rfl ?_
  refine SegL.opE (OpT.move rfl) rfl ?_
  refine SegL.opGE rfl rfl (OpT.move rfl) rfl ?_
  refine SegL.opGE rfl rfl (OpT.ixImm Try.underlying45 ti24 rfl hr10 rfl (by decide)) rfl ?_
  refine SegL.opGE rfl rfl (OpT.ldImmA  (vs := (bcl (nth ([ofP 0 255]) 0))) Try.underlying24 rfl ti24 (bcl_ne _) rfl hr10 (bcl_at [ofP 0 255] 0 (by decide))) rfl ?_
  refine SegL.opGE rfl rfl (OpT.call ent25 rfl (len_w (nth ([ofP 0 255]) 0))) rfl ?_
  refine SegL.opGE rfl rfl (OpT.asB (b := decide ((((cntTo (nth ([ofP 0 255]) 0) 256) : Nat) : Int) = 256)) (c := true) (OpT.eql rfl rfl) (decide_eq_true (by rw [aw_cnt]; rfl))) rfl ?_
  refine SegL.opE (OpT.pickT rfl rfl) rfl ?_
  refine SegL.opE (OpT.move rfl) rfl ?_
  refine SegL.opGE rfl rfl (OpT.move rfl) rfl ?_
  refine SegL.opGE rfl rfl (OpT.asB (b := decide (97 = 97)) (c := true) (OpT.eql rfl rfl) (by decide)) rfl ?_
  refine SegL.opE (OpT.pickT rfl rfl) rfl ?_
  refine SegL.opE (OpT.move rfl) rfl ?_
  refine SegL.opGE rfl rfl (OpT.move rfl) rfl ?_
  refine SegL.opE (OpT.pickT rfl rfl) rfl ?_
  refine SegL.opE (OpT.move rfl) rfl ?_
  refine SegL.opGE rfl rfl (OpT.ldBlkW (i := 0) Try.underlying24 rfl ti24 rfl rfl rfl) rfl ?_
  refine SegL.opGE rfl rfl (OpT.asB (b := aw 100) (c := true) (OpT.call ent15 rfl (has_w aw 100 (by decide))) (aw_has)) rfl ?_
  refine SegL.opE (OpT.pickT rfl rfl) rfl ?_
  refine SegL.opE (OpT.move rfl) rfl ?_
  refine SegL.opGE rfl rfl (OpT.ldBlkW (i := 0) Try.underlying24 rfl ti24 rfl rfl rfl) rfl ?_
  refine SegL.opGE rfl rfl (OpT.ldBlkW (i := 0) Try.underlying24 rfl ti24 rfl rfl rfl) rfl ?_
  refine SegL.opGE rfl rfl (OpT.call ent19 rfl (and_w aw aw)) rfl ?_
  refine SegL.opGE rfl rfl (OpT.ldBlkW (i := 0) Try.underlying24 rfl ti24 rfl rfl rfl) rfl ?_
  refine SegL.opGE rfl rfl (OpT.asB (b := eqS (fun t => aw t && aw t) aw) (c := true) (OpT.eqBs (p := (fun t => aw t && aw t)) (q := aw) eqg24 Try.underlying24 Try.underlying22 ti22 rfl rfl) (aw_and)) rfl ?_
  refine SegL.opE (OpT.pickT rfl rfl) rfl ?_
  refine SegL.opE (OpT.assign rfl) rfl ?_
  refine SegL.doneE ?_
  refine EndL.is (t := 0) (v := (.bool (true))) rfl ?_
  refine EndL.seg ?_
  refine Seg.nil ?_
  refine At.then_n ?_
  refine Wp.ret ?_
  refine At.res1 rfl (RV.tmp (v := (.bool (true))) rfl) ?_
  exact fun w hs => ⟨rfl, (hs.dropN 1).weaken (hle4.trans hle9)⟩

set_option maxHeartbeats 4000000 in
theorem l_of (lo hi : Nat) (h1 : lo < 256) (h2 : hi < 256) :
    TriV Try.prog 3 [(.int .u8 (((lo : Nat) : Int))), (.int .u8 (((hi : Nat) : Int)))] H O (.bool true) := by
  intro w hs
  refine wp_of Try.func3 rfl rfl rfl ?_ hs
  clear hs w
  refine Wp.seq ?_
  refine Wp.region ?_
  refine Seg.op (OpT.assign rfl) rfl ?_
  refine Seg.nil ?_
  refine At.then_n ?_
  refine Wp.seq ?_
  refine Wp.region ?_
  refine Seg.op (OpT.move rfl) rfl ?_
  refine Seg.op (OpT.move rfl) rfl ?_
  refine Seg.op (OpT.call ent12 rfl (of_w lo hi (by omega) (by omega))) rfl ?_
  refine Seg.op (OpT.move rfl) rfl ?_
  refine Seg.op (OpT.conv Try.underlying5 Try.underlying3 rfl (fits64 (by omega))) rfl ?_
  refine Seg.op (OpT.move rfl) rfl ?_
  refine Seg.op (OpT.conv Try.underlying5 Try.underlying3 rfl (fits64 (by omega))) rfl ?_
  refine Seg.op (OpT.call ent13 rfl (rof_w lo hi (by omega) (by omega))) rfl ?_
  refine Seg.op (OpT.asB (b := eqS (ofP lo hi) (ofP lo hi)) (c := true) (OpT.eqBs (p := (ofP lo hi)) (q := (ofP lo hi)) eqg24 Try.underlying24 Try.underlying22 ti22 rfl rfl) (eqS_iff.2 fun _ _ => rfl)) rfl ?_
  refine Seg.op (OpT.move rfl) rfl ?_
  refine Seg.opG rfl rfl (OpT.call ent14 rfl (awake_w)) rfl ?_
  refine Seg.op (OpT.pickT rfl rfl) rfl ?_
  refine Seg.op (OpT.assign rfl) rfl ?_
  refine Seg.nil ?_
  refine At.then_n ?_
  refine Wp.ret ?_
  refine At.res1 rfl (RV.tmp (v := (.bool (true))) rfl) ?_
  exact fun w hs => ⟨rfl, (hs.dropN 0).weaken (Hp.le.refl _)⟩

set_option maxHeartbeats 4000000 in
theorem l_has (p : St) (b : Nat) (hb : b < 256) :
    TriV Try.prog 4 [(.agg (bcs p)), (.int .u8 (((b : Nat) : Int)))] H O (.bool true) := by
  intro w hs
  refine wp_of Try.func4 rfl rfl rfl ?_ hs
  clear hs w
  refine Wp.seq ?_
  refine Wp.region ?_
  refine Seg.box (cs := bcs p) rfl rfl rfl fun Ba => ?_
  refine Seg.op (OpT.assign rfl) rfl ?_
  refine Seg.nil ?_
  refine At.then_n ?_
  refine Wp.seq ?_
  refine Wp.drawE 11 follows rfl (by kernel_rfl) ?_
  refine SegL.opE (OpT.ldBlkW (i := 0) Try.underlying24 rfl ti24 rfl rfl rfl) rfl ?_
  refine SegL.opE (OpT.move rfl) rfl ?_
  refine SegL.opE (OpT.call ent15 rfl (has_w p b (by omega))) rfl ?_
  refine SegL.opE (OpT.ldBlkW (i := 0) Try.underlying24 rfl ti24 rfl rfl rfl) rfl ?_
  refine SegL.opE (OpT.move rfl) rfl ?_
  refine SegL.opE (OpT.call ent16 rfl (rHas_w p b (by omega))) rfl ?_
  refine SegL.opE (OpT.asB (b := (p b) == (p b)) (c := true) (OpT.eqB Try.underlying4 rfl rfl) (by simp)) rfl ?_
  refine SegL.opE (OpT.move rfl) rfl ?_
  refine SegL.opGE rfl rfl (OpT.call ent14 rfl (awake_w)) rfl ?_
  refine SegL.opE (OpT.pickT rfl rfl) rfl ?_
  refine SegL.opE (OpT.assign rfl) rfl ?_
  refine SegL.doneE ?_
  refine EndL.is (t := 4) (v := (.bool (true))) rfl ?_
  refine EndL.seg ?_
  refine Seg.nil ?_
  refine At.then_n ?_
  refine Wp.ret ?_
  refine At.res1 rfl (RV.tmp (v := (.bool (true))) rfl) ?_
  exact fun w hs => ⟨rfl, (hs.dropN 1).weaken (Hp.le.refl _)⟩

set_option maxHeartbeats 4000000 in
theorem l_joins (p q : St) :
    TriV Try.prog 5 [(.agg (bcs p)), (.agg (bcs q))] H O (.bool true) := by
  intro w hs
  refine wp_of Try.func5 rfl rfl rfl ?_ hs
  clear hs w
  refine Wp.seq ?_
  refine Wp.region ?_
  refine Seg.box (cs := bcs p) rfl rfl rfl fun B1 => ?_
  refine Seg.box (cs := bcs q) rfl rfl rfl fun B2 => ?_
  refine Seg.op (OpT.assign rfl) rfl ?_
  refine Seg.nil ?_
  refine At.then_n ?_
  refine Wp.seq ?_
  refine Wp.drawE 27 follows rfl (by kernel_rfl) ?_
  refine SegL.opE (OpT.ldBlkW (i := 1) Try.underlying24 rfl ti24 rfl rfl rfl) rfl ?_
  refine SegL.opE (OpT.ldBlkW (i := 0) Try.underlying24 rfl ti24 rfl rfl rfl) rfl ?_
  refine SegL.opE (OpT.call ent17 rfl (or_w p q)) rfl ?_
  refine SegL.opE (OpT.ldBlkW (i := 1) Try.underlying24 rfl ti24 rfl rfl rfl) rfl ?_
  refine SegL.opE (OpT.ldBlkW (i := 0) Try.underlying24 rfl ti24 rfl rfl rfl) rfl ?_
  refine SegL.opE (OpT.call ent18 rfl (ror_w p q)) rfl ?_
  refine SegL.opE (OpT.asB (b := eqS (fun t => p t || q t) (fun t => p t || q t)) (c := true) (OpT.eqBs (p := (fun t => p t || q t)) (q := (fun t => p t || q t)) eqg24 Try.underlying24 Try.underlying22 ti22 rfl rfl) (eqS_iff.2 fun _ _ => rfl)) rfl ?_
  refine SegL.opE (OpT.move rfl) rfl ?_
  refine SegL.opGE rfl rfl (OpT.ldBlkW (i := 1) Try.underlying24 rfl ti24 rfl rfl rfl) rfl ?_
  refine SegL.opGE rfl rfl (OpT.ldBlkW (i := 0) Try.underlying24 rfl ti24 rfl rfl rfl) rfl ?_
  refine SegL.opGE rfl rfl (OpT.call ent19 rfl (and_w p q)) rfl ?_
  refine SegL.opGE rfl rfl (OpT.ldBlkW (i := 1) Try.underlying24 rfl ti24 rfl rfl rfl) rfl ?_
  refine SegL.opGE rfl rfl (OpT.ldBlkW (i := 0) Try.underlying24 rfl ti24 rfl rfl rfl) rfl ?_
  refine SegL.opGE rfl rfl (OpT.call ent20 rfl (rand_w p q)) rfl ?_
  refine SegL.opGE rfl rfl (OpT.asB (b := eqS (fun t => p t && q t) (fun t => p t && q t)) (c := true) (OpT.eqBs (p := (fun t => p t && q t)) (q := (fun t => p t && q t)) eqg24 Try.underlying24 Try.underlying22 ti22 rfl rfl) (eqS_iff.2 fun _ _ => rfl)) rfl ?_
  refine SegL.opE (OpT.pickT rfl rfl) rfl ?_
  refine SegL.opE (OpT.move rfl) rfl ?_
  refine SegL.opGE rfl rfl (OpT.ldBlkW (i := 1) Try.underlying24 rfl ti24 rfl rfl rfl) rfl ?_
  refine SegL.opGE rfl rfl (OpT.call ent21 rfl (not_w p)) rfl ?_
  refine SegL.opGE rfl rfl (OpT.ldBlkW (i := 1) Try.underlying24 rfl ti24 rfl rfl rfl) rfl ?_
  refine SegL.opGE rfl rfl (OpT.call ent22 rfl (rnot_w p)) rfl ?_
  refine SegL.opGE rfl rfl (OpT.asB (b := eqS (fun t => !p t) (fun t => !p t)) (c := true) (OpT.eqBs (p := (fun t => !p t)) (q := (fun t => !p t)) eqg24 Try.underlying24 Try.underlying22 ti22 rfl rfl) (eqS_iff.2 fun _ _ => rfl)) rfl ?_
  refine SegL.opE (OpT.pickT rfl rfl) rfl ?_
  refine SegL.opE (OpT.move rfl) rfl ?_
  refine SegL.opGE rfl rfl (OpT.call ent14 rfl (awake_w)) rfl ?_
  refine SegL.opE (OpT.pickT rfl rfl) rfl ?_
  refine SegL.opE (OpT.assign rfl) rfl ?_
  refine SegL.doneE ?_
  refine EndL.is (t := 4) (v := (.bool (true))) rfl ?_
  refine EndL.seg ?_
  refine Seg.nil ?_
  refine At.then_n ?_
  refine Wp.ret ?_
  refine At.res1 rfl (RV.tmp (v := (.bool (true))) rfl) ?_
  exact fun w hs => ⟨rfl, (hs.dropN 2).weaken (Hp.le.refl _)⟩

set_option maxHeartbeats 4000000 in
theorem l_algebra (p q r : St) :
    TriV Try.prog 9 [(.agg (bcs p)), (.agg (bcs q)), (.agg (bcs r))] H O (.bool true) := by
  intro w hs
  refine wp_of Try.func9 rfl rfl rfl ?_ hs
  clear hs w
  refine Wp.seq ?_
  refine Wp.region ?_
  refine Seg.box (cs := bcs p) rfl rfl rfl fun B1 => ?_
  refine Seg.box (cs := bcs q) rfl rfl rfl fun B2 => ?_
  refine Seg.box (cs := bcs r) rfl rfl rfl fun B3 => ?_
  refine Seg.op (OpT.assign rfl) rfl ?_
  refine Seg.nil ?_
  refine At.then_n ?_
  refine Wp.seq ?_
  refine Wp.region ?_
  refine Seg.op (OpT.cast (OpT.buildA (ps := []) Try.underlying24 ti24 ti22 rfl rfl rfl) (congrArg Value.agg bcs_empty)) rfl ?_
  refine Seg.op (OpT.cast (OpT.buildA (ps := []) Try.underlying24 ti24 ti22 rfl rfl rfl) (congrArg Value.agg bcs_empty)) rfl ?_
  refine Seg.op (OpT.call ent21 rfl (not_w (fun _ => false))) rfl ?_
  refine Seg.alloc (cs := bcs (fun _ => false)) ti24 bcs_empty rfl fun B4 => ?_
  refine Seg.alloc (cs := bcs (fun _ => false)) ti24 bcs_empty rfl fun B5 => ?_
  refine Seg.stBlkW (i := 1) (cs' := (bcs (fun _ => false))) rfl rfl ti24 rfl rfl (bcs_one _) rfl ?_
  refine Seg.stBlkW (i := 0) (cs' := (bcs (fun t => !(fun _ => false) t))) rfl rfl ti24 rfl rfl (bcs_one _) rfl ?_
  refine Seg.nil ?_
  refine At.then_n ?_
  refine Wp.seq ?_
  refine Wp.seq ?_
  refine Wp.drawE 16 follows rfl (by kernel_rfl) ?_
  refine SegL.opE (OpT.ldBlkW (i := 4) Try.underlying24 rfl ti24 rfl rfl rfl) rfl ?_
  refine SegL.opE (OpT.ldBlkW (i := 3) Try.underlying24 rfl ti24 rfl rfl rfl) rfl ?_
  refine SegL.opE (OpT.call ent17 rfl (or_w p q)) rfl ?_
  refine SegL.opE (OpT.ldBlkW (i := 3) Try.underlying24 rfl ti24 rfl rfl rfl) rfl ?_
  refine SegL.opE (OpT.ldBlkW (i := 4) Try.underlying24 rfl ti24 rfl rfl rfl) rfl ?_
  refine SegL.opE (OpT.call ent17 rfl (or_w q p)) rfl ?_
  refine SegL.opE (OpT.asB (b := !eqS (fun t => p t || q t) (fun t => q t || p t)) (c := false) (OpT.neBs (p := (fun t => p t || q t)) (q := (fun t => q t || p t)) eqg24 Try.underlying24 Try.underlying22 ti22 rfl rfl) (congrArg (fun b => !b) (eqS_iff.2 fun x _ => by (try dsimp only); cases p x <;> cases q x <;> cases r x <;> rfl))) rfl ?_
  refine SegL.opE (OpT.move rfl) rfl ?_
  refine SegL.opGE rfl rfl (OpT.ldBlkW (i := 4) Try.underlying24 rfl ti24 rfl rfl rfl) rfl ?_
  refine SegL.opGE rfl rfl (OpT.ldBlkW (i := 3) Try.underlying24 rfl ti24 rfl rfl rfl) rfl ?_
  refine SegL.opGE rfl rfl (OpT.call ent19 rfl (and_w p q)) rfl ?_
  refine SegL.opGE rfl rfl (OpT.ldBlkW (i := 3) Try.underlying24 rfl ti24 rfl rfl rfl) rfl ?_
  refine SegL.opGE rfl rfl (OpT.ldBlkW (i := 4) Try.underlying24 rfl ti24 rfl rfl rfl) rfl ?_
  refine SegL.opGE rfl rfl (OpT.call ent19 rfl (and_w q p)) rfl ?_
  refine SegL.opGE rfl rfl (OpT.asB (b := !eqS (fun t => p t && q t) (fun t => q t && p t)) (c := false) (OpT.neBs (p := (fun t => p t && q t)) (q := (fun t => q t && p t)) eqg24 Try.underlying24 Try.underlying22 ti22 rfl rfl) (congrArg (fun b => !b) (eqS_iff.2 fun x _ => by (try dsimp only); cases p x <;> cases q x <;> cases r x <;> rfl))) rfl ?_
  refine SegL.opE (OpT.pickF rfl rfl) rfl ?_
  refine SegL.doneE ?_
  refine EndL.is (t := 3) (v := (ptr B1 (0))) rfl ?_
  refine EndL.is (t := 4) (v := (ptr B2 (0))) rfl ?_
  refine EndL.is (t := 5) (v := (ptr B3 (0))) rfl ?_
  refine EndL.is (t := 6) (v := (.bool (false))) rfl ?_
  refine EndL.is (t := 7) (v := (ptr B4 (0))) rfl ?_
  refine EndL.is (t := 8) (v := (ptr B5 (0))) rfl ?_
  refine EndL.is (t := 27) (v := (.bool (false))) rfl ?_
  refine EndL.seg ?_
  refine Seg.nil ?_
  refine At.then_n ?_
  refine Wp.condF rfl ?_
  refine Wp.skip ?_
  refine At.then_n ?_
  refine Wp.seq ?_
  refine Wp.seq ?_
  refine Wp.drawE 24 follows rfl (by kernel_rfl) ?_
  refine SegL.opE (OpT.ldBlkW (i := 4) Try.underlying24 rfl ti24 rfl rfl rfl) rfl ?_
  refine SegL.opE (OpT.ldBlkW (i := 3) Try.underlying24 rfl ti24 rfl rfl rfl) rfl ?_
  refine SegL.opE (OpT.ldBlkW (i := 2) Try.underlying24 rfl ti24 rfl rfl rfl) rfl ?_
  refine SegL.opE (OpT.call ent17 rfl (or_w q r)) rfl ?_
  refine SegL.opE (OpT.call ent17 rfl (or_w p (fun t => q t || r t))) rfl ?_
  refine SegL.opE (OpT.ldBlkW (i := 4) Try.underlying24 rfl ti24 rfl rfl rfl) rfl ?_
  refine SegL.opE (OpT.ldBlkW (i := 3) Try.underlying24 rfl ti24 rfl rfl rfl) rfl ?_
  refine SegL.opE (OpT.call ent17 rfl (or_w p q)) rfl ?_
  refine SegL.opE (OpT.ldBlkW (i := 2) Try.underlying24 rfl ti24 rfl rfl rfl) rfl ?_
  refine SegL.opE (OpT.call ent17 rfl (or_w (fun t => p t || q t) r)) rfl ?_
  refine SegL.opE (OpT.asB (b := !eqS (fun t => p t || (fun t => q t || r t) t) (fun t => (fun t => p t || q t) t || r t)) (c := false) (OpT.neBs (p := (fun t => p t || (fun t => q t || r t) t)) (q := (fun t => (fun t => p t || q t) t || r t)) eqg24 Try.underlying24 Try.underlying22 ti22 rfl rfl) (congrArg (fun b => !b) (eqS_iff.2 fun x _ => by (try dsimp only); cases p x <;> cases q x <;> cases r x <;> rfl))) rfl ?_
  refine SegL.opE (OpT.move rfl) rfl ?_
  refine SegL.opGE rfl rfl (OpT.ldBlkW (i := 4) Try.underlying24 rfl ti24 rfl rfl rfl) rfl ?_
  refine SegL.opGE rfl rfl (OpT.ldBlkW (i := 3) Try.underlying24 rfl ti24 rfl rfl rfl) rfl ?_
  refine SegL.opGE rfl rfl (OpT.ldBlkW (i := 2) Try.underlying24 rfl ti24 rfl rfl rfl) rfl ?_
  refine SegL.opGE rfl rfl (OpT.call ent19 rfl (and_w q r)) rfl ?_
  refine SegL.opGE rfl rfl (OpT.call ent19 rfl (and_w p (fun t => q t && r t))) rfl ?_
  refine SegL.opGE rfl rfl (OpT.ldBlkW (i := 4) Try.underlying24 rfl ti24 rfl rfl rfl) rfl ?_
  refine SegL.opGE rfl rfl (OpT.ldBlkW (i := 3) Try.underlying24 rfl ti24 rfl rfl rfl) rfl ?_
  refine SegL.opGE rfl rfl (OpT.call ent19 rfl (and_w p q)) rfl ?_
  refine SegL.opGE rfl rfl (OpT.ldBlkW (i := 2) Try.underlying24 rfl ti24 rfl rfl rfl) rfl ?_
  refine SegL.opGE rfl rfl (OpT.call ent19 rfl (and_w (fun t => p t && q t) r)) rfl ?_
  refine SegL.opGE rfl rfl (OpT.asB (b := !eqS (fun t => p t && (fun t => q t && r t) t) (fun t => (fun t => p t && q t) t && r t)) (c := false) (OpT.neBs (p := (fun t => p t && (fun t => q t && r t) t)) (q := (fun t => (fun t => p t && q t) t && r t)) eqg24 Try.underlying24 Try.underlying22 ti22 rfl rfl) (congrArg (fun b => !b) (eqS_iff.2 fun x _ => by (try dsimp only); cases p x <;> cases q x <;> cases r x <;> rfl))) rfl ?_
  refine SegL.opE (OpT.pickF rfl rfl) rfl ?_
  refine SegL.doneE ?_
  refine EndL.is (t := 3) (v := (ptr B1 (0))) rfl ?_
  refine EndL.is (t := 4) (v := (ptr B2 (0))) rfl ?_
  refine EndL.is (t := 5) (v := (ptr B3 (0))) rfl ?_
  refine EndL.is (t := 6) (v := (.bool (false))) rfl ?_
  refine EndL.is (t := 7) (v := (ptr B4 (0))) rfl ?_
  refine EndL.is (t := 8) (v := (ptr B5 (0))) rfl ?_
  refine EndL.is (t := 51) (v := (.bool (false))) rfl ?_
  refine EndL.seg ?_
  refine Seg.nil ?_
  refine At.then_n ?_
  refine Wp.condF rfl ?_
  refine Wp.skip ?_
  refine At.then_n ?_
  refine Wp.seq ?_
  refine Wp.seq ?_
  refine Wp.drawE 22 follows rfl (by kernel_rfl) ?_
  refine SegL.opE (OpT.ldBlkW (i := 4) Try.underlying24 rfl ti24 rfl rfl rfl) rfl ?_
  refine SegL.opE (OpT.ldBlkW (i := 3) Try.underlying24 rfl ti24 rfl rfl rfl) rfl ?_
  refine SegL.opE (OpT.ldBlkW (i := 2) Try.underlying24 rfl ti24 rfl rfl rfl) rfl ?_
  refine SegL.opE (OpT.call ent17 rfl (or_w q r)) rfl ?_
  refine SegL.opE (OpT.call ent19 rfl (and_w p (fun t => q t || r t))) rfl ?_
  refine SegL.opE (OpT.ldBlkW (i := 4) Try.underlying24 rfl ti24 rfl rfl rfl) rfl ?_
  refine SegL.opE (OpT.ldBlkW (i := 3) Try.underlying24 rfl ti24 rfl rfl rfl) rfl ?_
  refine SegL.opE (OpT.call ent19 rfl (and_w p q)) rfl ?_
  refine SegL.opE (OpT.ldBlkW (i := 4) Try.underlying24 rfl ti24 rfl rfl rfl) rfl ?_
  refine SegL.opE (OpT.ldBlkW (i := 2) Try.underlying24 rfl ti24 rfl rfl rfl) rfl ?_
  refine SegL.opE (OpT.call ent19 rfl (and_w p r)) rfl ?_
  refine SegL.opE (OpT.call ent17 rfl (or_w (fun t => p t && q t) (fun t => p t && r t))) rfl ?_
  refine SegL.opE (OpT.asB (b := !eqS (fun t => p t && (fun t => q t || r t) t) (fun t => (fun t => p t && q t) t || (fun t => p t && r t) t)) (c := false) (OpT.neBs (p := (fun t => p t && (fun t => q t || r t) t)) (q := (fun t => (fun t => p t && q t) t || (fun t => p t && r t) t)) eqg24 Try.underlying24 Try.underlying22 ti22 rfl rfl) (congrArg (fun b => !b) (eqS_iff.2 fun x _ => by (try dsimp only); cases p x <;> cases q x <;> cases r x <;> rfl))) rfl ?_
  refine SegL.opE (OpT.move rfl) rfl ?_
  refine SegL.opGE rfl rfl (OpT.ldBlkW (i := 4) Try.underlying24 rfl ti24 rfl rfl rfl) rfl ?_
  refine SegL.opGE rfl rfl (OpT.ldBlkW (i := 4) Try.underlying24 rfl ti24 rfl rfl rfl) rfl ?_
  refine SegL.opGE rfl rfl (OpT.ldBlkW (i := 3) Try.underlying24 rfl ti24 rfl rfl rfl) rfl ?_
  refine SegL.opGE rfl rfl (OpT.call ent19 rfl (and_w p q)) rfl ?_
  refine SegL.opGE rfl rfl (OpT.call ent17 rfl (or_w p (fun t => p t && q t))) rfl ?_
  refine SegL.opGE rfl rfl (OpT.ldBlkW (i := 4) Try.underlying24 rfl ti24 rfl rfl rfl) rfl ?_
  refine SegL.opGE rfl rfl (OpT.asB (b := !eqS (fun t => p t || (fun t => p t && q t) t) p) (c := false) (OpT.neBs (p := (fun t => p t || (fun t => p t && q t) t)) (q := p) eqg24 Try.underlying24 Try.underlying22 ti22 rfl rfl) (congrArg (fun b => !b) (eqS_iff.2 fun x _ => by (try dsimp only); cases p x <;> cases q x <;> cases r x <;> rfl))) rfl ?_
  refine SegL.opE (OpT.pickF rfl rfl) rfl ?_
  refine SegL.doneE ?_
  refine EndL.is (t := 3) (v := (ptr B1 (0))) rfl ?_
  refine EndL.is (t := 4) (v := (ptr B2 (0))) rfl ?_
  refine EndL.is (t := 6) (v := (.bool (false))) rfl ?_
  refine EndL.is (t := 7) (v := (ptr B4 (0))) rfl ?_
  refine EndL.is (t := 8) (v := (ptr B5 (0))) rfl ?_
  refine EndL.is (t := 73) (v := (.bool (false))) rfl ?_
  refine EndL.seg ?_
  refine Seg.nil ?_
  refine At.then_n ?_
  refine Wp.condF rfl ?_
  refine Wp.skip ?_
  refine At.then_n ?_
  refine Wp.seq ?_
  refine Wp.drawE 37 follows rfl (by kernel_rfl) ?_
  refine SegL.opE (OpT.ldBlkW (i := 4) Try.underlying24 rfl ti24 rfl rfl rfl) rfl ?_
  refine SegL.opE (OpT.ldBlkW (i := 4) Try.underlying24 rfl ti24 rfl rfl rfl) rfl ?_
  refine SegL.opE (OpT.call ent21 rfl (not_w p)) rfl ?_
  refine SegL.opE (OpT.call ent17 rfl (or_w p (fun t => !p t))) rfl ?_
  refine SegL.opE (OpT.ldBlkW (i := 0) Try.underlying24 rfl ti24 rfl rfl rfl) rfl ?_
  refine SegL.opE (OpT.asB (b := eqS (fun t => p t || (fun t => !p t) t) (fun t => !(fun _ => false) t)) (c := true) (OpT.eqBs (p := (fun t => p t || (fun t => !p t) t)) (q := (fun t => !(fun _ => false) t)) eqg24 Try.underlying24 Try.underlying22 ti22 rfl rfl) (eqS_iff.2 fun x _ => by (try dsimp only); cases p x <;> cases q x <;> cases r x <;> rfl)) rfl ?_
  refine SegL.opE (OpT.move rfl) rfl ?_
  refine SegL.opGE rfl rfl (OpT.ldBlkW (i := 4) Try.underlying24 rfl ti24 rfl rfl rfl) rfl ?_
  refine SegL.opGE rfl rfl (OpT.ldBlkW (i := 4) Try.underlying24 rfl ti24 rfl rfl rfl) rfl ?_
  refine SegL.opGE rfl rfl (OpT.call ent21 rfl (not_w p)) rfl ?_
  refine SegL.opGE rfl rfl (OpT.call ent19 rfl (and_w p (fun t => !p t))) rfl ?_
  refine SegL.opGE rfl rfl (OpT.ldBlkW (i := 1) Try.underlying24 rfl ti24 rfl rfl rfl) rfl ?_
  refine SegL.opGE rfl rfl (OpT.asB (b := eqS (fun t => p t && (fun t => !p t) t) (fun _ => false)) (c := true) (OpT.eqBs (p := (fun t => p t && (fun t => !p t) t)) (q := (fun _ => false)) eqg24 Try.underlying24 Try.underlying22 ti22 rfl rfl) (eqS_iff.2 fun x _ => by (try dsimp only); cases p x <;> cases q x <;> cases r x <;> rfl)) rfl ?_
  refine SegL.opE (OpT.pickT rfl rfl) rfl ?_
  refine SegL.opE (OpT.move rfl) rfl ?_
  refine SegL.opGE rfl rfl (OpT.ldBlkW (i := 4) Try.underlying24 rfl ti24 rfl rfl rfl) rfl ?_
  refine SegL.opGE rfl rfl (OpT.call ent21 rfl (not_w p)) rfl ?_
  refine SegL.opGE rfl rfl (OpT.call ent21 rfl (not_w (fun t => !p t))) rfl ?_
  refine SegL.opGE rfl rfl (OpT.ldBlkW (i := 4) Try.underlying24 rfl ti24 rfl rfl rfl) rfl ?_
  refine SegL.opGE rfl rfl (OpT.asB (b := eqS (fun t => !(fun t => !p t) t) p) (c := true) (OpT.eqBs (p := (fun t => !(fun t => !p t) t)) (q := p) eqg24 Try.underlying24 Try.underlying22 ti22 rfl rfl) (eqS_iff.2 fun x _ => by (try dsimp only); cases p x <;> cases q x <;> cases r x <;> rfl)) rfl ?_
  refine SegL.opE (OpT.pickT rfl rfl) rfl ?_
  refine SegL.opE (OpT.move rfl) rfl ?_
  refine SegL.opGE rfl rfl (OpT.ldBlkW (i := 4) Try.underlying24 rfl ti24 rfl rfl rfl) rfl ?_
  refine SegL.opGE rfl rfl (OpT.ldBlkW (i := 3) Try.underlying24 rfl ti24 rfl rfl rfl) rfl ?_
  refine SegL.opGE rfl rfl (OpT.call ent17 rfl (or_w p q)) rfl ?_
  refine SegL.opGE rfl rfl (OpT.call ent21 rfl (not_w (fun t => p t || q t))) rfl ?_
  refine SegL.opGE rfl rfl (OpT.ldBlkW (i := 4) Try.underlying24 rfl ti24 rfl rfl rfl) rfl ?_
  refine SegL.opGE rfl rfl (OpT.call ent21 rfl (not_w p)) rfl ?_
  refine SegL.opGE rfl rfl (OpT.ldBlkW (i := 3) Try.underlying24 rfl ti24 rfl rfl rfl) rfl ?_
  refine SegL.opGE rfl rfl (OpT.call ent21 rfl (not_w q)) rfl ?_
  refine SegL.opGE rfl rfl (OpT.call ent19 rfl (and_w (fun t => !p t) (fun t => !q t))) rfl ?_
  refine SegL.opGE rfl rfl (OpT.asB (b := eqS (fun t => !(fun t => p t || q t) t) (fun t => (fun t => !p t) t && (fun t => !q t) t)) (c := true) (OpT.eqBs (p := (fun t => !(fun t => p t || q t) t)) (q := (fun t => (fun t => !p t) t && (fun t => !q t) t)) eqg24 Try.underlying24 Try.underlying22 ti22 rfl rfl) (eqS_iff.2 fun x _ => by (try dsimp only); cases p x <;> cases q x <;> cases r x <;> rfl)) rfl ?_
  refine SegL.opE (OpT.pickT rfl rfl) rfl ?_
  refine SegL.opE (OpT.move rfl) rfl ?_
  refine SegL.opGE rfl rfl (OpT.call ent14 rfl (awake_w)) rfl ?_
  refine SegL.opE (OpT.pickT rfl rfl) rfl ?_
  refine SegL.opE (OpT.assign rfl) rfl ?_
  refine SegL.doneE ?_
  refine EndL.is (t := 6) (v := (.bool (true))) rfl ?_
  refine EndL.seg ?_
  refine Seg.nil ?_
  refine At.then_n ?_
  refine Wp.ret ?_
  refine At.res1 rfl (RV.tmp (v := (.bool (true))) rfl) ?_
  exact fun w hs => ⟨rfl, (hs.dropN 5).weaken (Hp.le.refl _)⟩

end Go.Proofs.Ythhhdpcbkkldgaa
