/- The library's contracts at this seat. -/
import Derived.Test.YtjmbmodmepdmjaaDoorHd
import Derived.Test.YtjmbmodmepdmjaaDoorShelf
import Derived.Shelf.Slices.In.SortNone
namespace Go.Proofs.YtjmbmodmepdmjaaDoor
open Go.GK Go.Proofs Go.Shelf Go.Sort
variable {H : Hp} {O : List Res}

theorem infT : ∃ j, Tryd.prog.info? 105 = some j ∧ j.size ≠ 0 := by
  have h : (Tryd.prog.info? 105).map (fun j => j.size) = some 2 := by kernel_rfl
  cases hj : Tryd.prog.info? 105 with
  | none => rw [hj] at h; cases h
  | some j => rw [hj] at h; simp at h; exact ⟨j, rfl, by omega⟩
set_option maxRecDepth 100000 in
theorem bldC_nil {B : Nat} {v : Value} : Tri Tryd.prog 60 [ptr B 0] H (.blk B (.cells #[.pointer none, v] 105 (0, 0)) :: O) (fun r H' O' => .tuple #[] = r ∧ .blk B (.cells #[ptr B 0, v] 105 (0, 0)) :: O = O') := by
 obtain ⟨j, hj, hj0⟩ := infT
 intro w hs
 refine wp_of Tryd.func60 rfl rfl rfl ?_ hs
 clear hs w
 refine Wp.seq ?_
 refine Wp.region ?_
 refine Seg.op (OpT.move rfl) rfl ?_
 refine Seg.op (OpT.nilCheck rfl) rfl ?_
 refine Seg.op (OpT.fld (o' := 0) fl105_0 rfl rfl) rfl ?_
 refine Seg.op (OpT.ldBlk (i := 0) (v := .pointer none) Tryd.underlying102 rfl rfl rfl rfl) rfl ?_
 refine Seg.op (OpT.eqNil Tryd.underlying102 hj rfl rfl) rfl ?_
 refine Seg.nil ?_
 refine At.then_n ?_
 refine Wp.condT rfl ?_
 refine Wp.region ?_
 refine Seg.op (OpT.move rfl) rfl ?_
 refine Seg.op (OpT.move rfl) rfl ?_
 refine Seg.op (OpT.toUnsafe (i := 0) Tryd.underlying102 Tryd.underlying137 hj hj0 rfl rfl (Nat.le_of_ble_eq_true rfl)) rfl ?_
 refine Seg.op (OpT.noEscape Tryd.func81 (by kernel_rfl) (by kernel_rfl) (by kernel_rfl) (by kernel_rfl) rfl) rfl ?_
 refine Seg.op (OpT.ofUnsafe (i := 0) Tryd.underlying137 Tryd.underlying102 hj rfl rfl (by kernel_rfl)) rfl ?_
 refine Seg.op (OpT.nilCheck rfl) rfl ?_
 refine Seg.op (OpT.fld (o' := 0) fl105_0 rfl rfl) rfl ?_
 refine Seg.stBlk1 (i := 0) rfl rfl rfl ti102 rfl (Nat.le_of_ble_eq_true rfl) ?_
 refine Seg.nil ?_
 exact At.res0n rfl (fun w hs => ⟨_, _, _, rfl, Hp.le.refl _, hs, rfl, rfl⟩)
set_option maxRecDepth 100000 in
theorem bldC_self {B : Nat} {v : Value} : Tri Tryd.prog 60 [ptr B 0] H (.blk B (.cells #[ptr B 0, v] 105 (0, 0)) :: O) (fun r H' O' => .tuple #[] = r ∧ .blk B (.cells #[ptr B 0, v] 105 (0, 0)) :: O = O') := by
 obtain ⟨j, hj, hj0⟩ := infT
 intro w hs
 refine wp_of Tryd.func60 rfl rfl rfl ?_ hs
 clear hs w
 refine Wp.seq ?_
 refine Wp.region ?_
 refine Seg.op (OpT.move rfl) rfl ?_
 refine Seg.op (OpT.nilCheck rfl) rfl ?_
 refine Seg.op (OpT.fld (o' := 0) fl105_0 rfl rfl) rfl ?_
 refine Seg.op (OpT.ldBlk (i := 0) (v := ptr B 0) Tryd.underlying102 rfl rfl rfl rfl) rfl ?_
 refine Seg.op (OpT.eqNilS Tryd.underlying102 hj rfl rfl) rfl ?_
 refine Seg.nil ?_
 refine At.then_n ?_
 refine Wp.condF rfl ?_
 refine Wp.seq ?_
 refine Wp.region ?_
 refine Seg.op (OpT.move rfl) rfl ?_
 refine Seg.op (OpT.nilCheck rfl) rfl ?_
 refine Seg.op (OpT.fld (o' := 0) fl105_0 rfl rfl) rfl ?_
 refine Seg.op (OpT.ldBlk (i := 0) (v := ptr B 0) Tryd.underlying102 rfl rfl rfl rfl) rfl ?_
 refine Seg.op (OpT.move rfl) rfl ?_
 refine Seg.op (OpT.neSame Tryd.underlying102 hj rfl rfl) rfl ?_
 refine Seg.nil ?_
 refine At.then_n ?_
 refine Wp.condF rfl ?_
 refine Wp.skip ?_
 exact At.res0n rfl (fun w hs => ⟨_, _, _, rfl, Hp.le.refl _, hs, rfl, rfl⟩)
theorem bldC {B : Nat} {a v : Value} (ha : a = .pointer none ∨ a = ptr B 0) : Tri Tryd.prog 60 [ptr B 0] H (.blk B (.cells #[a, v] 105 (0, 0)) :: O) (fun r H' O' => .tuple #[] = r ∧ .blk B (.cells #[ptr B 0, v] 105 (0, 0)) :: O = O') := by
  rcases ha with rfl | rfl
  · exact bldC_nil
  · exact bldC_self
set_option maxRecDepth 100000 in
theorem bldW {B : Nat} {a v : Value} {l s : Str} {xs : List Value} (ha : a = .pointer none ∨ a = ptr B 0) (hL : LayL cBy H l xs) (hv : v = .slice none 0 0 ∨ l ≠ []) (hb : l.length + s.length ≤ capN) :
    Tri Tryd.prog 49 [ptr B 0, sv s] H (.blk B (.cells #[a, v] 105 (0, 0)) :: .row v 5 1 l.length xs :: O) (fun r H' O' => ∃ v' xs', .tuple #[.int .i64 ((s.length : Nat) : Int), .nilIface] = r ∧ (v' = .slice none 0 0 ∨ l ++ s ≠ []) ∧ LayL cBy H' (l ++ s) xs' ∧ .blk B (.cells #[ptr B 0, v'] 105 (0, 0)) :: .row v' 5 1 (l ++ s).length xs' :: O = O') := by
 intro w hs
 refine wp_of Tryd.func49 rfl rfl rfl ?_ hs
 clear hs w
 refine Wp.seq ?_
 refine Wp.region ?_
 refine Seg.op (OpT.assign rfl) rfl ?_
 refine Seg.op (OpT.assign rfl) rfl ?_
 refine Seg.nil ?_
 refine At.then_n ?_
 refine Wp.seq ?_
 refine Wp.region ?_
 refine Seg.op (OpT.move rfl) rfl ?_
 refine Seg.opS (OpS.call ent60 rfl (bldC ha)) rfl ?_
 rintro _ H1 _ hl1 ⟨rfl, rfl⟩
 refine Seg.nil ?_
 refine At.then_n ?_
 refine Wp.seq ?_
 refine Wp.region ?_
 refine Seg.op (OpT.move rfl) rfl ?_
 refine Seg.op (OpT.move rfl) rfl ?_
 refine Seg.op (OpT.nilCheck rfl) rfl ?_
 refine Seg.op (OpT.fld (o' := 1) fl105_1 rfl rfl) rfl ?_
 refine Seg.op (OpT.ldBlk (i := 0) (v := v) Tryd.underlying103 rfl rfl rfl rfl) rfl ?_
 refine Seg.op (OpT.move rfl) rfl ?_
 refine Seg.appStr 1 Tryd.underlying103 Tryd.underlying9 ti5 rfl rfl rfl (hL.mono hl1) hv hb rfl fun v' xs' hv' hL' => ?_
 refine Seg.op (OpT.nilCheck rfl) rfl ?_
 refine Seg.op (OpT.fld (o' := 1) fl105_1 rfl rfl) rfl ?_
 refine Seg.rowOne (i := 1) rfl fun h1 => ?_
 refine Seg.stBlk1 (i := 0) rfl rfl h1 ti103 rfl (Nat.le_of_ble_eq_true rfl) ?_
 refine Seg.nil ?_
 refine At.then_n ?_
 refine Wp.seq ?_
 refine Wp.region ?_
 refine Seg.op (OpT.move rfl) rfl ?_
 refine Seg.op (OpT.lenS Tryd.underlying9 rfl) rfl ?_
 refine Seg.op (OpT.assign rfl) rfl ?_
 refine Seg.op (OpT.assign rfl) rfl ?_
 refine Seg.nil ?_
 refine At.then_n ?_
 refine Wp.ret ?_
 exact At.res2 rfl (RV.tmp rfl) (RV.tmp rfl) (fun w hs => ⟨_, _, _, rfl, hl1, hs, v', xs', rfl, hv', hL', rfl⟩)
set_option maxRecDepth 100000 in
theorem bldS_nil {B : Nat} {a : Value} : Tri Tryd.prog 51 [ptr B 0] H (.blk B (.cells #[a, .slice none 0 0] 105 (0, 0)) :: O) (fun r H' O' => sv [] = r ∧ O = O') := by
 intro w hs
 refine wp_of Tryd.func51 rfl rfl rfl ?_ hs
 clear hs w
 refine Wp.seq ?_
 refine Wp.region ?_
 refine Seg.op (OpT.assign rfl) rfl ?_
 refine Seg.nil ?_
 refine At.then_n ?_
 refine Wp.seq ?_
 refine Wp.drawE 12 follows rfl (by kernel_rfl) ?_
 refine SegL.opE (OpT.move rfl) rfl ?_
 refine SegL.opE (OpT.nilCheck rfl) rfl ?_
 refine SegL.opE (OpT.fld (o' := 1) fl105_1 rfl rfl) rfl ?_
 refine SegL.opE (OpT.ldBlk (i := 0) (v := .slice none 0 0) Tryd.underlying103 rfl rfl rfl rfl) rfl ?_
 refine SegL.opE (OpT.sliceDataNil rfl) rfl ?_
 refine SegL.opE (OpT.move rfl) rfl ?_
 refine SegL.opE (OpT.nilCheck rfl) rfl ?_
 refine SegL.opE (OpT.fld (o' := 1) fl105_1 rfl rfl) rfl ?_
 refine SegL.opE (OpT.ldBlk (i := 0) (v := .slice none 0 0) Tryd.underlying103 rfl rfl rfl rfl) rfl ?_
 refine SegL.opE (OpT.len Tryd.underlying103 rfl (.inl ⟨rfl, rfl⟩)) rfl ?_
 refine SegL.opE (OpT.unsafeStringNil rfl rfl) rfl ?_
 refine SegL.opE (OpT.assign rfl) rfl ?_
 refine SegL.doneE ?_
 refine EndL.is (t := 2) rfl ?_
 refine EndL.seg ?_
 refine Seg.nil ?_
 refine At.then_n ?_
 refine Wp.ret ?_
 exact At.res1 rfl (RV.tmp rfl) (fun w hs => ⟨_, _, _, rfl, Hp.le.refl _, hs.dropN 1, rfl, rfl⟩)
set_option maxRecDepth 100000 in
theorem bldS_some {B : Nat} {a v : Value} {l : Str} {xs : List Value} (hL : LayL cBy H l xs) (h0 : l ≠ []) : Tri Tryd.prog 51 [ptr B 0] H (.blk B (.cells #[a, v] 105 (0, 0)) :: .row v 5 1 l.length xs :: O) (fun r H' O' => sv l = r ∧ O = O') := by
 have hpos : 0 < l.length := List.length_pos_iff.2 h0
 intro w hs
 refine wp_of Tryd.func51 rfl rfl rfl ?_ hs
 clear hs w
 refine Wp.seq ?_
 refine Wp.region ?_
 refine Seg.op (OpT.assign rfl) rfl ?_
 refine Seg.nil ?_
 refine At.then_n ?_
 refine Wp.seq ?_
 refine SegO.runK 2 [⟨[], [], []⟩, ⟨[], [], []⟩, ⟨[], [], []⟩, ⟨[0], [], []⟩, ⟨[1], [], []⟩, ⟨[], [], []⟩, ⟨[], [], []⟩, ⟨[], [], []⟩, ⟨[0], [], []⟩, ⟨[1], [], []⟩, ⟨[], [1], []⟩, ⟨[], [], []⟩] follows rfl (by kernel_rfl) ?_
 refine SegO.op (val := fun _ => ptr B 0) rfl rfl (fun _ => rfl) (fun _ p _ hx hf hy => OpT.move rfl) rfl ?_
 refine SegO.op (val := fun _ => ptr B 0) rfl rfl (fun _ => rfl) (fun _ p _ hx hf hy => OpT.nilCheck rfl) rfl ?_
 refine SegO.op (val := fun _ => ptr B 1) rfl rfl (fun _ => rfl) (fun _ p _ hx hf hy => OpT.fld (o' := 1) fl105_1 rfl rfl) rfl ?_
 refine SegO.op (val := fun _ => v) rfl rfl (fun _ => rfl) (fun _ p _ hx hf hy => OpT.ldBlk (i := 0) (v := v) Tryd.underlying103 rfl rfl (hy 0 _ rfl rfl) rfl) rfl ?_
 refine SegO.op (val := fun _ => elemPtr v 0) rfl rfl (fun _ => rfl) (fun _ p _ hx hf hy => OpT.sliceData (i := 1) rfl (hy 1 _ rfl rfl) hpos) rfl ?_
 refine SegO.op (val := fun _ => ptr B 0) rfl rfl (fun _ => rfl) (fun _ p _ hx hf hy => OpT.move rfl) rfl ?_
 refine SegO.op (val := fun _ => ptr B 0) rfl rfl (fun _ => rfl) (fun _ p _ hx hf hy => OpT.nilCheck rfl) rfl ?_
 refine SegO.op (val := fun _ => ptr B 1) rfl rfl (fun _ => rfl) (fun _ p _ hx hf hy => OpT.fld (o' := 1) fl105_1 rfl rfl) rfl ?_
 refine SegO.op (val := fun _ => v) rfl rfl (fun _ => rfl) (fun _ p _ hx hf hy => OpT.ldBlk (i := 0) (v := v) Tryd.underlying103 rfl rfl (hy 0 _ rfl rfl) rfl) rfl ?_
 refine SegO.op (val := fun _ => .int .i64 ((l.length : Nat) : Int)) rfl rfl (fun _ => rfl) (fun _ p _ hx hf hy => OpT.lenRow (i := 1) Tryd.underlying103 rfl (hy 1 _ rfl rfl)) rfl ?_
 refine SegO.op1 (val := fun _ => sv l) (res := fun _ => .emp) 1 rfl rfl (fun _ => rfl) (fun _ => rfl) (fun H' p _ hx hf hy => (OpS.unsafeString (l := l) Tryd.underlying120 (by kernel_rfl) rfl rfl (hy 1 _ rfl rfl) (hL.mono hx) h0).mono (by rintro u HH OO ⟨h1, h2, h3⟩; exact ⟨h1, h2, h3.symm⟩)) rfl ?_
 refine SegO.op (val := fun _ => sv l) rfl rfl (fun _ => rfl) (fun _ p _ hx hf hy => OpT.assign rfl) rfl ?_
 refine SegO.done fun H1 p hl1 hF => ?_
 refine At.sub (L' := [(2, sv l)]) (.cons rfl .nil) ?_
 refine At.then_n ?_
 refine Wp.ret ?_
 exact At.res1 rfl (RV.tmp (v := sv l) rfl) (fun w hs => ⟨_, _, _, rfl, hl1, hs.dropN 2, rfl, rfl⟩)
theorem bldS {B : Nat} {a v : Value} {l : Str} {xs : List Value} (hL : LayL cBy H l xs) (hv : v = .slice none 0 0 ∨ l ≠ []) (hb : l = [] → v = .slice none 0 0) : Tri Tryd.prog 51 [ptr B 0] H (.blk B (.cells #[a, v] 105 (0, 0)) :: .row v 5 1 l.length xs :: O) (fun r H' O' => sv l = r ∧ O = O') := by
  by_cases h0 : l = []
  · subst h0
    rw [hb rfl]
    intro w hs
    have hs' := hs.permK [0] 2 rfl rfl rfl
    exact bldS_nil (a := a) w hs'
  · exact bldS_some hL h0

theorem bldW2 {B : Nat} {a v : Value} {l s : Str} {xs : List Value} (h : BldOk H B a v l xs) (hb : l.length + s.length ≤ capN) :
    Tri Tryd.prog 49 [ptr B 0, sv s] H (.blk B (.cells #[a, v] 105 (0, 0)) :: .row v 5 1 l.length xs :: O) (fun r H' O' => ∃ v' xs', .tuple #[.int .i64 ((s.length : Nat) : Int), .nilIface] = r ∧ BldOk H' B (ptr B 0) v' (l ++ s) xs' ∧ .blk B (.cells #[ptr B 0, v'] 105 (0, 0)) :: .row v' 5 1 (l ++ s).length xs' :: O = O') :=
  (bldW h.a h.L h.v hb).mono fun _ _ _ _ ⟨v', xs', h1, h2, h3, h4⟩ => ⟨v', xs', h1, ⟨.inr rfl, h2, h3⟩, h4⟩
theorem bldS2 {B : Nat} {a v : Value} {l : Str} {xs : List Value} (h : BldOk H B a v l xs) : Tri Tryd.prog 51 [ptr B 0] H (.blk B (.cells #[a, v] 105 (0, 0)) :: .row v 5 1 l.length xs :: O) (fun r H' O' => sv l = r ∧ O = O') :=
  bldS h.L h.v (fun h0 => h.v.resolve_right (fun k => k h0))

theorem itoaT {n : Int} (hG : LaidH Tryd.prog H) (hn : F64 n) : TriV Tryd.prog 50 [.int .i64 n] H O (sv (Lib.itoa n)) :=
  TriV.itoa (fun n h0 h1 w ht => Go.Proofs.Tryd.strconv_Itoa n h0 h1 w ht) hG hn

theorem sortT {l : List Int} {v : Value} {e : TypeId} {xs : List Value} (hL : LayL cI64 H l xs) (hn : l.length ≤ capN) :
    Tri Tryd.prog 43 [v] H (.row v e 1 l.length xs :: O) (fun r H' O' => ∃ xs', .tuple #[] = r ∧ LayL cI64 H' (GK.sortI l) xs' ∧ .row v e 1 (GK.sortI l).length xs' :: O = O') :=
  Tri.sortI (fun blk off cap zs w h1 h2 h3 => Go.Proofs.Tryd.slices_Sort_int blk off cap zs w h1 h2 h3) (fun p cap w => Go.Proofs.Any.slices_Sort_int_none Go.Proofs.Tryd.lays189 p cap w) hL hn

set_option maxHeartbeats 1000000 in
theorem closureE (a b c a' b' c' : Int) (h0 : 0 ≤ a) (h1 : a ≤ 255) (h2 : 0 ≤ a') (h3 : a' ≤ 255) (W : World) : Calls Tryd.prog 48 #[.agg #[.int .u8 a, .int .u8 b, .int .i64 c], .agg #[.int .u8 a', .int .u8 b', .int .i64 c']] W fun e w' => e = .returned (.int .i64 (a - a')) ∧ ∃ q os', w' = grow (W.drewN q) os' := by
  have e1 : IntKind.i64.wrap a = a := by simp [IntKind.wrap, IntKind.bits, IntKind.signed]; omega
  have e2 : IntKind.i64.wrap a' = a' := by simp [IntKind.wrap, IntKind.bits, IntKind.signed]; omega
  have e3 : IntKind.i64.wrap (a - a') = a - a' := by simp [IntKind.wrap, IntKind.bits, IntKind.signed]; omega
  go_enter Tryd.func48, Tryd.ntmps48
  go_wp2
  go_ret
  exact ⟨by simp [e1, e2, e3], 0, _, by rw [alloc_eq_grow, alloc_eq_grow, grow_grow]; rfl⟩
theorem sortFT {l : List (Int × Int × Int)} {v : Value} {e : TypeId} {xs : List Value} (hL : LayL (cP cU8 (cP cU8 cI64)) H l xs) (hok : CmpOk cmpLo l) (hn : l.length ≤ capN) :
    Tri Tryd.prog 47 [v, .func (.func 48) #[] #[]] H (.row v e 3 l.length xs :: O) (fun r H' O' => ∃ xs', .tuple #[] = r ∧ LayL (cP cU8 (cP cU8 cI64)) H' (sortF cmpLo l) xs' ∧ .row v e 3 (sortF cmpLo l).length xs' :: O = O') :=
  Tri.sortFn (c := cP cU8 (cP cU8 cI64)) Tryd.sortE Tryd.isAgg50 Tryd.sizeOf50 (enters_of Tryd.func48 (by kernel_rfl) rfl) (fun H x y r cs1 cs2 h1 h2 hr W => by
    obtain ⟨_, _, rfl, ⟨rfl, a1, a2⟩, _, _, rfl, ⟨rfl, a3, a4⟩, rfl⟩ := h1
    obtain ⟨_, _, rfl, ⟨rfl, b1, b2⟩, _, _, rfl, ⟨rfl, b3, b4⟩, rfl⟩ := h2
    cases hr
    exact closureE _ _ _ _ _ _ a1 a2 b1 b2 W) hL hok hn
end Go.Proofs.YtjmbmodmepdmjaaDoor
