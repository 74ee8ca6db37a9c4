/- Part 3 of the texts of this claim: what its theorem leans on. -/
import Derived.Test.YtjmbmodmepdmjaaGreatDoorZAutomatonMinimal2
import Derived.Shelf.Slices.In.SortNone
namespace Go.Proofs.YtjmbmodmepdmjaaGreatDoor
open Go.GK Go.Proofs Go.Shelf Go.Sort
variable {H : Hp} {O : List Res}
theorem infT : ∃ j, Tryz.prog.info? 123 = some j ∧ j.size ≠ 0 := by
  have h : (Tryz.prog.info? 123).map (fun j => j.size) = some 2 := by kernel_rfl
  cases hj : Tryz.prog.info? 123 with
  | none => rw [hj] at h; cases h
  | some j => rw [hj] at h; simp at h; exact ⟨j, rfl, by omega⟩
set_option maxRecDepth 100000 in
theorem bldC_nil {B : Nat} {v : Value} : Tri Tryz.prog 83 [ptr B 0] H (.blk B (.cells #[.pointer none, v] 123 (0, 0)) :: O) (fun r H' O' => .tuple #[] = r ∧ .blk B (.cells #[ptr B 0, v] 123 (0, 0)) :: O = O') := by
 obtain ⟨j, hj, hj0⟩ := infT
 intro w hs
 refine wp_of Tryz.func83 rfl rfl rfl ?_ hs
 clear hs w
 refine Wp.seq ?_
 refine Wp.region ?_
 refine Seg.op (OpT.move rfl) rfl ?_
 refine Seg.op (OpT.nilCheck rfl) rfl ?_
 refine Seg.op (OpT.fld (o' := 0) fl123_0 rfl rfl) rfl ?_
 refine Seg.op (OpT.ldBlk (i := 0) (v := .pointer none) Tryz.underlying120 rfl rfl rfl rfl) rfl ?_
 refine Seg.op (OpT.eqNil Tryz.underlying120 hj rfl rfl) rfl ?_
 refine Seg.nil ?_
 refine At.then_n ?_
 refine Wp.condT rfl ?_
 refine Wp.region ?_
 refine Seg.op (OpT.move rfl) rfl ?_
 refine Seg.op (OpT.move rfl) rfl ?_
 refine Seg.op (OpT.toUnsafe (i := 0) Tryz.underlying120 Tryz.underlying156 hj hj0 rfl rfl (Nat.le_of_ble_eq_true rfl)) rfl ?_
 refine Seg.op (OpT.noEscape Tryz.func104 (by kernel_rfl) (by kernel_rfl) (by kernel_rfl) (by kernel_rfl) rfl) rfl ?_
 refine Seg.op (OpT.ofUnsafe (i := 0) Tryz.underlying156 Tryz.underlying120 hj rfl rfl (by kernel_rfl)) rfl ?_
 refine Seg.op (OpT.nilCheck rfl) rfl ?_
 refine Seg.op (OpT.fld (o' := 0) fl123_0 rfl rfl) rfl ?_
 refine Seg.stBlk1 (i := 0) rfl rfl rfl ti120 rfl (Nat.le_of_ble_eq_true rfl) ?_
 refine Seg.nil ?_
 exact At.res0n rfl (fun w hs => ⟨_, _, _, rfl, Hp.le.refl _, hs, rfl, rfl⟩)
set_option maxRecDepth 100000 in
theorem bldC_self {B : Nat} {v : Value} : Tri Tryz.prog 83 [ptr B 0] H (.blk B (.cells #[ptr B 0, v] 123 (0, 0)) :: O) (fun r H' O' => .tuple #[] = r ∧ .blk B (.cells #[ptr B 0, v] 123 (0, 0)) :: O = O') := by
 obtain ⟨j, hj, hj0⟩ := infT
 intro w hs
 refine wp_of Tryz.func83 rfl rfl rfl ?_ hs
 clear hs w
 refine Wp.seq ?_
 refine Wp.region ?_
 refine Seg.op (OpT.move rfl) rfl ?_
 refine Seg.op (OpT.nilCheck rfl) rfl ?_
 refine Seg.op (OpT.fld (o' := 0) fl123_0 rfl rfl) rfl ?_
 refine Seg.op (OpT.ldBlk (i := 0) (v := ptr B 0) Tryz.underlying120 rfl rfl rfl rfl) rfl ?_
 refine Seg.op (OpT.eqNilS Tryz.underlying120 hj rfl rfl) rfl ?_
 refine Seg.nil ?_
 refine At.then_n ?_
 refine Wp.condF rfl ?_
 refine Wp.seq ?_
 refine Wp.region ?_
 refine Seg.op (OpT.move rfl) rfl ?_
 refine Seg.op (OpT.nilCheck rfl) rfl ?_
 refine Seg.op (OpT.fld (o' := 0) fl123_0 rfl rfl) rfl ?_
 refine Seg.op (OpT.ldBlk (i := 0) (v := ptr B 0) Tryz.underlying120 rfl rfl rfl rfl) rfl ?_
 refine Seg.op (OpT.move rfl) rfl ?_
 refine Seg.op (OpT.neSame Tryz.underlying120 hj rfl rfl) rfl ?_
 refine Seg.nil ?_
 refine At.then_n ?_
 refine Wp.condF rfl ?_
 refine Wp.skip ?_
 exact At.res0n rfl (fun w hs => ⟨_, _, _, rfl, Hp.le.refl _, hs, rfl, rfl⟩)
theorem bldC {B : Nat} {a v : Value} (ha : a = .pointer none ∨ a = ptr B 0) : Tri Tryz.prog 83 [ptr B 0] H (.blk B (.cells #[a, v] 123 (0, 0)) :: O) (fun r H' O' => .tuple #[] = r ∧ .blk B (.cells #[ptr B 0, v] 123 (0, 0)) :: O = O') := by
  rcases ha with rfl | rfl
  · exact bldC_nil
  · exact bldC_self
set_option maxRecDepth 100000 in
theorem bldW {B : Nat} {a v : Value} {l s : Str} {xs : List Value} (ha : a = .pointer none ∨ a = ptr B 0) (hL : LayL cBy H l xs) (hv : v = .slice none 0 0 ∨ l ≠ []) (hb : l.length + s.length ≤ capN) :
    Tri Tryz.prog 70 [ptr B 0, sv s] H (.blk B (.cells #[a, v] 123 (0, 0)) :: .row v 5 1 l.length xs :: O) (fun r H' O' => ∃ v' xs', .tuple #[.int .i64 ((s.length : Nat) : Int), .nilIface] = r ∧ (v' = .slice none 0 0 ∨ l ++ s ≠ []) ∧ LayL cBy H' (l ++ s) xs' ∧ .blk B (.cells #[ptr B 0, v'] 123 (0, 0)) :: .row v' 5 1 (l ++ s).length xs' :: O = O') := by
 intro w hs
 refine wp_of Tryz.func70 rfl rfl rfl ?_ hs
 clear hs w
 refine Wp.seq ?_
 refine Wp.region ?_
 refine Seg.op (OpT.assign rfl) rfl ?_
 refine Seg.op (OpT.assign rfl) rfl ?_
 refine Seg.nil ?_
 refine At.then_n ?_
 refine Wp.seq ?_
 refine Wp.region ?_
 refine Seg.op (OpT.move rfl) rfl ?_
 refine Seg.opS (OpS.call ent83 rfl (bldC ha)) rfl ?_
 rintro _ H1 _ hl1 ⟨rfl, rfl⟩
 refine Seg.nil ?_
 refine At.then_n ?_
 refine Wp.seq ?_
 refine Wp.region ?_
 refine Seg.op (OpT.move rfl) rfl ?_
 refine Seg.op (OpT.move rfl) rfl ?_
 refine Seg.op (OpT.nilCheck rfl) rfl ?_
 refine Seg.op (OpT.fld (o' := 1) fl123_1 rfl rfl) rfl ?_
 refine Seg.op (OpT.ldBlk (i := 0) (v := v) Tryz.underlying121 rfl rfl rfl rfl) rfl ?_
 refine Seg.op (OpT.move rfl) rfl ?_
 refine Seg.appStr 1 Tryz.underlying121 Tryz.underlying9 ti5 rfl rfl rfl (hL.mono hl1) hv hb rfl fun v' xs' hv' hL' => ?_
 refine Seg.op (OpT.nilCheck rfl) rfl ?_
 refine Seg.op (OpT.fld (o' := 1) fl123_1 rfl rfl) rfl ?_
 refine Seg.rowOne (i := 1) rfl fun h1 => ?_
 refine Seg.stBlk1 (i := 0) rfl rfl h1 ti121 rfl (Nat.le_of_ble_eq_true rfl) ?_
 refine Seg.nil ?_
 refine At.then_n ?_
 refine Wp.seq ?_
 refine Wp.region ?_
 refine Seg.op (OpT.move rfl) rfl ?_
 refine Seg.op (OpT.lenS Tryz.underlying9 rfl) rfl ?_
 refine Seg.op (OpT.assign rfl) rfl ?_
 refine Seg.op (OpT.assign rfl) rfl ?_
 refine Seg.nil ?_
 refine At.then_n ?_
 refine Wp.ret ?_
 exact At.res2 rfl (RV.tmp rfl) (RV.tmp rfl) (fun w hs => ⟨_, _, _, rfl, hl1, hs, v', xs', rfl, hv', hL', rfl⟩)
set_option maxRecDepth 100000 in
theorem bldS_nil {B : Nat} {a : Value} : Tri Tryz.prog 72 [ptr B 0] H (.blk B (.cells #[a, .slice none 0 0] 123 (0, 0)) :: O) (fun r H' O' => sv [] = r ∧ O = O') := by
 intro w hs
 refine wp_of Tryz.func72 rfl rfl rfl ?_ hs
 clear hs w
 refine Wp.seq ?_
 refine Wp.region ?_
 refine Seg.op (OpT.assign rfl) rfl ?_
 refine Seg.nil ?_
 refine At.then_n ?_
 refine Wp.seq ?_
 refine Wp.drawE 12 follows rfl (by kernel_rfl) ?_
 refine SegL.opE (OpT.move rfl) rfl ?_
 refine SegL.opE (OpT.nilCheck rfl) rfl ?_
 refine SegL.opE (OpT.fld (o' := 1) fl123_1 rfl rfl) rfl ?_
 refine SegL.opE (OpT.ldBlk (i := 0) (v := .slice none 0 0) Tryz.underlying121 rfl rfl rfl rfl) rfl ?_
 refine SegL.opE (OpT.sliceDataNil rfl) rfl ?_
 refine SegL.opE (OpT.move rfl) rfl ?_
 refine SegL.opE (OpT.nilCheck rfl) rfl ?_
 refine SegL.opE (OpT.fld (o' := 1) fl123_1 rfl rfl) rfl ?_
 refine SegL.opE (OpT.ldBlk (i := 0) (v := .slice none 0 0) Tryz.underlying121 rfl rfl rfl rfl) rfl ?_
 refine SegL.opE (OpT.len Tryz.underlying121 rfl (.inl ⟨rfl, rfl⟩)) rfl ?_
 refine SegL.opE (OpT.unsafeStringNil rfl rfl) rfl ?_
 refine SegL.opE (OpT.assign rfl) rfl ?_
 refine SegL.doneE ?_
 refine EndL.is (t := 2) rfl ?_
 refine EndL.seg ?_
 refine Seg.nil ?_
 refine At.then_n ?_
 refine Wp.ret ?_
 exact At.res1 rfl (RV.tmp rfl) (fun w hs => ⟨_, _, _, rfl, Hp.le.refl _, hs.dropN 1, rfl, rfl⟩)
set_option maxRecDepth 100000 in
theorem bldS_some {B : Nat} {a v : Value} {l : Str} {xs : List Value} (hL : LayL cBy H l xs) (h0 : l ≠ []) : Tri Tryz.prog 72 [ptr B 0] H (.blk B (.cells #[a, v] 123 (0, 0)) :: .row v 5 1 l.length xs :: O) (fun r H' O' => sv l = r ∧ O = O') := by
 have hpos : 0 < l.length := List.length_pos_iff.2 h0
 intro w hs
 refine wp_of Tryz.func72 rfl rfl rfl ?_ hs
 clear hs w
 refine Wp.seq ?_
 refine Wp.region ?_
 refine Seg.op (OpT.assign rfl) rfl ?_
 refine Seg.nil ?_
 refine At.then_n ?_
 refine Wp.seq ?_
 refine SegO.runK 2 [⟨[], [], []⟩, ⟨[], [], []⟩, ⟨[], [], []⟩, ⟨[0], [], []⟩, ⟨[1], [], []⟩, ⟨[], [], []⟩, ⟨[], [], []⟩, ⟨[], [], []⟩, ⟨[0], [], []⟩, ⟨[1], [], []⟩, ⟨[], [1], []⟩, ⟨[], [], []⟩] follows rfl (by kernel_rfl) ?_
 refine SegO.op (val := fun _ => ptr B 0) rfl rfl (fun _ => rfl) (fun _ p _ hx hf hy => OpT.move rfl) rfl ?_
 refine SegO.op (val := fun _ => ptr B 0) rfl rfl (fun _ => rfl) (fun _ p _ hx hf hy => OpT.nilCheck rfl) rfl ?_
 refine SegO.op (val := fun _ => ptr B 1) rfl rfl (fun _ => rfl) (fun _ p _ hx hf hy => OpT.fld (o' := 1) fl123_1 rfl rfl) rfl ?_
 refine SegO.op (val := fun _ => v) rfl rfl (fun _ => rfl) (fun _ p _ hx hf hy => OpT.ldBlk (i := 0) (v := v) Tryz.underlying121 rfl rfl (hy 0 _ rfl rfl) rfl) rfl ?_
 refine SegO.op (val := fun _ => elemPtr v 0) rfl rfl (fun _ => rfl) (fun _ p _ hx hf hy => OpT.sliceData (i := 1) rfl (hy 1 _ rfl rfl) hpos) rfl ?_
 refine SegO.op (val := fun _ => ptr B 0) rfl rfl (fun _ => rfl) (fun _ p _ hx hf hy => OpT.move rfl) rfl ?_
 refine SegO.op (val := fun _ => ptr B 0) rfl rfl (fun _ => rfl) (fun _ p _ hx hf hy => OpT.nilCheck rfl) rfl ?_
 refine SegO.op (val := fun _ => ptr B 1) rfl rfl (fun _ => rfl) (fun _ p _ hx hf hy => OpT.fld (o' := 1) fl123_1 rfl rfl) rfl ?_
 refine SegO.op (val := fun _ => v) rfl rfl (fun _ => rfl) (fun _ p _ hx hf hy => OpT.ldBlk (i := 0) (v := v) Tryz.underlying121 rfl rfl (hy 0 _ rfl rfl) rfl) rfl ?_
 refine SegO.op (val := fun _ => .int .i64 ((l.length : Nat) : Int)) rfl rfl (fun _ => rfl) (fun _ p _ hx hf hy => OpT.lenRow (i := 1) Tryz.underlying121 rfl (hy 1 _ rfl rfl)) rfl ?_
 refine SegO.op1 (val := fun _ => sv l) (res := fun _ => .emp) 1 rfl rfl (fun _ => rfl) (fun _ => rfl) (fun H' p _ hx hf hy => (OpS.unsafeString (l := l) Tryz.underlying139 (by kernel_rfl) rfl rfl (hy 1 _ rfl rfl) (hL.mono hx) h0).mono (by rintro u HH OO ⟨h1, h2, h3⟩; exact ⟨h1, h2, h3.symm⟩)) rfl ?_
 refine SegO.op (val := fun _ => sv l) rfl rfl (fun _ => rfl) (fun _ p _ hx hf hy => OpT.assign rfl) rfl ?_
 refine SegO.done fun H1 p hl1 hF => ?_
 refine At.sub (L' := [(2, sv l)]) (.cons rfl .nil) ?_
 refine At.then_n ?_
 refine Wp.ret ?_
 exact At.res1 rfl (RV.tmp (v := sv l) rfl) (fun w hs => ⟨_, _, _, rfl, hl1, hs.dropN 2, rfl, rfl⟩)
theorem bldS {B : Nat} {a v : Value} {l : Str} {xs : List Value} (hL : LayL cBy H l xs) (hv : v = .slice none 0 0 ∨ l ≠ []) (hb : l = [] → v = .slice none 0 0) : Tri Tryz.prog 72 [ptr B 0] H (.blk B (.cells #[a, v] 123 (0, 0)) :: .row v 5 1 l.length xs :: O) (fun r H' O' => sv l = r ∧ O = O') := by
  by_cases h0 : l = []
  · subst h0
    rw [hb rfl]
    intro w hs
    have hs' := hs.permK [0] 2 rfl rfl rfl
    exact bldS_nil (a := a) w hs'
  · exact bldS_some hL h0
theorem bldW2 {B : Nat} {a v : Value} {l s : Str} {xs : List Value} (h : BldOk H B a v l xs) (hb : l.length + s.length ≤ capN) :
    Tri Tryz.prog 70 [ptr B 0, sv s] H (.blk B (.cells #[a, v] 123 (0, 0)) :: .row v 5 1 l.length xs :: O) (fun r H' O' => ∃ v' xs', .tuple #[.int .i64 ((s.length : Nat) : Int), .nilIface] = r ∧ BldOk H' B (ptr B 0) v' (l ++ s) xs' ∧ .blk B (.cells #[ptr B 0, v'] 123 (0, 0)) :: .row v' 5 1 (l ++ s).length xs' :: O = O') :=
  (bldW h.a h.L h.v hb).mono fun _ _ _ _ ⟨v', xs', h1, h2, h3, h4⟩ => ⟨v', xs', h1, ⟨.inr rfl, h2, h3⟩, h4⟩
theorem bldS2 {B : Nat} {a v : Value} {l : Str} {xs : List Value} (h : BldOk H B a v l xs) : Tri Tryz.prog 72 [ptr B 0] H (.blk B (.cells #[a, v] 123 (0, 0)) :: .row v 5 1 l.length xs :: O) (fun r H' O' => sv l = r ∧ O = O') :=
  bldS h.L h.v (fun h0 => h.v.resolve_right (fun k => k h0))
theorem itoaT {n : Int} (hG : LaidH Tryz.prog H) (hn : F64 n) : TriV Tryz.prog 71 [.int .i64 n] H O (sv (Lib.itoa n)) :=
  TriV.itoa (fun n h0 h1 w ht => Go.Proofs.Tryz.strconv_Itoa n h0 h1 w ht) hG hn
theorem sortT {l : List Int} {v : Value} {e : TypeId} {xs : List Value} (hL : LayL cI64 H l xs) (hn : l.length ≤ capN) :
    Tri Tryz.prog 59 [v] H (.row v e 1 l.length xs :: O) (fun r H' O' => ∃ xs', .tuple #[] = r ∧ LayL cI64 H' (GK.sortI l) xs' ∧ .row v e 1 (GK.sortI l).length xs' :: O = O') :=
  Tri.sortI (fun blk off cap zs w h1 h2 h3 => Go.Proofs.Tryz.slices_Sort_int blk off cap zs w h1 h2 h3) (fun p cap w => Go.Proofs.Any.slices_Sort_int_none Go.Proofs.Tryz.lays189 p cap w) hL hn
set_option maxHeartbeats 1000000 in
theorem closureE (a b c a' b' c' : Int) (h0 : 0 ≤ a) (h1 : a ≤ 255) (h2 : 0 ≤ a') (h3 : a' ≤ 255) (W : World) : Calls Tryz.prog 64 #[.agg #[.int .u8 a, .int .u8 b, .int .i64 c], .agg #[.int .u8 a', .int .u8 b', .int .i64 c']] W fun e w' => e = .returned (.int .i64 (a - a')) ∧ ∃ q os', w' = grow (W.drewN q) os' := by
  have e1 : IntKind.i64.wrap a = a := by simp [IntKind.wrap, IntKind.bits, IntKind.signed]; omega
  have e2 : IntKind.i64.wrap a' = a' := by simp [IntKind.wrap, IntKind.bits, IntKind.signed]; omega
  have e3 : IntKind.i64.wrap (a - a') = a - a' := by simp [IntKind.wrap, IntKind.bits, IntKind.signed]; omega
  go_enter Tryz.func64, Tryz.ntmps64
  go_wp2
  go_ret
  exact ⟨by simp [e1, e2, e3], 0, _, by rw [alloc_eq_grow, alloc_eq_grow, grow_grow]; rfl⟩
theorem sortFT {l : List (Int × Int × Int)} {v : Value} {e : TypeId} {xs : List Value} (hL : LayL (cP cU8 (cP cU8 cI64)) H l xs) (hok : CmpOk cmpLo l) (hn : l.length ≤ capN) :
    Tri Tryz.prog 63 [v, .func (.func 64) #[] #[]] H (.row v e 3 l.length xs :: O) (fun r H' O' => ∃ xs', .tuple #[] = r ∧ LayL (cP cU8 (cP cU8 cI64)) H' (sortF cmpLo l) xs' ∧ .row v e 3 (sortF cmpLo l).length xs' :: O = O') :=
  Tri.sortFn (c := cP cU8 (cP cU8 cI64)) Tryz.sortE Tryz.isAgg46 Tryz.sizeOf46 (enters_of Tryz.func64 (by kernel_rfl) rfl) (fun H x y r cs1 cs2 h1 h2 hr W => by
    obtain ⟨_, _, rfl, ⟨rfl, a1, a2⟩, _, _, rfl, ⟨rfl, a3, a4⟩, rfl⟩ := h1
    obtain ⟨_, _, rfl, ⟨rfl, b1, b2⟩, _, _, rfl, ⟨rfl, b3, b4⟩, rfl⟩ := h2
    cases hr
    exact closureE _ _ _ _ _ _ a1 a2 b1 b2 W) hL hok hn
end Go.Proofs.YtjmbmodmepdmjaaGreatDoor
namespace Go.Proofs.YtjmbmodmepdmjaaGreatDoor
open Go.GK
variable {H : Hp} {O : List Res}
set_option maxHeartbeats 4000000 in
theorem has_w (p : Nat → Bool) (b : Nat) (hb : b < 256) :
    TriV Tryz.prog 58 [(.agg (bcs p)), (.int .u8 (((b : Nat) : Int)))] H O (.bool (p b)) := by
  intro w hs
  refine wp_of Tryz.func58 rfl rfl rfl ?_ hs
  clear hs w
  refine Wp.seq ?_
  refine Wp.region ?_
  refine Seg.box (cs := bcs p) rfl rfl rfl fun B1 => ?_
  refine Seg.op (OpT.assign rfl) rfl ?_
  refine Seg.nil ?_
  refine At.then_n ?_
  refine Wp.seq ?_
  refine Wp.region ?_
  refine Seg.op (OpT.move rfl) rfl ?_
  refine Seg.op (OpT.quo rfl rfl (by omega) (by omega) (leu8 (by omega))) rfl ?_
  refine Seg.op (OpT.ixArr (off' := b / 64) Tryz.underlying34 ti32 rfl rfl (by omega) (by omega)) rfl ?_
  refine Seg.op (OpT.ldBlk (i := 0) (v := (w64 (word p (b / 64)))) Tryz.underlying32 rfl rfl rfl (bcs_get p _ (by omega))) rfl ?_
  refine Seg.op (OpT.move rfl) rfl ?_
  refine Seg.op (OpT.rem rfl rfl (by omega) (by omega)) rfl ?_
  refine Seg.op (OpT.shrW (n := b % 64) rfl rfl) rfl ?_
  refine Seg.op (OpT.andW (b := 1#64) rfl rfl) rfl ?_
  refine Seg.op (OpT.eqW (b := 1#64) rfl rfl) rfl ?_
  refine Seg.op (OpT.assign rfl) rfl ?_
  refine Seg.nil ?_
  refine At.then_n ?_
  refine Wp.ret ?_
  refine At.res1 rfl (RV.tmp (v := (.bool (decide ((((word p (b / 64)) >>> (b % 64)) &&& (1#64)) = (1#64))))) rfl) ?_
  exact fun w hs => ⟨congrArg (fun b => Ending.returned (.bool b)) (by rw [Bool.eq_iff_iff, decide_eq_true_iff]; exact has_bit p b), (hs.dropN 1).weaken (Hp.le.refl _)⟩
set_option maxHeartbeats 4000000 in
theorem of_w (lo hi : Nat) (h1 : lo < 256) (h2 : hi < 256) :
    TriV Tryz.prog 74 [(.int .u8 (((lo : Nat) : Int))), (.int .u8 (((hi : Nat) : Int)))] H O (bs (ofP lo hi)) := by
  intro w hs
  refine wp_of Tryz.func74 rfl rfl rfl ?_ hs
  clear hs w
  refine Wp.seq ?_
  refine Wp.region ?_
  refine Seg.alloc (cs := bcs (fun _ => false)) ti34 bcs_empty rfl fun Br => ?_
  refine Seg.nil ?_
  refine At.then_n ?_
  refine Wp.seq ?_
  refine Wp.region ?_
  refine Seg.alloc (cs := bcs (fun _ => false)) ti34 bcs_empty rfl fun Bs => ?_
  refine Seg.nil ?_
  refine At.then_n ?_
  refine Wp.seq ?_
  refine Wp.seq ?_
  refine Wp.region ?_
  refine Seg.op (OpT.move rfl) rfl ?_
  refine Seg.nil ?_
  refine At.then_n ?_
  refine Wp.block ?_
  refine Wp.loop (X := Nat) (fun k => [(7, (.int .i64 (((k : Nat) : Int)))), (0, (.int .u8 (((lo : Nat) : Int)))), (1, (.int .u8 (((hi : Nat) : Int)))), (4, (ptr Br (0))), (5, (ptr Bs (0)))]) (fun k => .blk Bs (.cells (bcs (ofTo lo hi k)) 34 (0, 0)) :: .blk Br (.cells (bcs (fun _ => false)) 34 (0, 0)) :: O) (fun k H' => k ≤ 256) (fun k => 256 - k) 0 ?_ ?_ ?_ ?_
  · exact (by omega)
  · exact .cons (rfl) (.cons (rfl) (.cons (rfl) (.cons (rfl) (.cons (rfl) (.nil)))))
  · exact (by rw [ofTo_zero])
  intro k H1 hle2 hi3
  have hi3 : k ≤ 256 := hi3
  refine Wp.seq ?_
  refine Wp.region ?_
  refine Seg.op (OpT.lss rfl rfl) rfl ?_
  refine Seg.nil ?_
  refine At.then_n ?_
  refine Wp.seq ?_
  refine Wp.cond (b := decide (((k : Nat) : Int) < 256)) rfl (fun hb4 => ?_) (fun hb4 => ?_)
  ·
    replace hb4 := of_decide_eq_true hb4
    refine Wp.skip ?_
    refine At.then_n ?_
    refine Wp.seq ?_
    refine Wp.block ?_
    refine Wp.seq ?_
    refine Wp.region ?_
    refine Seg.op (OpT.move rfl) rfl ?_
    refine Seg.op (OpT.assign rfl) rfl ?_
    refine Seg.nil ?_
    refine At.then_n ?_
    refine Wp.seq ?_
    refine Wp.region ?_
    refine Seg.op (OpT.move rfl) rfl ?_
    refine Seg.op (OpT.move rfl) rfl ?_
    refine Seg.op (OpT.conv Tryz.underlying5 Tryz.underlying3 rfl (fits64 (by omega))) rfl ?_
    refine Seg.op (OpT.geq rfl rfl) rfl ?_
    refine Seg.op (OpT.move rfl) rfl ?_
    refine Seg.split (t := 14) (b := decide (((lo : Nat) : Int) ≤ ((k : Nat) : Int))) rfl (fun hb5 => ?_) (fun hb5 => ?_)
    ·
      replace hb5 := of_decide_eq_true hb5
      refine Seg.opG rfl rfl (OpT.move rfl) rfl ?_
      refine Seg.opG rfl rfl (OpT.move rfl) rfl ?_
      refine Seg.opG rfl rfl (OpT.conv Tryz.underlying5 Tryz.underlying3 rfl (fits64 (by omega))) rfl ?_
      refine Seg.opG rfl rfl (OpT.leq rfl rfl) rfl ?_
      refine Seg.op (OpT.pickT rfl rfl) rfl ?_
      refine Seg.nil ?_
      refine At.then_n ?_
      refine Wp.cond (b := decide (((k : Nat) : Int) ≤ ((hi : Nat) : Int))) rfl (fun hb6 => ?_) (fun hb6 => ?_)
      ·
        replace hb6 := of_decide_eq_true hb6
        refine Wp.drawE 9 follows rfl (by kernel_rfl) ?_
        refine SegL.opE (OpT.move rfl) rfl ?_
        refine SegL.opE (OpT.quo rfl rfl (by omega) (by omega) (lei64 (by omega))) rfl ?_
        refine SegL.opE (OpT.ixArr (off' := k / 64) Tryz.underlying34 ti32 rfl rfl (by omega) (by omega)) rfl ?_
        refine SegL.opE (OpT.ldBlk (i := 0) (v := (w64 (word (ofTo lo hi k) (k / 64)))) Tryz.underlying32 rfl rfl rfl (bcs_get _ _ (by omega))) rfl ?_
        refine SegL.opE (OpT.move rfl) rfl ?_
        refine SegL.opE (OpT.rem rfl rfl (by omega) (by omega)) rfl ?_
        refine SegL.opE (OpT.shlW (a := 1#64) (n := k % 64) rfl rfl) rfl ?_
        refine SegL.opE (OpT.orW rfl rfl) rfl ?_
        refine SegL.opE (OpT.ixArr (off' := k / 64) Tryz.underlying34 ti32 rfl rfl (by omega) (by omega)) rfl ?_
        refine SegL.doneE ?_
        refine EndL.is (t := 7) (v := (.int .i64 (((k : Nat) : Int)))) rfl ?_
        refine EndL.is (t := 0) (v := (.int .u8 (((lo : Nat) : Int)))) rfl ?_
        refine EndL.is (t := 1) (v := (.int .u8 (((hi : Nat) : Int)))) rfl ?_
        refine EndL.is (t := 4) (v := (ptr Br (0))) rfl ?_
        refine EndL.is (t := 5) (v := (ptr Bs (0))) rfl ?_
        refine EndL.is (t := 8) (v := (.bool (decide (((k : Nat) : Int) < 256)))) rfl ?_
        refine EndL.is (t := 9) (v := (.int .i64 (((k : Nat) : Int)))) rfl ?_
        refine EndL.is (t := 6) (v := (.int .i64 (((k : Nat) : Int)))) rfl ?_
        refine EndL.is (t := 10) (v := (.int .i64 (((k : Nat) : Int)))) rfl ?_
        refine EndL.is (t := 11) (v := (.int .u8 (((lo : Nat) : Int)))) rfl ?_
        refine EndL.is (t := 12) (v := (.int .i64 (((lo : Nat) : Int)))) rfl ?_
        refine EndL.is (t := 13) (v := (.bool (decide (((lo : Nat) : Int) ≤ ((k : Nat) : Int))))) rfl ?_
        refine EndL.is (t := 14) (v := (.bool (true))) rfl ?_
        refine EndL.is (t := 15) (v := (.int .i64 (((k : Nat) : Int)))) rfl ?_
        refine EndL.is (t := 16) (v := (.int .u8 (((hi : Nat) : Int)))) rfl ?_
        refine EndL.is (t := 17) (v := (.int .i64 (((hi : Nat) : Int)))) rfl ?_
        refine EndL.is (t := 18) (v := (.bool (decide (((k : Nat) : Int) ≤ ((hi : Nat) : Int))))) rfl ?_
        refine EndL.is (t := 19) (v := (.bool (decide (((k : Nat) : Int) ≤ ((hi : Nat) : Int))))) rfl ?_
        refine EndL.is (t := 20) (v := (.int .i64 (((k : Nat) : Int)))) rfl ?_
        refine EndL.is (t := 21) (v := (.int .i64 (((k : Nat) : Int) / 64))) rfl ?_
        refine EndL.is (t := 22) (v := (ptr Bs (k / 64))) rfl ?_
        refine EndL.is (t := 23) (v := (w64 (word (ofTo lo hi k) (k / 64)))) rfl ?_
        refine EndL.is (t := 24) (v := (.int .i64 (((k : Nat) : Int)))) rfl ?_
        refine EndL.is (t := 25) (v := (.int .i64 (((k : Nat) : Int) % 64))) rfl ?_
        refine EndL.is (t := 26) (v := (w64 (1#64 <<< (k % 64)))) rfl ?_
        refine EndL.is (t := 27) (v := (w64 ((word (ofTo lo hi k) (k / 64)) ||| (1#64 <<< (k % 64))))) rfl ?_
        refine EndL.is (t := 28) (v := (ptr Bs (k / 64))) rfl ?_
        refine EndL.seg ?_
        refine Seg.stBlk1 (i := 0) rfl rfl rfl ti32 rfl (by rw [bcs_size]; omega) ?_
        rw [bcs_set _ k (by omega), ofTo_hit lo hi k (by omega) (by omega)]
        refine Seg.nil ?_
        refine At.blk_n ?_
        refine At.then_n ?_
        refine Wp.region ?_
        refine Seg.op (OpT.add rfl rfl (fits64 (by omega))) rfl ?_
        refine Seg.op (OpT.move rfl) rfl ?_
        refine Seg.nil ?_
        refine At.next (k + 1) (Hp.le.refl _) ?_ ?_ ?_ ?_
        · exact (by omega)
        · exact .cons (rfl) (.cons (rfl) (.cons (rfl) (.cons (rfl) (.cons (rfl) (.nil)))))
        · exact (by first | rfl | rw [ofTo_skip lo hi k (by omega)])
        · exact (by (try dsimp only); omega)
      ·
        replace hb6 := of_decide_eq_false hb6
        refine Wp.skip ?_
        refine At.blk_n ?_
        refine At.then_n ?_
        refine Wp.region ?_
        refine Seg.op (OpT.add rfl rfl (fits64 (by omega))) rfl ?_
        refine Seg.op (OpT.move rfl) rfl ?_
        refine Seg.nil ?_
        refine At.next (k + 1) (Hp.le.refl _) ?_ ?_ ?_ ?_
        · exact (by omega)
        · exact .cons (rfl) (.cons (rfl) (.cons (rfl) (.cons (rfl) (.cons (rfl) (.nil)))))
        · exact (by first | rfl | rw [ofTo_skip lo hi k (by omega)])
        · exact (by (try dsimp only); omega)
    ·
      replace hb5 := of_decide_eq_false hb5
      refine Seg.skipG rfl rfl rfl rfl ?_
      refine Seg.skipG rfl rfl rfl rfl ?_
      refine Seg.skipG rfl rfl rfl rfl ?_
      refine Seg.skipG rfl rfl rfl rfl ?_
      refine Seg.op (OpT.pickF rfl rfl) rfl ?_
      refine Seg.nil ?_
      refine At.then_n ?_
      refine Wp.condF rfl ?_
      refine Wp.skip ?_
      refine At.blk_n ?_
      refine At.then_n ?_
      refine Wp.region ?_
      refine Seg.op (OpT.add rfl rfl (fits64 (by omega))) rfl ?_
      refine Seg.op (OpT.move rfl) rfl ?_
      refine Seg.nil ?_
      refine At.next (k + 1) (Hp.le.refl _) ?_ ?_ ?_ ?_
      · exact (by omega)
      · exact .cons (rfl) (.cons (rfl) (.cons (rfl) (.cons (rfl) (.cons (rfl) (.nil)))))
      · exact (by first | rfl | rw [ofTo_skip lo hi k (by omega)])
      · exact (by (try dsimp only); omega)
  ·
    replace hb4 := of_decide_eq_false hb4
    refine Wp.exit ?_
    refine At.then_x ?_
    refine At.then_x ?_
    refine At.blk_hit ?_
    refine At.then_n ?_
    refine Wp.seq ?_
    refine Wp.region ?_
    refine Seg.op (OpT.ldBlkW (i := 0) Tryz.underlying34 rfl ti34 rfl rfl rfl) rfl ?_
    refine Seg.stBlkW (i := 1) (cs' := (bcs (ofTo lo hi k))) rfl rfl ti34 rfl rfl (bcs_one _) rfl ?_
    refine Seg.nil ?_
    refine At.then_n ?_
    refine Wp.ret ?_
    refine At.res1 rfl (RV.cellA (i := 1) rfl Tryz.underlying34 rfl ti34 (rfl) rfl) ?_
    exact fun w hs => ⟨by exact congrArg (fun c => Ending.returned (.agg c)) (ofTo_done lo hi _ (by omega)), (hs.dropN 2).weaken hle2⟩
set_option maxHeartbeats 4000000 in
theorem or_w (p q : Nat → Bool) :
    TriV Tryz.prog 77 [(.agg (bcs p)), (.agg (bcs q))] H O (bs (fun x => p x || q x)) := by
  intro w hs
  refine wp_of Tryz.func77 rfl rfl rfl ?_ hs
  clear hs w
  refine Wp.seq ?_
  refine Wp.region ?_
  refine Seg.box (cs := bcs p) rfl rfl rfl fun Ba => ?_
  refine Seg.box (cs := bcs q) rfl rfl rfl fun Bb => ?_
  refine Seg.alloc (cs := bcs (fun _ => false)) ti34 bcs_empty rfl fun Br => ?_
  refine Seg.nil ?_
  refine At.then_n ?_
  refine Wp.seq ?_
  refine Wp.seq ?_
  refine Wp.region ?_
  refine Seg.op (OpT.move rfl) rfl ?_
  refine Seg.nil ?_
  refine At.then_n ?_
  refine Wp.block ?_
  refine Wp.loop (X := Nat) (fun k => [(6, (.int .i64 (((k : Nat) : Int)))), (2, (ptr Ba (0))), (3, (ptr Bb (0))), (4, (ptr Br (0)))]) (fun k => .blk Br (.cells (bcs (fun _ => false)) 34 (0, 0)) :: .blk Bb (.cells (bcs q) 34 (0, 0)) :: .blk Ba (.cells (bcs (mixTo (fun x => p x || q x) p k)) 34 (0, 0)) :: O) (fun k H' => k ≤ 4) (fun k => 4 - k) 0 ?_ ?_ ?_ ?_
  · exact (by omega)
  · exact .cons (rfl) (.cons (rfl) (.cons (rfl) (.cons (rfl) (.nil))))
  · exact (by first | rfl | (rw [← mix_zero]; done) | (rw [← mix_zero]; rfl))
  intro k H1 hle2 hi3
  refine Wp.seq ?_
  refine Wp.region ?_
  refine Seg.op (OpT.lss rfl rfl) rfl ?_
  refine Seg.nil ?_
  refine At.then_n ?_
  refine Wp.seq ?_
  refine Wp.cond (b := decide (((k : Nat) : Int) < 4)) rfl (fun hb4 => ?_) (fun hb4 => ?_)
  ·
    replace hb4 := of_decide_eq_true hb4
    refine Wp.skip ?_
    refine At.then_n ?_
    refine Wp.seq ?_
    refine Wp.block ?_
    refine Wp.seq ?_
    refine Wp.region ?_
    refine Seg.op (OpT.move rfl) rfl ?_
    refine Seg.op (OpT.assign rfl) rfl ?_
    refine Seg.nil ?_
    refine At.then_n ?_
    refine Wp.drawE 8 follows rfl (by kernel_rfl) ?_
    refine SegL.opE (OpT.move rfl) rfl ?_
    refine SegL.opE (OpT.ixArr (off' := k) Tryz.underlying34 ti32 rfl rfl (by omega) (by omega)) rfl ?_
    refine SegL.opE (OpT.ldBlk (i := 2) (v := (w64 (word p k))) Tryz.underlying32 rfl rfl rfl (mix_get _ _ _ (by omega))) rfl ?_
    refine SegL.opE (OpT.move rfl) rfl ?_
    refine SegL.opE (OpT.ixArr (off' := k) Tryz.underlying34 ti32 rfl rfl (by omega) (by omega)) rfl ?_
    refine SegL.opE (OpT.ldBlk (i := 1) (v := (w64 (word q k))) Tryz.underlying32 rfl rfl rfl (bcs_get _ _ (by omega))) rfl ?_
    refine SegL.opE (OpT.orW rfl rfl) rfl ?_
    refine SegL.opE (OpT.ixArr (off' := k) Tryz.underlying34 ti32 rfl rfl (by omega) (by omega)) rfl ?_
    refine SegL.doneE ?_
    refine EndL.is (t := 6) (v := (.int .i64 (((k : Nat) : Int)))) rfl ?_
    refine EndL.is (t := 2) (v := (ptr Ba (0))) rfl ?_
    refine EndL.is (t := 3) (v := (ptr Bb (0))) rfl ?_
    refine EndL.is (t := 4) (v := (ptr Br (0))) rfl ?_
    refine EndL.is (t := 7) (v := (.bool (decide (((k : Nat) : Int) < 4)))) rfl ?_
    refine EndL.is (t := 8) (v := (.int .i64 (((k : Nat) : Int)))) rfl ?_
    refine EndL.is (t := 5) (v := (.int .i64 (((k : Nat) : Int)))) rfl ?_
    refine EndL.is (t := 9) (v := (.int .i64 (((k : Nat) : Int)))) rfl ?_
    refine EndL.is (t := 10) (v := (ptr Ba (k))) rfl ?_
    refine EndL.is (t := 11) (v := (w64 (word p k))) rfl ?_
    refine EndL.is (t := 12) (v := (.int .i64 (((k : Nat) : Int)))) rfl ?_
    refine EndL.is (t := 13) (v := (ptr Bb (k))) rfl ?_
    refine EndL.is (t := 14) (v := (w64 (word q k))) rfl ?_
    refine EndL.is (t := 15) (v := (w64 ((word p k) ||| (word q k)))) rfl ?_
    refine EndL.is (t := 16) (v := (ptr Ba (k))) rfl ?_
    refine EndL.seg ?_
    refine Seg.stBlk1 (i := 2) rfl rfl rfl ti32 rfl (by rw [bcs_size]; omega) ?_
    rw [mix_step _ _ k _ (by omega) (word_or p q k)]
    refine Seg.nil ?_
    refine At.blk_n ?_
    refine At.then_n ?_
    refine Wp.region ?_
    refine Seg.op (OpT.add rfl rfl (fits64 (by omega))) rfl ?_
    refine Seg.op (OpT.move rfl) rfl ?_
    refine Seg.nil ?_
    refine At.next (k + 1) (Hp.le.refl _) ?_ ?_ ?_ ?_
    · exact (by omega)
    · exact .cons (rfl) (.cons (rfl) (.cons (rfl) (.cons (rfl) (.nil))))
    · exact (rfl)
    · exact (by (try dsimp only); omega)
  ·
    replace hb4 := of_decide_eq_false hb4
    refine Wp.exit ?_
    refine At.then_x ?_
    refine At.then_x ?_
    refine At.blk_hit ?_
    refine At.then_n ?_
    refine Wp.seq ?_
    refine Wp.region ?_
    refine Seg.op (OpT.ldBlkW (i := 2) Tryz.underlying34 rfl ti34 rfl rfl rfl) rfl ?_
    refine Seg.stBlkW (i := 0) (cs' := (bcs (mixTo (fun x => p x || q x) p k))) rfl rfl ti34 rfl rfl (bcs_one _) rfl ?_
    refine Seg.nil ?_
    refine At.then_n ?_
    refine Wp.ret ?_
    refine At.res1 rfl (RV.cellA (i := 0) rfl Tryz.underlying34 rfl ti34 (rfl) rfl) ?_
    exact fun w hs => ⟨by exact congrArg (fun c => Ending.returned (.agg c)) (mix_done _ _ _ (by omega)), (hs.dropN 3).weaken hle2⟩
set_option maxHeartbeats 4000000 in
theorem and_w (p q : Nat → Bool) :
    TriV Tryz.prog 75 [(.agg (bcs p)), (.agg (bcs q))] H O (bs (fun x => p x && q x)) := by
  intro w hs
  refine wp_of Tryz.func75 rfl rfl rfl ?_ hs
  clear hs w
  refine Wp.seq ?_
  refine Wp.region ?_
  refine Seg.box (cs := bcs p) rfl rfl rfl fun Ba => ?_
  refine Seg.box (cs := bcs q) rfl rfl rfl fun Bb => ?_
  refine Seg.alloc (cs := bcs (fun _ => false)) ti34 bcs_empty rfl fun Br => ?_
  refine Seg.nil ?_
  refine At.then_n ?_
  refine Wp.seq ?_
  refine Wp.seq ?_
  refine Wp.region ?_
  refine Seg.op (OpT.move rfl) rfl ?_
  refine Seg.nil ?_
  refine At.then_n ?_
  refine Wp.block ?_
  refine Wp.loop (X := Nat) (fun k => [(6, (.int .i64 (((k : Nat) : Int)))), (2, (ptr Ba (0))), (3, (ptr Bb (0))), (4, (ptr Br (0)))]) (fun k => .blk Br (.cells (bcs (fun _ => false)) 34 (0, 0)) :: .blk Bb (.cells (bcs q) 34 (0, 0)) :: .blk Ba (.cells (bcs (mixTo (fun x => p x && q x) p k)) 34 (0, 0)) :: O) (fun k H' => k ≤ 4) (fun k => 4 - k) 0 ?_ ?_ ?_ ?_
  · exact (by omega)
  · exact .cons (rfl) (.cons (rfl) (.cons (rfl) (.cons (rfl) (.nil))))
  · exact (by first | rfl | (rw [← mix_zero]; done) | (rw [← mix_zero]; rfl))
  intro k H1 hle2 hi3
  refine Wp.seq ?_
  refine Wp.region ?_
  refine Seg.op (OpT.lss rfl rfl) rfl ?_
  refine Seg.nil ?_
  refine At.then_n ?_
  refine Wp.seq ?_
  refine Wp.cond (b := decide (((k : Nat) : Int) < 4)) rfl (fun hb4 => ?_) (fun hb4 => ?_)
  ·
    replace hb4 := of_decide_eq_true hb4
    refine Wp.skip ?_
    refine At.then_n ?_
    refine Wp.seq ?_
    refine Wp.block ?_
    refine Wp.seq ?_
    refine Wp.region ?_
    refine Seg.op (OpT.move rfl) rfl ?_
    refine Seg.op (OpT.assign rfl) rfl ?_
    refine Seg.nil ?_
    refine At.then_n ?_
    refine Wp.drawE 8 follows rfl (by kernel_rfl) ?_
    refine SegL.opE (OpT.move rfl) rfl ?_
    refine SegL.opE (OpT.ixArr (off' := k) Tryz.underlying34 ti32 rfl rfl (by omega) (by omega)) rfl ?_
    refine SegL.opE (OpT.ldBlk (i := 2) (v := (w64 (word p k))) Tryz.underlying32 rfl rfl rfl (mix_get _ _ _ (by omega))) rfl ?_
    refine SegL.opE (OpT.move rfl) rfl ?_
    refine SegL.opE (OpT.ixArr (off' := k) Tryz.underlying34 ti32 rfl rfl (by omega) (by omega)) rfl ?_
    refine SegL.opE (OpT.ldBlk (i := 1) (v := (w64 (word q k))) Tryz.underlying32 rfl rfl rfl (bcs_get _ _ (by omega))) rfl ?_
    refine SegL.opE (OpT.andW rfl rfl) rfl ?_
    refine SegL.opE (OpT.ixArr (off' := k) Tryz.underlying34 ti32 rfl rfl (by omega) (by omega)) rfl ?_
    refine SegL.doneE ?_
    refine EndL.is (t := 6) (v := (.int .i64 (((k : Nat) : Int)))) rfl ?_
    refine EndL.is (t := 2) (v := (ptr Ba (0))) rfl ?_
    refine EndL.is (t := 3) (v := (ptr Bb (0))) rfl ?_
    refine EndL.is (t := 4) (v := (ptr Br (0))) rfl ?_
    refine EndL.is (t := 7) (v := (.bool (decide (((k : Nat) : Int) < 4)))) rfl ?_
    refine EndL.is (t := 8) (v := (.int .i64 (((k : Nat) : Int)))) rfl ?_
    refine EndL.is (t := 5) (v := (.int .i64 (((k : Nat) : Int)))) rfl ?_
    refine EndL.is (t := 9) (v := (.int .i64 (((k : Nat) : Int)))) rfl ?_
    refine EndL.is (t := 10) (v := (ptr Ba (k))) rfl ?_
    refine EndL.is (t := 11) (v := (w64 (word p k))) rfl ?_
    refine EndL.is (t := 12) (v := (.int .i64 (((k : Nat) : Int)))) rfl ?_
    refine EndL.is (t := 13) (v := (ptr Bb (k))) rfl ?_
    refine EndL.is (t := 14) (v := (w64 (word q k))) rfl ?_
    refine EndL.is (t := 15) (v := (w64 ((word p k) &&& (word q k)))) rfl ?_
    refine EndL.is (t := 16) (v := (ptr Ba (k))) rfl ?_
    refine EndL.seg ?_
    refine Seg.stBlk1 (i := 2) rfl rfl rfl ti32 rfl (by rw [bcs_size]; omega) ?_
    rw [mix_step _ _ k _ (by omega) (word_and p q k)]
    refine Seg.nil ?_
    refine At.blk_n ?_
    refine At.then_n ?_
    refine Wp.region ?_
    refine Seg.op (OpT.add rfl rfl (fits64 (by omega))) rfl ?_
    refine Seg.op (OpT.move rfl) rfl ?_
    refine Seg.nil ?_
    refine At.next (k + 1) (Hp.le.refl _) ?_ ?_ ?_ ?_
    · exact (by omega)
    · exact .cons (rfl) (.cons (rfl) (.cons (rfl) (.cons (rfl) (.nil))))
    · exact (rfl)
    · exact (by (try dsimp only); omega)
  ·
    replace hb4 := of_decide_eq_false hb4
    refine Wp.exit ?_
    refine At.then_x ?_
    refine At.then_x ?_
    refine At.blk_hit ?_
    refine At.then_n ?_
    refine Wp.seq ?_
    refine Wp.region ?_
    refine Seg.op (OpT.ldBlkW (i := 2) Tryz.underlying34 rfl ti34 rfl rfl rfl) rfl ?_
    refine Seg.stBlkW (i := 0) (cs' := (bcs (mixTo (fun x => p x && q x) p k))) rfl rfl ti34 rfl rfl (bcs_one _) rfl ?_
    refine Seg.nil ?_
    refine At.then_n ?_
    refine Wp.ret ?_
    refine At.res1 rfl (RV.cellA (i := 0) rfl Tryz.underlying34 rfl ti34 (rfl) rfl) ?_
    exact fun w hs => ⟨by exact congrArg (fun c => Ending.returned (.agg c)) (mix_done _ _ _ (by omega)), (hs.dropN 3).weaken hle2⟩
set_option maxHeartbeats 4000000 in
theorem not_w (p : Nat → Bool) :
    TriV Tryz.prog 76 [(.agg (bcs p))] H O (bs (fun x => !p x)) := by
  intro w hs
  refine wp_of Tryz.func76 rfl rfl rfl ?_ hs
  clear hs w
  refine Wp.seq ?_
  refine Wp.region ?_
  refine Seg.box (cs := bcs p) rfl rfl rfl fun Ba => ?_
  refine Seg.alloc (cs := bcs (fun _ => false)) ti34 bcs_empty rfl fun Br => ?_
  refine Seg.nil ?_
  refine At.then_n ?_
  refine Wp.seq ?_
  refine Wp.seq ?_
  refine Wp.region ?_
  refine Seg.op (OpT.move rfl) rfl ?_
  refine Seg.nil ?_
  refine At.then_n ?_
  refine Wp.block ?_
  refine Wp.loop (X := Nat) (fun k => [(4, (.int .i64 (((k : Nat) : Int)))), (1, (ptr Ba (0))), (2, (ptr Br (0)))]) (fun k => .blk Br (.cells (bcs (fun _ => false)) 34 (0, 0)) :: .blk Ba (.cells (bcs (mixTo (fun x => !p x) p k)) 34 (0, 0)) :: O) (fun k H' => k ≤ 4) (fun k => 4 - k) 0 ?_ ?_ ?_ ?_
  · exact (by omega)
  · exact .cons (rfl) (.cons (rfl) (.cons (rfl) (.nil)))
  · exact (by first | rfl | (rw [← mix_zero]; done) | (rw [← mix_zero]; rfl))
  intro k H1 hle2 hi3
  refine Wp.seq ?_
  refine Wp.region ?_
  refine Seg.op (OpT.lss rfl rfl) rfl ?_
  refine Seg.nil ?_
  refine At.then_n ?_
  refine Wp.seq ?_
  refine Wp.cond (b := decide (((k : Nat) : Int) < 4)) rfl (fun hb4 => ?_) (fun hb4 => ?_)
  ·
    replace hb4 := of_decide_eq_true hb4
    refine Wp.skip ?_
    refine At.then_n ?_
    refine Wp.seq ?_
    refine Wp.block ?_
    refine Wp.seq ?_
    refine Wp.region ?_
    refine Seg.op (OpT.move rfl) rfl ?_
    refine Seg.op (OpT.assign rfl) rfl ?_
    refine Seg.nil ?_
    refine At.then_n ?_
    refine Wp.region ?_
    refine Seg.op (OpT.move rfl) rfl ?_
    refine Seg.op (OpT.move rfl) rfl ?_
    refine Seg.op (OpT.ixArr (off' := k) Tryz.underlying34 ti32 rfl rfl (by omega) (by omega)) rfl ?_
    refine Seg.op (OpT.ldBlk (i := 1) (v := (w64 (word p k))) Tryz.underlying32 rfl rfl rfl (mix_get _ _ _ (by omega))) rfl ?_
    refine Seg.op (OpT.notW rfl) rfl ?_
    refine Seg.op (OpT.ixArr (off' := k) Tryz.underlying34 ti32 rfl rfl (by omega) (by omega)) rfl ?_
    refine Seg.stBlk1 (i := 1) rfl rfl rfl ti32 rfl (by rw [bcs_size]; omega) ?_
    rw [mix_step _ _ k _ (by omega) (word_not p k)]
    refine Seg.nil ?_
    refine At.blk_n ?_
    refine At.then_n ?_
    refine Wp.region ?_
    refine Seg.op (OpT.add rfl rfl (fits64 (by omega))) rfl ?_
    refine Seg.op (OpT.move rfl) rfl ?_
    refine Seg.nil ?_
    refine At.next (k + 1) (Hp.le.refl _) ?_ ?_ ?_ ?_
    · exact (by omega)
    · exact .cons (rfl) (.cons (rfl) (.cons (rfl) (.nil)))
    · exact (rfl)
    · exact (by (try dsimp only); omega)
  ·
    replace hb4 := of_decide_eq_false hb4
    refine Wp.exit ?_
    refine At.then_x ?_
    refine At.then_x ?_
    refine At.blk_hit ?_
    refine At.then_n ?_
    refine Wp.seq ?_
    refine Wp.region ?_
    refine Seg.op (OpT.ldBlkW (i := 1) Tryz.underlying34 rfl ti34 rfl rfl rfl) rfl ?_
    refine Seg.stBlkW (i := 0) (cs' := (bcs (mixTo (fun x => !p x) p k))) rfl rfl ti34 rfl rfl (bcs_one _) rfl ?_
    refine Seg.nil ?_
    refine At.then_n ?_
    refine Wp.ret ?_
    refine At.res1 rfl (RV.cellA (i := 0) rfl Tryz.underlying34 rfl ti34 (rfl) rfl) ?_
    exact fun w hs => ⟨by exact congrArg (fun c => Ending.returned (.agg c)) (mix_done _ _ _ (by omega)), (hs.dropN 2).weaken hle2⟩
set_option maxHeartbeats 4000000 in
theorem least_w (p : Nat → Bool) :
    TriV Tryz.prog 57 [(.agg (bcs p))] H O (.tuple #[.int .u8 (lst p : Nat), .bool (anyS p)]) := by
  intro w hs
  refine wp_of Tryz.func57 rfl rfl rfl ?_ hs
  clear hs w
  refine Wp.seq ?_
  refine Wp.region ?_
  refine Seg.box (cs := bcs p) rfl rfl rfl fun Ba => ?_
  refine Seg.op (OpT.assign rfl) rfl ?_
  refine Seg.op (OpT.assign rfl) rfl ?_
  refine Seg.nil ?_
  refine At.then_n ?_
  refine Wp.seq ?_
  refine Wp.seq ?_
  refine Wp.region ?_
  refine Seg.op (OpT.move rfl) rfl ?_
  refine Seg.nil ?_
  refine At.then_n ?_
  refine Wp.block ?_
  refine Wp.loop (X := Nat) (fun k => [(5, (.int .i64 (((k : Nat) : Int)))), (1, (ptr Ba (0)))]) (fun k => .blk Ba (.cells (bcs p) 34 (0, 0)) :: O) (fun k H' => k ≤ 256 ∧ ∀ x, x < k → p x = false) (fun k => 256 - k) 0 ?_ ?_ ?_ ?_
  · exact (⟨by omega, fun x hx => by omega⟩)
  · exact .cons (rfl) (.cons (rfl) (.nil))
  · exact (rfl)
  intro k H1 hle2 hi3
  have hk : k ≤ 256 := hi3.1
  have h0 := hi3.2
  refine Wp.seq ?_
  refine Wp.region ?_
  refine Seg.op (OpT.lss rfl rfl) rfl ?_
  refine Seg.nil ?_
  refine At.then_n ?_
  refine Wp.seq ?_
  refine Wp.cond (b := decide (((k : Nat) : Int) < 256)) rfl (fun hb4 => ?_) (fun hb4 => ?_)
  ·
    replace hb4 := of_decide_eq_true hb4
    refine Wp.skip ?_
    refine At.then_n ?_
    refine Wp.seq ?_
    refine Wp.block ?_
    refine Wp.seq ?_
    refine Wp.region ?_
    refine Seg.op (OpT.move rfl) rfl ?_
    refine Seg.op (OpT.assign rfl) rfl ?_
    refine Seg.nil ?_
    refine At.then_n ?_
    refine Wp.seq ?_
    refine Wp.region ?_
    refine Seg.op (OpT.ldBlkW (i := 0) Tryz.underlying34 rfl ti34 rfl rfl rfl) rfl ?_
    refine Seg.op (OpT.move rfl) rfl ?_
    refine Seg.op (OpT.conv Tryz.underlying3 Tryz.underlying5 rfl (fitsU8 (by omega))) rfl ?_
    refine Seg.op (OpT.call ent58 rfl (has_w p k (by omega))) rfl ?_
    refine Seg.nil ?_
    refine At.then_n ?_
    refine Wp.cond (b := p k) rfl (fun hb5 => ?_) (fun hb5 => ?_)
    ·
      refine Wp.seq ?_
      refine Wp.region ?_
      refine Seg.op (OpT.move rfl) rfl ?_
      refine Seg.op (OpT.conv Tryz.underlying3 Tryz.underlying5 rfl (fitsU8 (by omega))) rfl ?_
      refine Seg.op (OpT.assign rfl) rfl ?_
      refine Seg.op (OpT.assign rfl) rfl ?_
      refine Seg.nil ?_
      refine At.then_n ?_
      refine Wp.ret ?_
      refine At.blk_r ?_
      refine At.then_r ?_
      refine At.then_r ?_
      refine At.blk_r ?_
      refine At.then_r ?_
      refine At.res2 rfl (RV.tmp (v := (.int .u8 (((k : Nat) : Int)))) rfl) (RV.tmp (v := (.bool (true))) rfl) ?_
      exact fun w hs => ⟨by first | (have h := least_hit p k (by omega) h0 (by assumption); rw [h.1, h.2]; done) | (have h := least_none p k (by omega) h0; rw [h.1, h.2]; done) | (have h := least_none p k (by omega) h0; rw [h.1, h.2]; rfl), (hs.dropN 1).weaken hle2⟩
    ·
      refine Wp.skip ?_
      refine At.blk_n ?_
      refine At.then_n ?_
      refine Wp.region ?_
      refine Seg.op (OpT.add rfl rfl (fits64 (by omega))) rfl ?_
      refine Seg.op (OpT.move rfl) rfl ?_
      refine Seg.nil ?_
      refine At.next (k + 1) (Hp.le.refl _) ?_ ?_ ?_ ?_
      · exact (⟨by omega, none_succ p k h0 (by assumption)⟩)
      · exact .cons (rfl) (.cons (rfl) (.nil))
      · exact (rfl)
      · exact (by (try dsimp only); omega)
  ·
    replace hb4 := of_decide_eq_false hb4
    refine Wp.exit ?_
    refine At.then_x ?_
    refine At.then_x ?_
    refine At.blk_hit ?_
    refine At.then_n ?_
    refine Wp.seq ?_
    refine Wp.region ?_
    refine Seg.op (OpT.assign rfl) rfl ?_
    refine Seg.op (OpT.assign rfl) rfl ?_
    refine Seg.nil ?_
    refine At.then_n ?_
    refine Wp.ret ?_
    refine At.res2 rfl (RV.tmp (v := (.int .u8 (0))) rfl) (RV.tmp (v := (.bool (false))) rfl) ?_
    exact fun w hs => ⟨by first | (have h := least_hit p k (by omega) h0 (by assumption); rw [h.1, h.2]; done) | (have h := least_none p k (by omega) h0; rw [h.1, h.2]; done) | (have h := least_none p k (by omega) h0; rw [h.1, h.2]; rfl), (hs.dropN 1).weaken hle2⟩
set_option maxHeartbeats 4000000 in
theorem ranges_w (p : Nat → Bool) :
    Tri Tryz.prog 62 [(.agg (bcs p))] H O (fun v H' O' => O' = O ∧ Sl H' v 2 (rgTo p 256).length ((rgTo p 256).flatMap encB)) := by
  intro w hs
  refine wp_of Tryz.func62 rfl rfl rfl ?_ hs
  clear hs w
  refine Wp.seq ?_
  refine Wp.region ?_
  refine Seg.box (cs := bcs p) rfl rfl rfl fun Ba => ?_
  refine Seg.op (OpT.assign rfl) rfl ?_
  refine Seg.nil ?_
  refine At.then_n ?_
  refine Wp.seq ?_
  refine Wp.region ?_
  refine Seg.op (OpT.assign rfl) rfl ?_
  refine Seg.nil ?_
  refine At.then_n ?_
  refine Wp.seq ?_
  refine Wp.seq ?_
  refine Wp.nilRow 113 2 ?_
  refine Wp.region ?_
  refine Seg.op (OpT.move rfl) rfl ?_
  refine Seg.nil ?_
  refine At.then_n ?_
  refine Wp.block ?_
  refine Wp.loop (X := Nat × Value) (fun x => [(5, (.int .i64 (((x.1 : Nat) : Int)))), (3, x.2), (1, (ptr Ba (0))), (2, (.slice none 0 0))]) (fun x => .row x.2 113 2 ((rgTo p x.1).length) ((rgTo p x.1).flatMap encB) :: .blk Ba (.cells (bcs p) 34 (0, 0)) :: O) (fun x H' => x.1 ≤ 256) (fun x => 256 - x.1) (0, .slice none 0 0) ?_ ?_ ?_ ?_
  · exact (by omega)
  · exact .cons (rfl) (.cons (rfl) (.cons (rfl) (.cons (rfl) (.nil))))
  · exact (by first | rfl | (rw [rgTo_zero]; done) | (rw [rgTo_zero]; rfl))
  intro x H1 hle2 hi3
  have hc := rgTo_len p x.1
  refine Wp.seq ?_
  refine Wp.region ?_
  refine Seg.op (OpT.lss rfl rfl) rfl ?_
  refine Seg.nil ?_
  refine At.then_n ?_
  refine Wp.seq ?_
  refine Wp.cond (b := decide (((x.1 : Nat) : Int) < 256)) rfl (fun hb4 => ?_) (fun hb4 => ?_)
  ·
    replace hb4 := of_decide_eq_true hb4
    refine Wp.skip ?_
    refine At.then_n ?_
    refine Wp.seq ?_
    refine Wp.block ?_
    refine Wp.seq ?_
    refine Wp.region ?_
    refine Seg.op (OpT.move rfl) rfl ?_
    refine Seg.op (OpT.assign rfl) rfl ?_
    refine Seg.nil ?_
    refine At.then_n ?_
    refine Wp.block ?_
    refine Wp.seq ?_
    refine Wp.region ?_
    refine Seg.op (OpT.ldBlkW (i := 1) Tryz.underlying34 rfl ti34 rfl rfl rfl) rfl ?_
    refine Seg.op (OpT.move rfl) rfl ?_
    refine Seg.op (OpT.conv Tryz.underlying3 Tryz.underlying5 rfl (fitsU8 (by omega))) rfl ?_
    refine Seg.op (OpT.call ent58 rfl (has_w p x.1 (by omega))) rfl ?_
    refine Seg.op (OpT.not rfl) rfl ?_
    refine Seg.op (OpT.assign rfl) rfl ?_
    refine Seg.nil ?_
    refine At.then_n ?_
    refine Wp.cond (b := !(p x.1)) rfl (fun hb5 => ?_) (fun hb5 => ?_)
    ·
      refine Wp.skip ?_
      refine At.blk_n ?_
      refine At.blk_n ?_
      refine At.then_n ?_
      refine Wp.region ?_
      refine Seg.op (OpT.add rfl rfl (fits64 (by omega))) rfl ?_
      refine Seg.op (OpT.move rfl) rfl ?_
      refine Seg.nil ?_
      refine At.next (x.1 + 1, x.2) (Hp.le.refl _) ?_ ?_ ?_ ?_
      · exact (by (try dsimp only); omega)
      · exact .cons (rfl) (.cons (rfl) (.cons (rfl) (.cons (rfl) (.nil))))
      · exact (by first | rfl | (rw [← rgTo_skip p x.1 (by simp_all)]; done) | (rw [← rgTo_skip p x.1 (by simp_all)]; rfl))
      · exact (by (try dsimp only); omega)
    ·
      refine Wp.seq ?_
      refine Wp.region ?_
      refine Seg.op (OpT.move rfl) rfl ?_
      refine Seg.op (OpT.gtr rfl rfl) rfl ?_
      refine Seg.op (OpT.move rfl) rfl ?_
      refine Seg.split (t := 25) (b := decide (0 < ((x.1 : Nat) : Int))) rfl (fun hb6 => ?_) (fun hb6 => ?_)
      ·
        replace hb6 := of_decide_eq_true hb6
        refine Seg.opG rfl rfl (OpT.ldBlkW (i := 1) Tryz.underlying34 rfl ti34 rfl rfl rfl) rfl ?_
        refine Seg.opG rfl rfl (OpT.move rfl) rfl ?_
        refine Seg.opG rfl rfl (OpT.cast (v' := (.int .i64 ((((x.1 - 1) : Nat) : Int)))) (OpT.sub rfl rfl (fits64 (by omega))) (congrArg (Value.int .i64) (by omega))) rfl ?_
        refine Seg.opG rfl rfl (OpT.conv Tryz.underlying3 Tryz.underlying5 rfl (fitsU8 (by omega))) rfl ?_
        refine Seg.opG rfl rfl (OpT.call ent58 rfl (has_w p (x.1 - 1) (by omega))) rfl ?_
        refine Seg.op (OpT.pickT rfl rfl) rfl ?_
        refine Seg.op (OpT.assign rfl) rfl ?_
        refine Seg.nil ?_
        refine At.then_n ?_
        refine Wp.cond (b := p (x.1 - 1)) rfl (fun hb7 => ?_) (fun hb7 => ?_)
        ·
          refine Wp.region ?_
          refine Seg.op (OpT.move rfl) rfl ?_
          refine Seg.op (OpT.move rfl) rfl ?_
          refine Seg.op (OpT.lenRow (i := 0) Tryz.underlying111 rfl rfl) rfl ?_
          refine Seg.op (OpT.cast (v' := (.int .i64 (((((rgTo p x.1).length - 1) : Nat) : Int)))) (OpT.sub rfl rfl (fits64 (by omega))) (congrArg (Value.int .i64) (by have := rg_pos p x.1 (by omega) (by assumption); omega))) rfl ?_
          refine Seg.op (OpT.move rfl) rfl ?_
          refine Seg.op (OpT.conv Tryz.underlying3 Tryz.underlying5 rfl (fitsU8 (by omega))) rfl ?_
          refine Seg.op (OpT.ixRow (j := 0) Tryz.underlying111 ti113 rfl rfl rfl (by have := rg_pos p x.1 (by omega) (by assumption); omega)) rfl ?_
          refine Seg.op (OpT.ixArrRow (q := 0) (j := ((rgTo p x.1).length - 1) * 2) Tryz.underlying113 ti5 rfl rfl (rg_pos p x.1 (by omega) (by assumption)) rfl (by omega)) rfl ?_
          refine Seg.stRow1 (i := 0) (k := ((rgTo p x.1).length - 1) * 2 + 1) rfl rfl rfl ti5 rfl (by rw [rg_cells]; have := rg_pos p x.1 (by omega) (by assumption); omega) ?_
          refine Seg.own (O := .row x.2 113 2 ((rgTo p (x.1 + 1)).length) ((rgTo p (x.1 + 1)).flatMap encB) :: .blk Ba (.cells (bcs p) 34 (0, 0)) :: O) ?_ (by rw [rg_ext_n p x.1 (by simp_all) (by omega) (by assumption), ← rg_ext_xs p x.1 (by simp_all) (by omega) (by assumption)]; rfl)
          refine Seg.nil ?_
          refine At.blk_n ?_
          refine At.blk_n ?_
          refine At.then_n ?_
          refine Wp.region ?_
          refine Seg.op (OpT.add rfl rfl (fits64 (by omega))) rfl ?_
          refine Seg.op (OpT.move rfl) rfl ?_
          refine Seg.nil ?_
          refine At.next (x.1 + 1, x.2) (Hp.le.refl _) ?_ ?_ ?_ ?_
          · exact (by (try dsimp only); omega)
          · exact .cons (rfl) (.cons (rfl) (.cons (rfl) (.cons (rfl) (.nil))))
          · exact (by first | rfl | (rw [← rgTo_skip p x.1 (by simp_all)]; done) | (rw [← rgTo_skip p x.1 (by simp_all)]; rfl))
          · exact (by (try dsimp only); omega)
        ·
          refine Wp.region ?_
          refine Seg.op (OpT.move rfl) rfl ?_
          refine Seg.op (OpT.move rfl) rfl ?_
          refine Seg.op (OpT.conv Tryz.underlying3 Tryz.underlying5 rfl (fitsU8 (by omega))) rfl ?_
          refine Seg.op (OpT.move rfl) rfl ?_
          refine Seg.op (OpT.conv Tryz.underlying3 Tryz.underlying5 rfl (fitsU8 (by omega))) rfl ?_
          refine Seg.op (OpT.buildA (vs := [(0, (.int .u8 (((x.1 : Nat) : Int)))), (1, (.int .u8 (((x.1 : Nat) : Int))))]) (cs := #[(.int .u8 (((x.1 : Nat) : Int))), (.int .u8 (((x.1 : Nat) : Int)))]) Tryz.underlying113 ti113 ti5 rfl rfl rfl) rfl ?_
          refine Seg.buildSl1 (cs := (#[(.int .u8 (((x.1 : Nat) : Int))), (.int .u8 (((x.1 : Nat) : Int)))])) Tryz.underlying111 ti113 rfl rfl rfl rfl rfl rfl fun v8 => ?_
          refine Seg.append (z := (.agg #[.int .u8 0, .int .u8 0])) (i := 1) Tryz.underlying111 ti113 rfl (by decide) rfl rfl rfl (fun w hs => hs.srcRow (i := 0) rfl) (one_ofL rfl) (by omega) (by omega) rfl fun v9 => ?_
          refine Seg.drop (i := 0) ?_
          refine Seg.own (O := .row v9 113 2 ((rgTo p (x.1 + 1)).length) ((rgTo p (x.1 + 1)).flatMap encB) :: .blk Ba (.cells (bcs p) 34 (0, 0)) :: O) ?_ (by rw [rgTo_new p x.1 (by simp_all) (by first | omega | simp_all)]; simp [encB])
          refine Seg.op (OpT.assign rfl) rfl ?_
          refine Seg.nil ?_
          refine At.blk_n ?_
          refine At.blk_n ?_
          refine At.then_n ?_
          refine Wp.region ?_
          refine Seg.op (OpT.add rfl rfl (fits64 (by omega))) rfl ?_
          refine Seg.op (OpT.move rfl) rfl ?_
          refine Seg.nil ?_
          refine At.next (x.1 + 1, v9) (Hp.le.refl _) ?_ ?_ ?_ ?_
          · exact (by (try dsimp only); omega)
          · exact .cons (rfl) (.cons (rfl) (.cons (rfl) (.cons (rfl) (.nil))))
          · exact (by first | rfl | (rw [← rgTo_skip p x.1 (by simp_all)]; done) | (rw [← rgTo_skip p x.1 (by simp_all)]; rfl))
          · exact (by (try dsimp only); omega)
      ·
        replace hb6 := of_decide_eq_false hb6
        refine Seg.skipG rfl rfl rfl rfl ?_
        refine Seg.skipG rfl rfl rfl rfl ?_
        refine Seg.skipG rfl rfl rfl rfl ?_
        refine Seg.skipG rfl rfl rfl rfl ?_
        refine Seg.skipG rfl rfl rfl rfl ?_
        refine Seg.op (OpT.pickF rfl rfl) rfl ?_
        refine Seg.op (OpT.assign rfl) rfl ?_
        refine Seg.nil ?_
        refine At.then_n ?_
        refine Wp.condF rfl ?_
        refine Wp.region ?_
        refine Seg.op (OpT.move rfl) rfl ?_
        refine Seg.op (OpT.move rfl) rfl ?_
        refine Seg.op (OpT.conv Tryz.underlying3 Tryz.underlying5 rfl (fitsU8 (by omega))) rfl ?_
        refine Seg.op (OpT.move rfl) rfl ?_
        refine Seg.op (OpT.conv Tryz.underlying3 Tryz.underlying5 rfl (fitsU8 (by omega))) rfl ?_
        refine Seg.op (OpT.buildA (vs := [(0, (.int .u8 (((x.1 : Nat) : Int)))), (1, (.int .u8 (((x.1 : Nat) : Int))))]) (cs := #[(.int .u8 (((x.1 : Nat) : Int))), (.int .u8 (((x.1 : Nat) : Int)))]) Tryz.underlying113 ti113 ti5 rfl rfl rfl) rfl ?_
        refine Seg.buildSl1 (cs := (#[(.int .u8 (((x.1 : Nat) : Int))), (.int .u8 (((x.1 : Nat) : Int)))])) Tryz.underlying111 ti113 rfl rfl rfl rfl rfl rfl fun v10 => ?_
        refine Seg.append (z := (.agg #[.int .u8 0, .int .u8 0])) (i := 1) Tryz.underlying111 ti113 rfl (by decide) rfl rfl rfl (fun w hs => hs.srcRow (i := 0) rfl) (one_ofL rfl) (by omega) (by omega) rfl fun v11 => ?_
        refine Seg.drop (i := 0) ?_
        refine Seg.own (O := .row v11 113 2 ((rgTo p (x.1 + 1)).length) ((rgTo p (x.1 + 1)).flatMap encB) :: .blk Ba (.cells (bcs p) 34 (0, 0)) :: O) ?_ (by rw [rgTo_new p x.1 (by simp_all) (by first | omega | simp_all)]; simp [encB])
        refine Seg.op (OpT.assign rfl) rfl ?_
        refine Seg.nil ?_
        refine At.blk_n ?_
        refine At.blk_n ?_
        refine At.then_n ?_
        refine Wp.region ?_
        refine Seg.op (OpT.add rfl rfl (fits64 (by omega))) rfl ?_
        refine Seg.op (OpT.move rfl) rfl ?_
        refine Seg.nil ?_
        refine At.next (x.1 + 1, v11) (Hp.le.refl _) ?_ ?_ ?_ ?_
        · exact (by (try dsimp only); omega)
        · exact .cons (rfl) (.cons (rfl) (.cons (rfl) (.cons (rfl) (.nil))))
        · exact (by first | rfl | (rw [← rgTo_skip p x.1 (by simp_all)]; done) | (rw [← rgTo_skip p x.1 (by simp_all)]; rfl))
        · exact (by (try dsimp only); omega)
  ·
    replace hb4 := of_decide_eq_false hb4
    refine Wp.exit ?_
    refine At.then_x ?_
    refine At.then_x ?_
    refine At.blk_hit ?_
    refine At.then_n ?_
    refine Wp.seq ?_
    refine Wp.region ?_
    refine Seg.op (OpT.move rfl) rfl ?_
    refine Seg.op (OpT.assign rfl) rfl ?_
    refine Seg.nil ?_
    refine At.then_n ?_
    refine Wp.ret ?_
    refine At.freeze (i := 0) rfl fun H12 hle13 hsl14 => ?_
    refine At.drop (i := 0) ?_
    refine At.res1 rfl (RV.tmp (v := x.2) rfl) ?_
    exact Ret.mk (hle2.trans hle13) (⟨rfl, by have e : x.1 = 256 := (by omega); rw [e] at hsl14; exact hsl14⟩)
set_option maxHeartbeats 4000000 in
theorem part_w (l : List St) (v : Value) (hl : Sl H v 4 l.length (l.flatMap bcl)) (hn : l.length ≤ 4294967296) :
    Tri Tryz.prog 54 [v] H O (fun v H' O' => O' = O ∧ Sl H' v 4 (partsOf l).length ((partsOf l).flatMap bcl)) := by
  intro w hs
  refine wp_of Tryz.func54 rfl rfl rfl ?_ hs
  clear hs w
  refine Wp.seq ?_
  refine Wp.region ?_
  refine Seg.op (OpT.assign rfl) rfl ?_
  refine Seg.nil ?_
  refine At.then_n ?_
  refine Wp.seq ?_
  refine Wp.region ?_
  refine Seg.op (OpT.call ent74 rfl (of_w 0 255 (by decide) (by decide))) rfl ?_
  refine Seg.buildSl1 (cs := (bcs (ofP 0 255))) Tryz.underlying97 ti34 rfl rfl rfl rfl rfl rfl fun v1 => ?_
  refine Seg.op (OpT.assign rfl) rfl ?_
  refine Seg.nil ?_
  refine At.then_n ?_
  refine Wp.seq ?_
  refine Wp.seq ?_
  refine Wp.region ?_
  refine Seg.op (OpT.move rfl) rfl ?_
  refine Seg.op (OpT.lenImm Tryz.underlying97 rfl hl) rfl ?_
  refine Seg.op (OpT.move rfl) rfl ?_
  refine Seg.nil ?_
  refine At.then_n ?_
  refine Wp.block ?_
  refine Wp.loop (X := Nat × Value) (fun x => [(20, (.int .i64 (((x.1 : Nat) : Int)))), (3, x.2), (2, (.slice none 0 0)), (18, v), (19, (.int .i64 (((l.length : Nat) : Int))))]) (fun x => .row x.2 34 4 ((psTo l x.1).length) ((psTo l x.1).flatMap bcl) :: O) (fun x H' => x.1 ≤ l.length) (fun x => l.length - x.1) (0, v1) ?_ ?_ ?_ ?_
  · exact (by (try dsimp only); omega)
  · exact .cons (rfl) (.cons (rfl) (.cons (rfl) (.cons (rfl) (.cons (rfl) (.nil)))))
  · exact (by rw [psTo_zero]; simp [bcl])
  intro x H2 hle3 hi4
  have hp := psTo_len l x.1
  refine Wp.seq ?_
  refine Wp.region ?_
  refine Seg.op (OpT.lss rfl rfl) rfl ?_
  refine Seg.nil ?_
  refine At.then_n ?_
  refine Wp.seq ?_
  refine Wp.cond (b := decide (((x.1 : Nat) : Int) < ((l.length : Nat) : Int))) rfl (fun hb5 => ?_) (fun hb5 => ?_)
  ·
    replace hb5 := of_decide_eq_true hb5
    refine Wp.skip ?_
    refine At.then_n ?_
    refine Wp.seq ?_
    refine Wp.block ?_
    refine Wp.seq ?_
    refine Wp.region ?_
    refine Seg.op (OpT.ixImm Tryz.underlying97 ti34 rfl (hl.mono hle3) rfl (by omega)) rfl ?_
    refine Seg.op (OpT.ldImmA  (vs := (bcl (nth l x.1))) Tryz.underlying34 rfl ti34 (bcl_ne _) rfl (hl.mono hle3) (bcl_at l x.1 (by omega))) rfl ?_
    refine Seg.alloc (cs := bcs (fun _ => false)) ti34 bcs_empty rfl fun Bs => ?_
    refine Seg.stBlkW (i := 0) (cs' := (bcs (nth l x.1))) rfl rfl ti34 rfl rfl (bcs_one _) rfl ?_
    refine Seg.nil ?_
    refine At.then_n ?_
    refine Wp.seq ?_
    refine Wp.region ?_
    refine Seg.op (OpT.assign rfl) rfl ?_
    refine Seg.nil ?_
    refine At.then_n ?_
    refine Wp.seq ?_
    refine Wp.seq ?_
    refine Wp.nilRow 34 4 ?_
    refine Wp.region ?_
    refine Seg.op (OpT.move rfl) rfl ?_
    refine Seg.op (OpT.lenRow (i := 2) Tryz.underlying97 rfl rfl) rfl ?_
    refine Seg.op (OpT.move rfl) rfl ?_
    refine Seg.nil ?_
    refine At.then_n ?_
    refine Wp.block ?_
    refine Wp.loop (X := Nat × Value) (fun y => [(26, (.int .i64 (((y.1 : Nat) : Int)))), (6, y.2), (20, (.int .i64 (((x.1 : Nat) : Int)))), (3, x.2), (2, (.slice none 0 0)), (18, v), (19, (.int .i64 (((l.length : Nat) : Int)))), (21, (.bool (decide (((x.1 : Nat) : Int) < ((l.length : Nat) : Int))))), (22, (elemPtr v (x.1 * 4))), (23, (.agg (bcs (nth l x.1)))), (5, (ptr Bs (0))), (24, x.2), (25, (.int .i64 ((((psTo l x.1).length : Nat) : Int))))]) (fun y => .row y.2 34 4 ((nx l x.1 y.1 0).length) ((nx l x.1 y.1 0).flatMap bcl) :: .blk Bs (.cells (bcs (nth l x.1)) 34 (0, 0)) :: .row x.2 34 4 ((psTo l x.1).length) ((psTo l x.1).flatMap bcl) :: O) (fun y H' => y.1 ≤ (psTo l x.1).length) (fun y => (psTo l x.1).length - y.1) (0, .slice none 0 0) ?_ ?_ ?_ ?_
    · exact (by (try dsimp only); omega)
    · exact .cons (rfl) (.cons (rfl) (.cons (rfl) (.cons (rfl) (.cons (rfl) (.cons (rfl) (.cons (rfl) (.cons (rfl) (.cons (rfl) (.cons (rfl) (.cons (rfl) (.cons (rfl) (.cons (rfl) (.nil)))))))))))))
    · exact (by first | rfl | (rw [nx_zero]; done) | (rw [nx_zero]; rfl))
    intro y H6 hle7 hi8
    refine Wp.seq ?_
    refine Wp.region ?_
    refine Seg.op (OpT.lss rfl rfl) rfl ?_
    refine Seg.nil ?_
    refine At.then_n ?_
    refine Wp.seq ?_
    refine Wp.cond (b := decide (((y.1 : Nat) : Int) < (((psTo l x.1).length : Nat) : Int))) rfl (fun hb9 => ?_) (fun hb9 => ?_)
    ·
      replace hb9 := of_decide_eq_true hb9
      refine Wp.skip ?_
      refine At.then_n ?_
      refine Wp.seq ?_
      refine Wp.block ?_
      refine Wp.seq ?_
      refine Wp.region ?_
      refine Seg.op (OpT.ixRow (j := 2) Tryz.underlying97 ti34 rfl rfl rfl (by omega)) rfl ?_
      refine Seg.op (OpT.ldRowA (i := 2) (vs := (bcl (nth (psTo l x.1) y.1))) Tryz.underlying34 rfl ti34 (bcl_ne _) rfl rfl (bcl_at (psTo l x.1) y.1 (by omega))) rfl ?_
      refine Seg.alloc (cs := bcs (fun _ => false)) ti34 bcs_empty rfl fun Bp => ?_
      refine Seg.stBlkW (i := 0) (cs' := (bcs (nth (psTo l x.1) y.1))) rfl rfl ti34 rfl rfl (bcs_one _) rfl ?_
      refine Seg.nil ?_
      refine At.then_n ?_
      refine Wp.seq ?_
      refine Wp.drawE 9 follows rfl (by kernel_rfl) ?_
      refine SegL.opE (OpT.ldBlkW (i := 0) Tryz.underlying34 rfl ti34 rfl rfl rfl) rfl ?_
      refine SegL.opE (OpT.ldBlkW (i := 2) Tryz.underlying34 rfl ti34 rfl rfl rfl) rfl ?_
      refine SegL.opE (OpT.cast (v' := (.agg (bcs (cutA (nth (psTo l x.1) y.1) (nth l x.1))))) (OpT.call ent75 rfl (and_w (nth (psTo l x.1) y.1) (nth l x.1))) (cutA_eq _ _)) rfl ?_
      refine SegL.opE (OpT.ldBlkW (i := 0) Tryz.underlying34 rfl ti34 rfl rfl rfl) rfl ?_
      refine SegL.opE (OpT.ldBlkW (i := 2) Tryz.underlying34 rfl ti34 rfl rfl rfl) rfl ?_
      refine SegL.opE (OpT.call ent76 rfl (not_w (nth l x.1))) rfl ?_
      refine SegL.opE (OpT.cast (v' := (.agg (bcs (cutB (nth (psTo l x.1) y.1) (nth l x.1))))) (OpT.call ent75 rfl (and_w (nth (psTo l x.1) y.1) (fun t => !(nth l x.1) t))) (cutB_eq _ _)) rfl ?_
      refine SegL.opE (OpT.buildA (vs := [(0, .agg (bcs (cutA (nth (psTo l x.1) y.1) (nth l x.1)))), (1, .agg (bcs (cutB (nth (psTo l x.1) y.1) (nth l x.1))))]) (cs := bcs2 (cutA (nth (psTo l x.1) y.1) (nth l x.1)) (cutB (nth (psTo l x.1) y.1) (nth l x.1))) Tryz.underlying133 ti133 ti34 rfl rfl (fill2 _ _)) rfl ?_
      refine SegL.opE (OpT.move rfl) rfl ?_
      refine SegL.doneE ?_
      refine EndL.is (t := 26) (v := (.int .i64 (((y.1 : Nat) : Int)))) rfl ?_
      refine EndL.is (t := 6) (v := y.2) rfl ?_
      refine EndL.is (t := 20) (v := (.int .i64 (((x.1 : Nat) : Int)))) rfl ?_
      refine EndL.is (t := 3) (v := x.2) rfl ?_
      refine EndL.is (t := 2) (v := (.slice none 0 0)) rfl ?_
      refine EndL.is (t := 18) (v := v) rfl ?_
      refine EndL.is (t := 19) (v := (.int .i64 (((l.length : Nat) : Int)))) rfl ?_
      refine EndL.is (t := 21) (v := (.bool (decide (((x.1 : Nat) : Int) < ((l.length : Nat) : Int))))) rfl ?_
      refine EndL.is (t := 22) (v := (elemPtr v (x.1 * 4))) rfl ?_
      refine EndL.is (t := 23) (v := (.agg (bcs (nth l x.1)))) rfl ?_
      refine EndL.is (t := 5) (v := (ptr Bs (0))) rfl ?_
      refine EndL.is (t := 24) (v := x.2) rfl ?_
      refine EndL.is (t := 25) (v := (.int .i64 ((((psTo l x.1).length : Nat) : Int)))) rfl ?_
      refine EndL.is (t := 27) (v := (.bool (decide (((y.1 : Nat) : Int) < (((psTo l x.1).length : Nat) : Int))))) rfl ?_
      refine EndL.is (t := 28) (v := (elemPtr x.2 (y.1 * 4))) rfl ?_
      refine EndL.is (t := 29) (v := (.agg (bcs (nth (psTo l x.1) y.1)))) rfl ?_
      refine EndL.is (t := 8) (v := (ptr Bp (0))) rfl ?_
      refine EndL.is (t := 30) (v := (.agg (bcs (nth (psTo l x.1) y.1)))) rfl ?_
      refine EndL.is (t := 31) (v := (.agg (bcs (nth l x.1)))) rfl ?_
      refine EndL.is (t := 32) (v := (.agg (bcs (cutA (nth (psTo l x.1) y.1) (nth l x.1))))) rfl ?_
      refine EndL.is (t := 33) (v := (.agg (bcs (nth (psTo l x.1) y.1)))) rfl ?_
      refine EndL.is (t := 34) (v := (.agg (bcs (nth l x.1)))) rfl ?_
      refine EndL.is (t := 35) (v := (.agg (bcs (fun t => !(nth l x.1) t)))) rfl ?_
      refine EndL.is (t := 36) (v := (.agg (bcs (cutB (nth (psTo l x.1) y.1) (nth l x.1))))) rfl ?_
      refine EndL.is (t := 37) (v := (.agg (bcs2 (cutA (nth (psTo l x.1) y.1) (nth l x.1)) (cutB (nth (psTo l x.1) y.1) (nth l x.1))))) rfl ?_
      refine EndL.is (t := 38) (v := (.int .i64 (0))) rfl ?_
      refine EndL.seg ?_
      refine Seg.nil ?_
      refine At.then_n ?_
      refine Wp.block ?_
      refine Wp.loop (X := Nat × Value) (fun z => [(38, (.int .i64 (((z.1 : Nat) : Int)))), (6, z.2), (26, (.int .i64 (((y.1 : Nat) : Int)))), (20, (.int .i64 (((x.1 : Nat) : Int)))), (3, x.2), (2, (.slice none 0 0)), (18, v), (19, (.int .i64 (((l.length : Nat) : Int)))), (21, (.bool (decide (((x.1 : Nat) : Int) < ((l.length : Nat) : Int))))), (22, (elemPtr v (x.1 * 4))), (23, (.agg (bcs (nth l x.1)))), (5, (ptr Bs (0))), (24, x.2), (25, (.int .i64 ((((psTo l x.1).length : Nat) : Int)))), (27, (.bool (decide (((y.1 : Nat) : Int) < (((psTo l x.1).length : Nat) : Int))))), (28, (elemPtr x.2 (y.1 * 4))), (29, (.agg (bcs (nth (psTo l x.1) y.1)))), (8, (ptr Bp (0))), (30, (.agg (bcs (nth (psTo l x.1) y.1)))), (31, (.agg (bcs (nth l x.1)))), (32, (.agg (bcs (cutA (nth (psTo l x.1) y.1) (nth l x.1))))), (33, (.agg (bcs (nth (psTo l x.1) y.1)))), (34, (.agg (bcs (nth l x.1)))), (35, (.agg (bcs (fun t => !(nth l x.1) t)))), (36, (.agg (bcs (cutB (nth (psTo l x.1) y.1) (nth l x.1))))), (37, (.agg (bcs2 (cutA (nth (psTo l x.1) y.1) (nth l x.1)) (cutB (nth (psTo l x.1) y.1) (nth l x.1)))))]) (fun z => .blk Bp (.cells (bcs (nth (psTo l x.1) y.1)) 34 (0, 0)) :: .row z.2 34 4 ((nx l x.1 y.1 z.1).length) ((nx l x.1 y.1 z.1).flatMap bcl) :: .blk Bs (.cells (bcs (nth l x.1)) 34 (0, 0)) :: .row x.2 34 4 ((psTo l x.1).length) ((psTo l x.1).flatMap bcl) :: O) (fun z H' => z.1 ≤ 2) (fun z => 2 - z.1) (0, y.2) ?_ ?_ ?_ ?_
      · exact (by (try dsimp only); omega)
      · exact .cons (rfl) (.cons (rfl) (.cons (rfl) (.cons (rfl) (.cons (rfl) (.cons (rfl) (.cons (rfl) (.cons (rfl) (.cons (rfl) (.cons (rfl) (.cons (rfl) (.cons (rfl) (.cons (rfl) (.cons (rfl) (.cons (rfl) (.cons (rfl) (.cons (rfl) (.cons (rfl) (.cons (rfl) (.cons (rfl) (.cons (rfl) (.cons (rfl) (.cons (rfl) (.cons (rfl) (.cons (rfl) (.cons (rfl) (.nil))))))))))))))))))))))))))
      · exact (rfl)
      intro z H10 hle11 hi12
      have hx := nx_len l x.1 y.1 z.1 (by omega)
      refine Wp.seq ?_
      refine Wp.region ?_
      refine Seg.op (OpT.lss rfl rfl) rfl ?_
      refine Seg.nil ?_
      refine At.then_n ?_
      refine Wp.seq ?_
      refine Wp.cond (b := decide (((z.1 : Nat) : Int) < 2)) rfl (fun hb13 => ?_) (fun hb13 => ?_)
      ·
        replace hb13 := of_decide_eq_true hb13
        refine Wp.skip ?_
        refine At.then_n ?_
        refine Wp.seq ?_
        refine Wp.block ?_
        refine Wp.seq ?_
        refine Wp.region ?_
        refine Seg.op (OpT.cast (v' := .agg (bcs (sel (cutA (nth (psTo l x.1) y.1) (nth l x.1)) (cutB (nth (psTo l x.1) y.1) (nth l x.1)) z.1))) (OpT.indexA Tryz.underlying133 Tryz.underlying34 rfl ti34 rfl rfl (by omega)) (bcs2_at _ _ z.1 (by omega))) rfl ?_
        refine Seg.alloc (cs := bcs (fun _ => false)) ti34 bcs_empty rfl fun Bx => ?_
        refine Seg.stBlkW (i := 0) (cs' := (bcs (sel (cutA (nth (psTo l x.1) y.1) (nth l x.1)) (cutB (nth (psTo l x.1) y.1) (nth l x.1)) z.1))) rfl rfl ti34 rfl rfl (bcs_one _) rfl ?_
        refine Seg.nil ?_
        refine At.then_n ?_
        refine Wp.seq ?_
        refine Wp.region ?_
        refine Seg.op (OpT.ldBlkW (i := 0) Tryz.underlying34 rfl ti34 rfl rfl rfl) rfl ?_
        refine Seg.op (OpT.cast (OpT.buildA (ps := []) Tryz.underlying34 ti34 ti32 rfl rfl rfl) (congrArg Value.agg bcs_empty)) rfl ?_
        refine Seg.op (OpT.asB (b := !eqS (sel (cutA (nth (psTo l x.1) y.1) (nth l x.1)) (cutB (nth (psTo l x.1) y.1) (nth l x.1)) z.1) (fun _ => false)) (c := ne (sel (cutA (nth (psTo l x.1) y.1) (nth l x.1)) (cutB (nth (psTo l x.1) y.1) (nth l x.1)) z.1)) (OpT.neBs (p := (sel (cutA (nth (psTo l x.1) y.1) (nth l x.1)) (cutB (nth (psTo l x.1) y.1) (nth l x.1)) z.1)) (q := (fun _ => false)) eqg34 Tryz.underlying34 Tryz.underlying32 ti32 rfl rfl) (ne_eq _)) rfl ?_
        refine Seg.nil ?_
        refine At.then_n ?_
        refine Wp.cond (b := ne (sel (cutA (nth (psTo l x.1) y.1) (nth l x.1)) (cutB (nth (psTo l x.1) y.1) (nth l x.1)) z.1)) rfl (fun hb14 => ?_) (fun hb14 => ?_)
        ·
          refine Wp.region ?_
          refine Seg.op (OpT.move rfl) rfl ?_
          refine Seg.op (OpT.ldBlkW (i := 0) Tryz.underlying34 rfl ti34 rfl rfl rfl) rfl ?_
          refine Seg.buildSl1 (cs := (bcs (sel (cutA (nth (psTo l x.1) y.1) (nth l x.1)) (cutB (nth (psTo l x.1) y.1) (nth l x.1)) z.1))) Tryz.underlying97 ti34 rfl rfl rfl rfl rfl rfl fun v15 => ?_
          refine Seg.append (z := (.agg #[.int .u64 0, .int .u64 0, .int .u64 0, .int .u64 0])) (i := 3) Tryz.underlying97 ti34 rfl (by decide) rfl rfl rfl (fun w hs => hs.srcRow (i := 0) rfl) (by simpa using bcs_one _) (by omega) (by omega) rfl fun v16 => ?_
          refine Seg.drop (i := 0) ?_
          refine Seg.op (OpT.assign rfl) rfl ?_
          refine Seg.nil ?_
          refine At.blk_n ?_
          refine At.then_n ?_
          refine Wp.region ?_
          refine Seg.op (OpT.add rfl rfl (fits64 (by omega))) rfl ?_
          refine Seg.op (OpT.move rfl) rfl ?_
          refine Seg.nil ?_
          refine At.drop (i := 0) ?_
          refine At.next (z.1 + 1, v16) (Hp.le.refl _) ?_ ?_ ?_ ?_
          · exact (by (try dsimp only); omega)
          · exact .cons (rfl) (.cons (rfl) (.cons (rfl) (.cons (rfl) (.cons (rfl) (.cons (rfl) (.cons (rfl) (.cons (rfl) (.cons (rfl) (.cons (rfl) (.cons (rfl) (.cons (rfl) (.cons (rfl) (.cons (rfl) (.cons (rfl) (.cons (rfl) (.cons (rfl) (.cons (rfl) (.cons (rfl) (.cons (rfl) (.cons (rfl) (.cons (rfl) (.cons (rfl) (.cons (rfl) (.cons (rfl) (.cons (rfl) (.nil))))))))))))))))))))))))))
          · exact (by first | (rw [nx_hit l x.1 y.1 z.1 (by omega) (by assumption)]; simp [bcl]; done) | (rw [nx_skip l x.1 y.1 z.1 (by omega) (by assumption)]; rfl))
          · exact (by (try dsimp only); omega)
        ·
          refine Wp.skip ?_
          refine At.blk_n ?_
          refine At.then_n ?_
          refine Wp.region ?_
          refine Seg.op (OpT.add rfl rfl (fits64 (by omega))) rfl ?_
          refine Seg.op (OpT.move rfl) rfl ?_
          refine Seg.nil ?_
          refine At.drop (i := 0) ?_
          refine At.next (z.1 + 1, z.2) (Hp.le.refl _) ?_ ?_ ?_ ?_
          · exact (by (try dsimp only); omega)
          · exact .cons (rfl) (.cons (rfl) (.cons (rfl) (.cons (rfl) (.cons (rfl) (.cons (rfl) (.cons (rfl) (.cons (rfl) (.cons (rfl) (.cons (rfl) (.cons (rfl) (.cons (rfl) (.cons (rfl) (.cons (rfl) (.cons (rfl) (.cons (rfl) (.cons (rfl) (.cons (rfl) (.cons (rfl) (.cons (rfl) (.cons (rfl) (.cons (rfl) (.cons (rfl) (.cons (rfl) (.cons (rfl) (.cons (rfl) (.nil))))))))))))))))))))))))))
          · exact (by first | (rw [nx_hit l x.1 y.1 z.1 (by omega) (by assumption)]; simp [bcl]; done) | (rw [nx_skip l x.1 y.1 z.1 (by omega) (by assumption)]; rfl))
          · exact (by (try dsimp only); omega)
      ·
        replace hb13 := of_decide_eq_false hb13
        refine Wp.exit ?_
        refine At.then_x ?_
        refine At.then_x ?_
        refine At.blk_hit ?_
        refine At.blk_n ?_
        refine At.then_n ?_
        refine Wp.region ?_
        refine Seg.op (OpT.add rfl rfl (fits64 (by omega))) rfl ?_
        refine Seg.op (OpT.move rfl) rfl ?_
        refine Seg.nil ?_
        refine At.drop (i := 0) ?_
        refine At.next (y.1 + 1, z.2) hle11 ?_ ?_ ?_ ?_
        · exact (by (try dsimp only); omega)
        · exact .cons (rfl) (.cons (rfl) (.cons (rfl) (.cons (rfl) (.cons (rfl) (.cons (rfl) (.cons (rfl) (.cons (rfl) (.cons (rfl) (.cons (rfl) (.cons (rfl) (.cons (rfl) (.cons (rfl) (.nil)))))))))))))
        · exact (by first | rfl | (rw [nx_next l x.1 y.1 (by omega), show z.1 = 2 by omega]; done) | (rw [nx_next l x.1 y.1 (by omega), show z.1 = 2 by omega]; rfl))
        · exact (by (try dsimp only); omega)
    ·
      replace hb9 := of_decide_eq_false hb9
      refine Wp.exit ?_
      refine At.then_x ?_
      refine At.then_x ?_
      refine At.blk_hit ?_
      refine At.then_n ?_
      refine Wp.region ?_
      refine Seg.op (OpT.move rfl) rfl ?_
      refine Seg.op (OpT.assign rfl) rfl ?_
      refine Seg.nil ?_
      refine At.drop (i := 2) ?_
      refine At.blk_n ?_
      refine At.then_n ?_
      refine Wp.region ?_
      refine Seg.op (OpT.add rfl rfl (fits64 (by omega))) rfl ?_
      refine Seg.op (OpT.move rfl) rfl ?_
      refine Seg.nil ?_
      refine At.drop (i := 1) ?_
      refine At.next (x.1 + 1, y.2) hle7 ?_ ?_ ?_ ?_
      · exact (by (try dsimp only); omega)
      · exact .cons (rfl) (.cons (rfl) (.cons (rfl) (.cons (rfl) (.cons (rfl) (.nil)))))
      · exact (by first | rfl | (rw [nx_done l x.1 y.1 (by omega) (by omega)]; done) | (rw [nx_done l x.1 y.1 (by omega) (by omega)]; rfl))
      · exact (by (try dsimp only); omega)
  ·
    replace hb5 := of_decide_eq_false hb5
    refine Wp.exit ?_
    refine At.then_x ?_
    refine At.then_x ?_
    refine At.blk_hit ?_
    refine At.then_n ?_
    refine Wp.seq ?_
    refine Wp.region ?_
    refine Seg.op (OpT.assign rfl) rfl ?_
    refine Seg.nil ?_
    refine At.then_n ?_
    refine Wp.seq ?_
    refine Wp.nilRow 34 4 ?_
    refine Wp.region ?_
    refine Seg.op (OpT.cast (OpT.buildA (ps := []) Tryz.underlying34 ti34 ti32 rfl rfl rfl) (congrArg Value.agg bcs_empty)) rfl ?_
    refine Seg.alloc (cs := bcs (fun _ => false)) ti34 bcs_empty rfl fun Bn => ?_
    refine Seg.stBlkW (i := 0) (cs' := (bcs (fun _ => false))) rfl rfl ti34 rfl rfl (bcs_one _) rfl ?_
    refine Seg.nil ?_
    refine At.then_n ?_
    refine Wp.seq ?_
    refine Wp.seq ?_
    refine Wp.region ?_
    refine Seg.op (OpT.move rfl) rfl ?_
    refine Seg.nil ?_
    refine At.then_n ?_
    refine Wp.block ?_
    refine Wp.loop (X := Nat × Value) (fun b => [(53, (.int .i64 (((b.1 : Nat) : Int)))), (11, b.2), (3, x.2), (2, (.slice none 0 0)), (12, (ptr Bn (0)))]) (fun b => .blk Bn (.cells (bcs (outSt (psTo l x.1) b.1).2) 34 (0, 0)) :: .row b.2 34 4 (((outSt (psTo l x.1) b.1).1).length) (((outSt (psTo l x.1) b.1).1).flatMap bcl) :: .row x.2 34 4 ((psTo l x.1).length) ((psTo l x.1).flatMap bcl) :: O) (fun b H' => b.1 ≤ 256) (fun b => 256 - b.1) (0, .slice none 0 0) ?_ ?_ ?_ ?_
    · exact (by (try dsimp only); omega)
    · exact .cons (rfl) (.cons (rfl) (.cons (rfl) (.cons (rfl) (.cons (rfl) (.nil)))))
    · exact (by first | rfl | (rw [outSt_zero]; done) | (rw [outSt_zero]; rfl))
    intro b H17 hle18 hi19
    refine Wp.seq ?_
    refine Wp.region ?_
    refine Seg.op (OpT.lss rfl rfl) rfl ?_
    refine Seg.nil ?_
    refine At.then_n ?_
    refine Wp.seq ?_
    refine Wp.cond (b := decide (((b.1 : Nat) : Int) < 256)) rfl (fun hb20 => ?_) (fun hb20 => ?_)
    ·
      replace hb20 := of_decide_eq_true hb20
      refine Wp.skip ?_
      refine At.then_n ?_
      refine Wp.seq ?_
      refine Wp.block ?_
      refine Wp.seq ?_
      refine Wp.region ?_
      refine Seg.op (OpT.move rfl) rfl ?_
      refine Seg.op (OpT.assign rfl) rfl ?_
      refine Seg.nil ?_
      refine At.then_n ?_
      refine Wp.seq ?_
      refine Wp.seq ?_
      refine Wp.region ?_
      refine Seg.op (OpT.ldBlkW (i := 0) Tryz.underlying34 rfl ti34 rfl rfl rfl) rfl ?_
      refine Seg.op (OpT.move rfl) rfl ?_
      refine Seg.op (OpT.conv Tryz.underlying3 Tryz.underlying5 rfl (fitsU8 (by omega))) rfl ?_
      refine Seg.op (OpT.call ent58 rfl (has_w ((outSt (psTo l x.1) b.1).2) b.1 (by omega))) rfl ?_
      refine Seg.nil ?_
      refine At.then_n ?_
      refine Wp.cond (b := ((outSt (psTo l x.1) b.1).2) b.1) rfl (fun hb21 => ?_) (fun hb21 => ?_)
      ·
        refine Wp.exit ?_
        refine At.then_x ?_
        refine At.blk_hit ?_
        refine At.then_n ?_
        refine Wp.region ?_
        refine Seg.op (OpT.add rfl rfl (fits64 (by omega))) rfl ?_
        refine Seg.op (OpT.move rfl) rfl ?_
        refine Seg.nil ?_
        refine At.next (b.1 + 1, b.2) (Hp.le.refl _) ?_ ?_ ?_ ?_
        · exact (by (try dsimp only); omega)
        · exact .cons (rfl) (.cons (rfl) (.cons (rfl) (.cons (rfl) (.cons (rfl) (.nil)))))
        · exact (by first | (rw [outSt_skip _ b.1 (by assumption)]; done) | (rw [outSt_skip _ b.1 (by assumption)]; rfl) | (rw [outSt_new _ b.1 m.1 (by assumption) (by omega)]; done) | (rw [outSt_new _ b.1 m.1 (by assumption) (by omega)]; rfl))
        · exact (by (try dsimp only); omega)
      ·
        refine Wp.skip ?_
        refine At.then_n ?_
        refine Wp.seq ?_
        refine Wp.region ?_
        refine Seg.op (OpT.move rfl) rfl ?_
        refine Seg.op (OpT.lenRow (i := 2) Tryz.underlying97 rfl rfl) rfl ?_
        refine Seg.op (OpT.move rfl) rfl ?_
        refine Seg.nil ?_
        refine At.then_n ?_
        refine Wp.block ?_
        refine Wp.loop (X := Nat × Value) (fun m => [(62, (.int .i64 (((m.1 : Nat) : Int)))), (11, m.2), (53, (.int .i64 (((b.1 : Nat) : Int)))), (3, x.2), (2, (.slice none 0 0)), (12, (ptr Bn (0))), (54, (.bool (decide (((b.1 : Nat) : Int) < 256)))), (55, (.int .i64 (((b.1 : Nat) : Int)))), (13, (.int .i64 (((b.1 : Nat) : Int)))), (56, (.agg (bcs (outSt (psTo l x.1) b.1).2))), (57, (.int .i64 (((b.1 : Nat) : Int)))), (58, (.int .u8 (((b.1 : Nat) : Int)))), (59, (.bool (((outSt (psTo l x.1) b.1).2) b.1))), (60, x.2), (61, (.int .i64 ((((psTo l x.1).length : Nat) : Int))))]) (fun m => .blk Bn (.cells (bcs (outIn (psTo l x.1) b.1 m.1).2) 34 (0, 0)) :: .row m.2 34 4 (((outIn (psTo l x.1) b.1 m.1).1).length) (((outIn (psTo l x.1) b.1 m.1).1).flatMap bcl) :: .row x.2 34 4 ((psTo l x.1).length) ((psTo l x.1).flatMap bcl) :: O) (fun m H' => m.1 ≤ (psTo l x.1).length) (fun m => (psTo l x.1).length - m.1) (0, b.2) ?_ ?_ ?_ ?_
        · exact (by (try dsimp only); omega)
        · exact .cons (rfl) (.cons (rfl) (.cons (rfl) (.cons (rfl) (.cons (rfl) (.cons (rfl) (.cons (rfl) (.cons (rfl) (.cons (rfl) (.cons (rfl) (.cons (rfl) (.cons (rfl) (.cons (rfl) (.cons (rfl) (.cons (rfl) (.nil)))))))))))))))
        · exact (by first | rfl | (rw [outIn_zero]; done) | (rw [outIn_zero]; rfl))
        intro m H22 hle23 hi24
        have ho := outIn_len (psTo l x.1) (by omega) b.1 m.1
        refine Wp.seq ?_
        refine Wp.region ?_
        refine Seg.op (OpT.lss rfl rfl) rfl ?_
        refine Seg.nil ?_
        refine At.then_n ?_
        refine Wp.seq ?_
        refine Wp.cond (b := decide (((m.1 : Nat) : Int) < (((psTo l x.1).length : Nat) : Int))) rfl (fun hb25 => ?_) (fun hb25 => ?_)
        ·
          replace hb25 := of_decide_eq_true hb25
          refine Wp.skip ?_
          refine At.then_n ?_
          refine Wp.seq ?_
          refine Wp.block ?_
          refine Wp.seq ?_
          refine Wp.region ?_
          refine Seg.op (OpT.ixRow (j := 2) Tryz.underlying97 ti34 rfl rfl rfl (by omega)) rfl ?_
          refine Seg.op (OpT.ldRowA (i := 2) (vs := (bcl (nth (psTo l x.1) m.1))) Tryz.underlying34 rfl ti34 (bcl_ne _) rfl rfl (bcl_at (psTo l x.1) m.1 (by omega))) rfl ?_
          refine Seg.alloc (cs := bcs (fun _ => false)) ti34 bcs_empty rfl fun Bq => ?_
          refine Seg.stBlkW (i := 0) (cs' := (bcs (nth (psTo l x.1) m.1))) rfl rfl ti34 rfl rfl (bcs_one _) rfl ?_
          refine Seg.nil ?_
          refine At.then_n ?_
          refine Wp.seq ?_
          refine Wp.region ?_
          refine Seg.op (OpT.ldBlkW (i := 0) Tryz.underlying34 rfl ti34 rfl rfl rfl) rfl ?_
          refine Seg.op (OpT.move rfl) rfl ?_
          refine Seg.op (OpT.conv Tryz.underlying3 Tryz.underlying5 rfl (fitsU8 (by omega))) rfl ?_
          refine Seg.op (OpT.call ent58 rfl (has_w (nth (psTo l x.1) m.1) b.1 (by omega))) rfl ?_
          refine Seg.nil ?_
          refine At.then_n ?_
          refine Wp.cond (b := (nth (psTo l x.1) m.1) b.1) rfl (fun hb26 => ?_) (fun hb26 => ?_)
          ·
            refine Wp.seq ?_
            refine Wp.region ?_
            refine Seg.op (OpT.move rfl) rfl ?_
            refine Seg.op (OpT.ldBlkW (i := 0) Tryz.underlying34 rfl ti34 rfl rfl rfl) rfl ?_
            refine Seg.buildSl1 (cs := (bcs (nth (psTo l x.1) m.1))) Tryz.underlying97 ti34 rfl rfl rfl rfl rfl rfl fun v27 => ?_
            refine Seg.append (z := (.agg #[.int .u64 0, .int .u64 0, .int .u64 0, .int .u64 0])) (i := 3) Tryz.underlying97 ti34 rfl (by decide) rfl rfl rfl (fun w hs => hs.srcRow (i := 0) rfl) (by simpa using bcs_one _) (by omega) (by omega) rfl fun v28 => ?_
            refine Seg.drop (i := 0) ?_
            refine Seg.op (OpT.assign rfl) rfl ?_
            refine Seg.nil ?_
            refine At.then_n ?_
            refine Wp.region ?_
            refine Seg.op (OpT.ldBlkW (i := 1) Tryz.underlying34 rfl ti34 rfl rfl rfl) rfl ?_
            refine Seg.op (OpT.ldBlkW (i := 0) Tryz.underlying34 rfl ti34 rfl rfl rfl) rfl ?_
            refine Seg.op (OpT.call ent77 rfl (or_w (outIn (psTo l x.1) b.1 m.1).2 (nth (psTo l x.1) m.1))) rfl ?_
            refine Seg.stBlkW (i := 1) (cs' := (bcs (fun y => (outIn (psTo l x.1) b.1 m.1).2 y || (nth (psTo l x.1) m.1) y))) rfl rfl ti34 rfl rfl (bcs_one _) rfl ?_
            refine Seg.nil ?_
            refine At.blk_n ?_
            refine At.then_n ?_
            refine Wp.region ?_
            refine Seg.op (OpT.add rfl rfl (fits64 (by omega))) rfl ?_
            refine Seg.op (OpT.move rfl) rfl ?_
            refine Seg.nil ?_
            refine At.drop (i := 0) ?_
            refine At.next (m.1 + 1, v28) (Hp.le.refl _) ?_ ?_ ?_ ?_
            · exact (by (try dsimp only); omega)
            · exact .cons (rfl) (.cons (rfl) (.cons (rfl) (.cons (rfl) (.cons (rfl) (.cons (rfl) (.cons (rfl) (.cons (rfl) (.cons (rfl) (.cons (rfl) (.cons (rfl) (.cons (rfl) (.cons (rfl) (.cons (rfl) (.cons (rfl) (.nil)))))))))))))))
            · exact (by first | (rw [outIn_hit _ b.1 m.1 (by omega) (by assumption)]; simp [bcl]; done) | (rw [outIn_skip _ b.1 m.1 (by omega) (by assumption)]; rfl))
            · exact (by (try dsimp only); omega)
          ·
            refine Wp.skip ?_
            refine At.blk_n ?_
            refine At.then_n ?_
            refine Wp.region ?_
            refine Seg.op (OpT.add rfl rfl (fits64 (by omega))) rfl ?_
            refine Seg.op (OpT.move rfl) rfl ?_
            refine Seg.nil ?_
            refine At.drop (i := 0) ?_
            refine At.next (m.1 + 1, m.2) (Hp.le.refl _) ?_ ?_ ?_ ?_
            · exact (by (try dsimp only); omega)
            · exact .cons (rfl) (.cons (rfl) (.cons (rfl) (.cons (rfl) (.cons (rfl) (.cons (rfl) (.cons (rfl) (.cons (rfl) (.cons (rfl) (.cons (rfl) (.cons (rfl) (.cons (rfl) (.cons (rfl) (.cons (rfl) (.cons (rfl) (.nil)))))))))))))))
            · exact (by first | (rw [outIn_hit _ b.1 m.1 (by omega) (by assumption)]; simp [bcl]; done) | (rw [outIn_skip _ b.1 m.1 (by omega) (by assumption)]; rfl))
            · exact (by (try dsimp only); omega)
        ·
          replace hb25 := of_decide_eq_false hb25
          refine Wp.exit ?_
          refine At.then_x ?_
          refine At.then_x ?_
          refine At.blk_hit ?_
          refine At.blk_n ?_
          refine At.then_n ?_
          refine Wp.region ?_
          refine Seg.op (OpT.add rfl rfl (fits64 (by omega))) rfl ?_
          refine Seg.op (OpT.move rfl) rfl ?_
          refine Seg.nil ?_
          refine At.next (b.1 + 1, m.2) hle23 ?_ ?_ ?_ ?_
          · exact (by (try dsimp only); omega)
          · exact .cons (rfl) (.cons (rfl) (.cons (rfl) (.cons (rfl) (.cons (rfl) (.nil)))))
          · exact (by first | (rw [outSt_skip _ b.1 (by assumption)]; done) | (rw [outSt_skip _ b.1 (by assumption)]; rfl) | (rw [outSt_new _ b.1 m.1 (by assumption) (by omega)]; done) | (rw [outSt_new _ b.1 m.1 (by assumption) (by omega)]; rfl))
          · exact (by (try dsimp only); omega)
    ·
      replace hb20 := of_decide_eq_false hb20
      refine Wp.exit ?_
      refine At.then_x ?_
      refine At.then_x ?_
      refine At.blk_hit ?_
      refine At.then_n ?_
      refine Wp.seq ?_
      refine Wp.region ?_
      refine Seg.op (OpT.move rfl) rfl ?_
      refine Seg.op (OpT.assign rfl) rfl ?_
      refine Seg.nil ?_
      refine At.then_n ?_
      refine Wp.ret ?_
      refine At.freeze (i := 1) rfl fun H29 hle30 hsl31 => ?_
      refine At.drop (i := 0) ?_
      refine At.drop (i := 0) ?_
      refine At.res1 rfl (RV.tmp (v := b.2) rfl) ?_
      exact Ret.mk ((hle3.trans hle18).trans hle30) (⟨rfl, by have e : x.1 = l.length := (by omega); have e2 : b.1 = 256 := (by omega); rw [e, e2] at hsl31; exact hsl31⟩)
theorem has_i {p : BSet} {b : Int} (h0 : 0 ≤ b) (h1 : b ≤ 255) : TriV Tryz.prog 58 [.agg (bcs p), .int .u8 b] H O (.bool (p b.toNat)) := TriV.has_i (fun b hb => has_w p b hb) h0 h1
theorem least_i {p : BSet} : TriV Tryz.prog 57 [.agg (bcs p)] H O (.tuple #[.int .u8 (lst p : Nat), .bool (anyS p)]) := least_w p
theorem ranges_i {p : BSet} : Tri Tryz.prog 62 [.agg (bcs p)] H O (fun v H' O' => (∃ v1, v1 = v ∧ SlD (cP cU8 cU8) H' (rgD p) v1) ∧ O = O') := Tri.ranges_i (ranges_w p)
theorem part_i {l : List BSet} {v : Value} (hl : SlD cBs H l v) (hn : l.length ≤ 4294967296) : Tri Tryz.prog 54 [v] H O (fun v H' O' => (∃ v1, v1 = v ∧ SlD cBs H' (partsD l) v1) ∧ O = O') := Tri.part_i (fun l v h hn => part_w l v h hn) hl hn
end Go.Proofs.YtjmbmodmepdmjaaGreatDoor
namespace Go.Proofs.YtjmbmodmepdmjaaGreatDoor
open Go.GK
variable {H : Hp} {O : List Res}
abbrev cAr : Cd (BSet × Int × Int) := cP cBs (cP cI64 cI64)
abbrev netB (B : Nat) (v1 v2 : Value) (m : Int) : Res := .blk B (.cells #[v1, v2, .int .i64 m] 66 (0, 0))
abbrev netA (v1 : Value) (F : Fam Int) : Res := .row v1 55 1 (famV F).length (famV F)
abbrev netC (v2 : Value) (G : Fam (BSet × Int × Int)) : Res := .row v2 94 1 (famV G).length (famV G)
abbrev netF (F : Fam Int) (G : Fam (BSet × Int × Int)) (O : List Res) : List Res := famR 3 1 F ++ (famR 96 6 G ++ O)
abbrev net (B : Nat) (v1 v2 : Value) (m : Int) (F : Fam Int) (G : Fam (BSet × Int × Int)) (O : List Res) : List Res := netB B v1 v2 m :: netA v1 F :: netC v2 G :: netF F G O
section
variable {P : Program} {Q : Exit → Act → World → Prop} {n : Nat} {L : List (Nat × Value)} {ops : Array Oper} {rest : List Oper} {B : Nat} {v1 v2 : Value} {m : Int} {F : Fam Int} {G : Fam (BSet × Int × Int)}
theorem SH.netOut {w : World} {A : List Res} (h : SH w H (A ++ net B v1 v2 m F G O)) : SH w H (net B v1 v2 m F G (A ++ O)) := by
  have h' : SH w H (A ++ (([netB B v1 v2 m, netA v1 F, netC v2 G] ++ (famR 3 1 F ++ famR 96 6 G)) ++ O)) := by simpa [net, netF] using h
  simpa [net, netF] using h'.rot
theorem SH.netIn {w : World} {A : List Res} (h : SH w H (net B v1 v2 m F G (A ++ O))) : SH w H (A ++ net B v1 v2 m F G O) := by
  have h' : SH w H (([netB B v1 v2 m, netA v1 F, netC v2 G] ++ (famR 3 1 F ++ famR 96 6 G)) ++ (A ++ O)) := by simpa [net, netF] using h
  simpa [net, netF] using h'.rot
theorem Seg.netOut (A : List Res) (k : Seg P ops Q rest n L H (net B v1 v2 m F G (A ++ O))) : Seg P ops Q rest n L H (A ++ net B v1 v2 m F G O) := fun a w hf hs => k a w hf (SH.netOut hs)
theorem Seg.netIn (A : List Res) (k : Seg P ops Q rest n L H (A ++ net B v1 v2 m F G O)) : Seg P ops Q rest n L H (net B v1 v2 m F G (A ++ O)) := fun a w hf hs => k a w hf (SH.netIn hs)
end
abbrev nilF {α : Type} : Value × List α × List Value := (.slice none 0 0, [], [])
set_option maxRecDepth 100000 in
theorem state_w {B : Nat} {v1 v2 : Value} {m : Int} {F : Fam Int} {G : Fam (BSet × Int × Int)} {D : List (List Int)} {E : List (List (BSet × Int × Int))} (hF : FamOk cI64 H D F) (hG : FamOk cAr H E G) (h1 : D.length + 1 ≤ capN) (h2 : E.length + 1 ≤ capN) :
    Tri Tryz.prog 36 [ptr B 0] H (net B v1 v2 m F G O) (fun r H' O' => ∃ v1' v2', .int .i64 ((E.length : Nat) : Int) = r ∧ net B v1' v2' m (F ++ [nilF]) (G ++ [nilF]) O = O') := by
 have l1 := famV_len hF
 have l2 := famV_len hG
 intro w hs
 refine wp_of Tryz.func36 rfl rfl rfl ?_ hs
 clear hs w
 refine Wp.seq ?_
 refine Wp.region ?_
 refine Seg.op (OpT.assign rfl) rfl ?_
 refine Seg.nil ?_
 refine At.then_n ?_
 refine Wp.seq ?_
 refine Wp.region ?_
 refine Seg.op (OpT.move rfl) rfl ?_
 refine Seg.op (OpT.move rfl) rfl ?_
 refine Seg.op (OpT.nilCheck rfl) rfl ?_
 refine Seg.op (OpT.fld (o' := 0) fl66_0 rfl rfl) rfl ?_
 refine Seg.op (OpT.ldBlk (i := 0) (v := v1) Tryz.underlying63 rfl rfl rfl rfl) rfl ?_
 refine Seg.buildD1 (c := cV) (y := .slice none 0 0) (cs := [.slice none 0 0]) Tryz.underlying63 ti55 rfl rfl rfl rfl ⟨rfl, rfl⟩ rfl fun v8 xs8 hq8 => ?_
 refine Seg.appD (c := cV) (i := 2) (j := 0) hF.row hq8 Tryz.underlying63 ti55 rfl (by decide) rfl rfl rfl rfl (by decide) (by rw [l1]; exact h1) rfl fun v9 xs9 hq9 => ?_
 refine Seg.op (OpT.nilCheck rfl) rfl ?_
 refine Seg.op (OpT.fld (o' := 0) fl66_0 rfl rfl) rfl ?_
 refine Seg.rowOne (i := 2) rfl fun h3 => ?_
 refine Seg.stBlk1 (i := 1) rfl rfl h3 ti63 rfl (Nat.le_of_ble_eq_true rfl) ?_
 refine Seg.nil ?_
 refine At.then_n ?_
 refine Wp.seq ?_
 refine Wp.region ?_
 refine Seg.op (OpT.move rfl) rfl ?_
 refine Seg.op (OpT.move rfl) rfl ?_
 refine Seg.op (OpT.nilCheck rfl) rfl ?_
 refine Seg.op (OpT.fld (o' := 1) fl66_1 rfl rfl) rfl ?_
 refine Seg.op (OpT.ldBlk (i := 1) (v := v2) Tryz.underlying64 rfl rfl rfl rfl) rfl ?_
 refine Seg.buildD1 (c := cV) (y := .slice none 0 0) (cs := [.slice none 0 0]) Tryz.underlying64 ti94 rfl rfl rfl rfl ⟨rfl, rfl⟩ rfl fun v17 xs17 hq17 => ?_
 refine Seg.appD (c := cV) (i := 4) (j := 0) hG.row hq17 Tryz.underlying64 ti94 rfl (by decide) rfl rfl rfl rfl (by decide) (by rw [l2]; exact h2) rfl fun v18 xs18 hq18 => ?_
 refine Seg.op (OpT.nilCheck rfl) rfl ?_
 refine Seg.op (OpT.fld (o' := 1) fl66_1 rfl rfl) rfl ?_
 refine Seg.rowOne (i := 4) rfl fun h4 => ?_
 refine Seg.stBlk1 (i := 2) rfl rfl h4 ti64 rfl (Nat.le_of_ble_eq_true rfl) ?_
 refine Seg.nil ?_
 refine At.then_n ?_
 refine Wp.seq ?_
 refine Wp.region ?_
 refine Seg.op (OpT.move rfl) rfl ?_
 refine Seg.op (OpT.nilCheck rfl) rfl ?_
 refine Seg.op (OpT.fld (o' := 1) fl66_1 rfl rfl) rfl ?_
 refine Seg.op (OpT.ldBlk (i := 2) (v := v18) Tryz.underlying64 rfl rfl rfl rfl) rfl ?_
 refine Seg.op (OpT.lenRow (i := 4) Tryz.underlying64 rfl rfl) rfl ?_
 refine Seg.op (OpT.sub rfl rfl (fits64 (by simp only [List.length_append, List.length_cons, List.length_nil, l2, capN] at *; omega))) rfl ?_
 refine Seg.op (OpT.assign rfl) rfl ?_
 refine Seg.nil ?_
 refine At.then_n ?_
 refine Wp.ret ?_
 obtain rfl := layV hq9
 obtain rfl := layV hq18
 refine At.res1 rfl (RV.tmp rfl) (fun w hs => ⟨_, _, _, rfl, Hp.le.refl _, ?_, v9, v18, ?_, rfl⟩)
 · have e1 : famV (F ++ [nilF]) = famV F ++ [Value.slice none 0 0] := by simp [famV]
   have e2 : famV (G ++ [nilF]) = famV G ++ [Value.slice none 0 0] := by simp [famV]
   have hs' := hs.permK [2, 3, 4] 5 rfl rfl rfl
   have k1 := SH.grow (A := [netB B v9 v18 m, .row v9 55 1 (famV F ++ [Value.slice none 0 0]).length (famV F ++ [Value.slice none 0 0]), .row v18 94 1 (famV G ++ [Value.slice none 0 0]).length (famV G ++ [Value.slice none 0 0])]) (F := F) (e := 3) (sz := 1) (R := famR 96 6 G ++ O) hs'
   have k2 := SH.grow2 k1
   show SH w H _
   simp only [net, netA, netC, netF, e1, e2]
   exact k2
 · rw [List.length_append, l2]; simp
end Go.Proofs.YtjmbmodmepdmjaaGreatDoor
namespace Go.GK
def w05_few_b1 (fu : Nat) (a0 : List (Bool × (List (Int × Int × Int)))) (k27 : Nat) (nx26 : Nat → Option Bool) : Option Bool :=
  bif decide (((k27 : Nat) : Int) < ((a0.length : Nat) : Int)) then (bnd (idx a0 ((k27 : Nat) : Int)) (fun x37 => bif decide (12 < ((x37.2.length : Nat) : Int)) then (some false) else (nx26 (k27 + 1)))) else (some (decide (((a0.length : Nat) : Int) ≤ 10)))
def w05_few (fu : Nat) (a0 : List (Bool × (List (Int × Int × Int)))) : Option Bool :=
  loopK fu (w05_few_b1 fu a0) 0
def au_wellFormed_b2 (fu : Nat) (a0 : List (Bool × (List (Int × Int × Int)))) (k249 : Nat) (nx248 : Nat → Option Bool) (x259 : Bool × (List (Int × Int × Int))) (k343 : Nat) (nx342 : Nat → Option Bool) : Option Bool :=
  bif decide (((k343 : Nat) : Int) < ((x259.2.length : Nat) : Int)) then (bnd (idx x259.2 ((k343 : Nat) : Int)) (fun x353 => bif decide (x353.2.1 < x353.1) then (some false) else (bif decide (x353.2.2 < 0) then (some false) else (bif decide (((a0.length : Nat) : Int) ≤ x353.2.2) then (some false) else (bif decide (0 < ((k343 : Nat) : Int)) then (chk (F64 (((k343 : Nat) : Int) - 1)) (bnd (idx x259.2 (((k343 : Nat) : Int) - 1)) (fun x380 => bif decide (x353.1 ≤ x380.2.1) then (some false) else (nx342 (k343 + 1))))) else (nx342 (k343 + 1))))))) else (nx248 (k249 + 1))
def au_wellFormed_b1 (fu : Nat) (a0 : List (Bool × (List (Int × Int × Int)))) (k249 : Nat) (nx248 : Nat → Option Bool) : Option Bool :=
  bif decide (((k249 : Nat) : Int) < ((a0.length : Nat) : Int)) then (bnd (idx a0 ((k249 : Nat) : Int)) (fun x259 => loopK fu (au_wellFormed_b2 fu a0 k249 nx248 x259) 0)) else (some true)
def au_wellFormed (fu : Nat) (a0 : List (Bool × (List (Int × Int × Int)))) : Option Bool :=
  loopK fu (au_wellFormed_b1 fu a0) 0
def au_Accepts_b2 (fu : Nat) (a1 : Str) (i231 : Int) (nx229 : (Int × Int) → Option Bool) (x241 : Bool × (List (Int × Int × Int))) (k291 : Nat) (nx290 : Nat → Option Bool) : Option Bool :=
  bif decide (((k291 : Nat) : Int) < ((x241.2.length : Nat) : Int)) then (bnd (idx x241.2 ((k291 : Nat) : Int)) (fun x301 => bnd (idxS a1 i231) (fun x314 => bif decide (x301.1 ≤ x314) then (bnd (idxS a1 i231) (fun x317 => bif decide (x317 ≤ x301.2.1) then (chk (F64 (i231 + 1)) (nx229 (x301.2.2, i231 + 1))) else (nx290 (k291 + 1)))) else (nx290 (k291 + 1))))) else (some false)
def au_Accepts_b1 (fu : Nat) (a0 : List (Bool × (List (Int × Int × Int)))) (a1 : Str) (i230 : Int) (i231 : Int) (nx229 : (Int × Int) → Option Bool) : Option Bool :=
  bif decide (i231 < ((a1.length : Nat) : Int)) then (bnd (idx a0 i230) (fun x241 => loopK fu (au_Accepts_b2 fu a1 i231 nx229 x241) 0)) else (bnd (idx a0 i230) (fun x321 => some x321.1))
def au_Accepts (fu : Nat) (a0 : List (Bool × (List (Int × Int × Int)))) (a1 : Str) : Option Bool :=
  bif decide (((a0.length : Nat) : Int) = 0) then (some false) else (bnd (au_wellFormed fu a0) (fun x6 => bif !x6 then (some false) else (loopK fu (fun p nx => au_Accepts_b1 fu a0 a1 p.1 p.2 nx) (0, 0))))
def slices_Equal_b1 (fu : Nat) (a0 : List (Int × Int × Int)) (a1 : List (Int × Int × Int)) (k72 : Nat) (nx71 : Nat → Option Bool) : Option Bool :=
  bif decide (((k72 : Nat) : Int) < ((a0.length : Nat) : Int)) then (bnd (idx a0 ((k72 : Nat) : Int)) (fun x96 => bnd (idx a1 ((k72 : Nat) : Int)) (fun x103 => bif !(decide (([x96.1, x96.2.1, x96.2.2] : List Int) = [x103.1, x103.2.1, x103.2.2])) then (some false) else (nx71 (k72 + 1))))) else (some true)
def slices_Equal (fu : Nat) (a0 : List (Int × Int × Int)) (a1 : List (Int × Int × Int)) : Option Bool :=
  bif decide (((a0.length : Nat) : Int) ≠ ((a1.length : Nat) : Int)) then (some false) else (loopK fu (slices_Equal_b1 fu a0 a1) 0)
def r05_Same_b2 (fu : Nat) (k280 : Nat) (nx279 : Nat → Option Bool) (x308 : Bool × (List (Int × Int × Int))) (x313 : Bool × (List (Int × Int × Int))) (k392 : Nat) (nx391 : Nat → Option Bool) : Option Bool :=
  bif decide (((k392 : Nat) : Int) < ((x308.2.length : Nat) : Int)) then (bnd (idx x308.2 ((k392 : Nat) : Int)) (fun x416 => bnd (idx x313.2 ((k392 : Nat) : Int)) (fun x423 => bif !(decide (([x416.1, x416.2.1, x416.2.2] : List Int) = [x423.1, x423.2.1, x423.2.2])) then (some false) else (nx391 (k392 + 1))))) else (nx279 (k280 + 1))
def r05_Same_b1 (fu : Nat) (a0 : List (Bool × (List (Int × Int × Int)))) (a1 : List (Bool × (List (Int × Int × Int)))) (k280 : Nat) (nx279 : Nat → Option Bool) : Option Bool :=
  bif decide (((k280 : Nat) : Int) < ((a0.length : Nat) : Int)) then (bnd (idx a0 ((k280 : Nat) : Int)) (fun x308 => bnd (idx a1 ((k280 : Nat) : Int)) (fun x313 => bif !(x308.1 == x313.1) then (some false) else (bif decide (((x308.2.length : Nat) : Int) ≠ ((x313.2.length : Nat) : Int)) then (some false) else (loopK fu (r05_Same_b2 fu k280 nx279 x308 x313) 0))))) else (some true)
def r05_Same (fu : Nat) (a0 : List (Bool × (List (Int × Int × Int)))) (a1 : List (Bool × (List (Int × Int × Int)))) : Option Bool :=
  bif decide (((a0.length : Nat) : Int) ≠ ((a1.length : Nat) : Int)) then (some false) else (loopK fu (r05_Same_b1 fu a0 a1) 0)
def au_Same_1 (fu : Nat) (a0 : Bool × (List (Int × Int × Int))) (a1 : Bool × (List (Int × Int × Int))) : Option Bool :=
  bif a0.1 == a1.1 then (bnd (slices_Equal fu a0.2 a1.2) (fun x8 => some x8)) else (some false)
def slices_EqualFunc_au_Same_1_b1 (fu : Nat) (a0 : List (Bool × (List (Int × Int × Int)))) (a1 : List (Bool × (List (Int × Int × Int)))) (k48 : Nat) (nx47 : Nat → Option Bool) : Option Bool :=
  bif decide (((k48 : Nat) : Int) < ((a0.length : Nat) : Int)) then (bnd (idx a0 ((k48 : Nat) : Int)) (fun x58 => bnd (idx a1 ((k48 : Nat) : Int)) (fun x65 => bnd (au_Same_1 fu x58 x65) (fun x72 => bif !x72 then (some false) else (nx47 (k48 + 1)))))) else (some true)
def slices_EqualFunc_au_Same_1 (fu : Nat) (a0 : List (Bool × (List (Int × Int × Int)))) (a1 : List (Bool × (List (Int × Int × Int)))) : Option Bool :=
  bif decide (((a0.length : Nat) : Int) ≠ ((a1.length : Nat) : Int)) then (some false) else (loopK fu (slices_EqualFunc_au_Same_1_b1 fu a0 a1) 0)
def au_Same (fu : Nat) (a0 : List (Bool × (List (Int × Int × Int)))) (a1 : List (Bool × (List (Int × Int × Int)))) : Option Bool :=
  bnd (slices_EqualFunc_au_Same_1 fu a0 a1) (fun x7 => some x7)
def au_Word_b1 (fu : Nat) (a0 : Str) (l143 : List (Bool × (List (Int × Int × Int)))) (i147 : Int) (nx142 : ((List (Bool × (List (Int × Int × Int)))) × Int) → Option (List (Bool × (List (Int × Int × Int))))) : Option (List (Bool × (List (Int × Int × Int)))) :=
  bif decide (i147 < ((a0.length : Nat) : Int)) then (bnd (idxS a0 i147) (fun x177 => bnd (idxS a0 i147) (fun x179 => chk (F64 (i147 + 1)) (chk (l143.length + ([(false, ([(x177, x179, i147 + 1)] : List (Int × Int × Int)))] : List (Bool × (List (Int × Int × Int)))).length ≤ capN) (chk (F64 (i147 + 1)) (nx142 (l143 ++ ([(false, ([(x177, x179, i147 + 1)] : List (Int × Int × Int)))] : List (Bool × (List (Int × Int × Int)))), i147 + 1))))))) else (chk (l143.length + ([(true, ([] : List (Int × Int × Int)))] : List (Bool × (List (Int × Int × Int)))).length ≤ capN) (some (l143 ++ ([(true, ([] : List (Int × Int × Int)))] : List (Bool × (List (Int × Int × Int)))))))
def au_Word (fu : Nat) (a0 : Str) : Option (List (Bool × (List (Int × Int × Int)))) :=
  loopK fu (fun p nx => au_Word_b1 fu a0 p.1 p.2 nx) (([] : List (Bool × (List (Int × Int × Int)))), 0)
def au_All (fu : Nat) : Option (List (Bool × (List (Int × Int × Int)))) :=
  some ([(true, ([(0, 255, 0)] : List (Int × Int × Int)))] : List (Bool × (List (Int × Int × Int))))
def au_cut_b2 (fu : Nat) (k190 : Nat) (nx186 : ((List Bool) × Nat) → Option (List Int)) (x200 : Bool × (List (Int × Int × Int))) (l258 : List Bool) (k261 : Nat) (nx257 : ((List Bool) × Nat) → Option (List Int)) : Option (List Int) :=
  bif decide (((k261 : Nat) : Int) < ((x200.2.length : Nat) : Int)) then (bnd (idx x200.2 ((k261 : Nat) : Int)) (fun x271 => bnd (idx l258 x271.1) (fun x279 => chk (F64 (x271.2.1 + 1)) (bnd (idx (l258.set x271.1.toNat true) (x271.2.1 + 1)) (fun x286 => nx257 ((l258.set x271.1.toNat true).set ((x271.2.1 + 1).toNat) true, k261 + 1)))))) else (nx186 (l258, k190 + 1))
def au_cut_b3 (fu : Nat) (l187 : List Bool) (l327 : List Int) (k331 : Nat) (nx326 : ((List Int) × Nat) → Option (List Int)) : Option (List Int) :=
  bif decide (((k331 : Nat) : Int) < 256) then (bnd (idx l187 ((k331 : Nat) : Int)) (fun x341 => bif x341 then (chk (l327.length + ([((k331 : Nat) : Int)] : List Int).length ≤ capN) (nx326 (l327 ++ ([((k331 : Nat) : Int)] : List Int), k331 + 1))) else (nx326 (l327, k331 + 1)))) else (some l327)
def au_cut_b1 (fu : Nat) (a0 : List (Bool × (List (Int × Int × Int)))) (l187 : List Bool) (k190 : Nat) (nx186 : ((List Bool) × Nat) → Option (List Int)) : Option (List Int) :=
  bif decide (((k190 : Nat) : Int) < ((a0.length : Nat) : Int)) then (bnd (idx a0 ((k190 : Nat) : Int)) (fun x200 => loopK fu (fun p nx => au_cut_b2 fu k190 nx186 x200 p.1 p.2 nx) (l187, 0))) else (loopK fu (fun p nx => au_cut_b3 fu l187 p.1 p.2 nx) (([] : List Int), 0))
def au_cut (fu : Nat) (a0 : List (Bool × (List (Int × Int × Int)))) : Option (List Int) :=
  bnd (idx (List.replicate 257 false : List Bool) 0) (fun x6 => loopK fu (fun p nx => au_cut_b1 fu a0 p.1 p.2 nx) ((List.replicate 257 false : List Bool).set 0 true, 0))
def au_complete_b3 (fu : Nat) (x576 : Bool × (List (Int × Int × Int))) (k742 : Nat) (nx737 : ((List Int) × Nat) → Option ((List Int) × (List (List Int)) × (List Bool) × (List Int))) (x752 : Int) (l802 : List Int) (k806 : Nat) (nx801 : ((List Int) × Nat) → Option ((List Int) × (List (List Int)) × (List Bool) × (List Int))) : Option ((List Int) × (List (List Int)) × (List Bool) × (List Int)) :=
  bif decide (((k806 : Nat) : Int) < ((x576.2.length : Nat) : Int)) then (bnd (idx x576.2 ((k806 : Nat) : Int)) (fun x816 => bif decide (x816.1 ≤ x752) then (bif decide (x752 ≤ x816.2.1) then (bnd (idx l802 ((k742 : Nat) : Int)) (fun x826 => nx801 (l802.set k742 x816.2.2, k806 + 1))) else (nx801 (l802, k806 + 1))) else (nx801 (l802, k806 + 1)))) else (nx737 (l802, k742 + 1))
def au_complete_b2 (fu : Nat) (a0 : List (Bool × (List (Int × Int × Int)))) (x3 : List Int) (l558 : List (List Int)) (l562 : List Bool) (k566 : Nat) (nx557 : ((List (List Int)) × (List Bool) × Nat) → Option ((List Int) × (List (List Int)) × (List Bool) × (List Int))) (x576 : Bool × (List (Int × Int × Int))) (l738 : List Int) (k742 : Nat) (nx737 : ((List Int) × Nat) → Option ((List Int) × (List (List Int)) × (List Bool) × (List Int))) : Option ((List Int) × (List (List Int)) × (List Bool) × (List Int)) :=
  bif decide (((k742 : Nat) : Int) < ((x3.length : Nat) : Int)) then (bnd (idx x3 ((k742 : Nat) : Int)) (fun x752 => bnd (idx l738 ((k742 : Nat) : Int)) (fun x755 => loopK fu (fun p nx => au_complete_b3 fu x576 k742 nx737 x752 p.1 p.2 nx) (l738.set k742 ((a0.length : Nat) : Int), 0)))) else (chk (l558.length + ([l738] : List (List Int)).length ≤ capN) (chk (l562.length + ([x576.1] : List Bool).length ≤ capN) (nx557 (l558 ++ ([l738] : List (List Int)), l562 ++ ([x576.1] : List Bool), k566 + 1))))
def au_complete_b4 (fu : Nat) (a0 : List (Bool × (List (Int × Int × Int)))) (x3 : List Int) (l558 : List (List Int)) (l562 : List Bool) (l883 : List Int) (k887 : Nat) (nx882 : ((List Int) × Nat) → Option ((List Int) × (List (List Int)) × (List Bool) × (List Int))) : Option ((List Int) × (List (List Int)) × (List Bool) × (List Int)) :=
  bif decide (((k887 : Nat) : Int) < (((List.replicate x3.length 0 : List Int).length : Nat) : Int)) then (bnd (idx l883 ((k887 : Nat) : Int)) (fun x897 => nx882 (l883.set k887 ((a0.length : Nat) : Int), k887 + 1))) else (chk (l558.length + ([l883] : List (List Int)).length ≤ capN) (chk (l562.length + ([false] : List Bool).length ≤ capN) (some (x3, l558 ++ ([l883] : List (List Int)), l562 ++ ([false] : List Bool), ([] : List Int)))))
def au_complete_b1 (fu : Nat) (a0 : List (Bool × (List (Int × Int × Int)))) (x3 : List Int) (l558 : List (List Int)) (l562 : List Bool) (k566 : Nat) (nx557 : ((List (List Int)) × (List Bool) × Nat) → Option ((List Int) × (List (List Int)) × (List Bool) × (List Int))) : Option ((List Int) × (List (List Int)) × (List Bool) × (List Int)) :=
  bif decide (((k566 : Nat) : Int) < ((a0.length : Nat) : Int)) then (bnd (idx a0 ((k566 : Nat) : Int)) (fun x576 => chk (x3.length ≤ capN) (loopK fu (fun p nx => au_complete_b2 fu a0 x3 l558 l562 k566 nx557 x576 p.1 p.2 nx) ((List.replicate x3.length 0 : List Int), 0)))) else (chk (x3.length ≤ capN) (loopK fu (fun p nx => au_complete_b4 fu a0 x3 l558 l562 p.1 p.2 nx) ((List.replicate x3.length 0 : List Int), 0)))
def au_complete (fu : Nat) (a0 : List (Bool × (List (Int × Int × Int)))) : Option ((List Int) × (List (List Int)) × (List Bool) × (List Int)) :=
  bnd (au_cut fu a0) (fun x3 => loopK fu (fun p nx => au_complete_b1 fu a0 x3 p.1 p.2.1 p.2.2 nx) (([] : List (List Int)), ([] : List Bool), 0))
def au_table_live_b3 (fu : Nat) (a0 : (List Int) × (List (List Int)) × (List Bool) × (List Int)) (l599 : List Bool) (b603 : Bool) (k604 : Nat) (nx598 : ((List Bool) × Bool × Nat) → Option (List Bool)) (x617 : List Int) (b650 : Bool) (k651 : Nat) (nx649 : (Bool × Nat) → Option (List Bool)) : Option (List Bool) :=
  bif decide (((k651 : Nat) : Int) < ((x617.length : Nat) : Int)) then (bnd (idx x617 ((k651 : Nat) : Int)) (fun x661 => bif b650 then (nx649 (true, k651 + 1)) else (bnd (idx a0.2.2.2 x661) (fun x665 => bnd (idx l599 x665) (fun x668 => nx649 (x668, k651 + 1)))))) else (bif b650 then (bnd (idx a0.2.2.2 ((k604 : Nat) : Int)) (fun x672 => bnd (idx l599 x672) (fun x675 => bif !x675 then (bnd (idx a0.2.2.2 ((k604 : Nat) : Int)) (fun x679 => bnd (idx l599 x679) (fun x682 => nx598 (l599.set x679.toNat true, true, k604 + 1)))) else (nx598 (l599, b603, k604 + 1))))) else (nx598 (l599, b603, k604 + 1)))
def au_table_live_b2 (fu : Nat) (a0 : (List Int) × (List (List Int)) × (List Bool) × (List Int)) (nx443 : ((List Bool) × Bool) → Option (List Bool)) (l599 : List Bool) (b603 : Bool) (k604 : Nat) (nx598 : ((List Bool) × Bool × Nat) → Option (List Bool)) : Option (List Bool) :=
  bif decide (((k604 : Nat) : Int) < ((a0.2.1.length : Nat) : Int)) then (bnd (idx a0.2.2.1 ((k604 : Nat) : Int)) (fun x614 => bnd (idx a0.2.1 ((k604 : Nat) : Int)) (fun x617 => loopK fu (fun p nx => au_table_live_b3 fu a0 l599 b603 k604 nx598 x617 p.1 p.2 nx) (x614, 0)))) else (nx443 (l599, b603))
def au_table_live_b1 (fu : Nat) (a0 : (List Int) × (List (List Int)) × (List Bool) × (List Int)) (l444 : List Bool) (b448 : Bool) (nx443 : ((List Bool) × Bool) → Option (List Bool)) : Option (List Bool) :=
  bif b448 then (loopK fu (fun p nx => au_table_live_b2 fu a0 nx443 p.1 p.2.1 p.2.2 nx) (l444, false, 0)) else (some l444)
def au_table_live (fu : Nat) (a0 : (List Int) × (List (List Int)) × (List Bool) × (List Int)) : Option (List Bool) :=
  chk (a0.2.1.length ≤ capN) (loopK fu (fun p nx => au_table_live_b1 fu a0 p.1 p.2 nx) ((List.replicate a0.2.1.length false : List Bool), true))
def au_table_end (fu : Nat) (a0 : (List Int) × (List (List Int)) × (List Bool) × (List Int)) (a1 : Int) : Option Int :=
  chk (F64 (a1 + 1)) (bif decide ((a1 + 1) < ((a0.1.length : Nat) : Int)) then (chk (F64 (a1 + 1)) (bnd (idx a0.1 (a1 + 1)) (fun x13 => chk (F64 (x13 - 1)) (chk (F8 (x13 - 1)) (some (x13 - 1)))))) else (some 255))
def au_table_canonical_j11 (fu : Nat) (a0 : (List Int) × (List (List Int)) × (List Bool) × (List Int)) (l1653 : List (Int × Int × Int)) (k1658 : Nat) (nx1648 : ((List Int) × (List (Int × Int × Int)) × (List (Int × Int)) × Nat) → Option (List (Bool × (List (Int × Int × Int))))) (x1671 : Int) (l1691 : List Int) (m1695 : List (Int × Int)) : Option (List (Bool × (List (Int × Int × Int)))) :=
  bif decide (0 < ((l1653.length : Nat) : Int)) then (chk (F64 (((l1653.length : Nat) : Int) - 1)) (bnd (idx l1653 (((l1653.length : Nat) : Int) - 1)) (fun x1727 => chk (F64 x1671) (bif decide (x1727.2.2 = ((fmGet m1695 x1671).getD 0)) then (chk (F64 (((l1653.length : Nat) : Int) - 1)) (bnd (idx l1653 (((l1653.length : Nat) : Int) - 1)) (fun x1737 => chk (F64 (x1737.2.1 + 1)) (bnd (idx a0.1 ((k1658 : Nat) : Int)) (fun x1745 => bif decide ((x1737.2.1 + 1) = x1745) then (chk (F64 (((l1653.length : Nat) : Int) - 1)) (bnd (au_table_end fu a0 ((k1658 : Nat) : Int)) (fun x1770 => chk (F8 x1770) (bnd (idx l1653 (((l1653.length : Nat) : Int) - 1)) (fun x1775 => nx1648 (l1691, l1653.set ((((l1653.length : Nat) : Int) - 1).toNat) (x1775.1, x1770, x1775.2.2), m1695, k1658 + 1)))))) else (bnd (idx a0.1 ((k1658 : Nat) : Int)) (fun x1805 => chk (F8 x1805) (bnd (au_table_end fu a0 ((k1658 : Nat) : Int)) (fun x1809 => chk (F8 x1809) (chk (F64 x1671) (chk (l1653.length + ([(x1805, x1809, (fmGet m1695 x1671).getD 0)] : List (Int × Int × Int)).length ≤ capN) (nx1648 (l1691, l1653 ++ ([(x1805, x1809, (fmGet m1695 x1671).getD 0)] : List (Int × Int × Int)), m1695, k1658 + 1))))))))))))) else (bnd (idx a0.1 ((k1658 : Nat) : Int)) (fun x1839 => chk (F8 x1839) (bnd (au_table_end fu a0 ((k1658 : Nat) : Int)) (fun x1843 => chk (F8 x1843) (chk (F64 x1671) (chk (l1653.length + ([(x1839, x1843, (fmGet m1695 x1671).getD 0)] : List (Int × Int × Int)).length ≤ capN) (nx1648 (l1691, l1653 ++ ([(x1839, x1843, (fmGet m1695 x1671).getD 0)] : List (Int × Int × Int)), m1695, k1658 + 1)))))))))))) else (bnd (idx a0.1 ((k1658 : Nat) : Int)) (fun x1873 => chk (F8 x1873) (bnd (au_table_end fu a0 ((k1658 : Nat) : Int)) (fun x1877 => chk (F8 x1877) (chk (F64 x1671) (chk (l1653.length + ([(x1873, x1877, (fmGet m1695 x1671).getD 0)] : List (Int × Int × Int)).length ≤ capN) (nx1648 (l1691, l1653 ++ ([(x1873, x1877, (fmGet m1695 x1671).getD 0)] : List (Int × Int × Int)), m1695, k1658 + 1))))))))
def au_table_canonical_b10 (fu : Nat) (a0 : (List Int) × (List (List Int)) × (List Bool) × (List Int)) (x11 : List Bool) (l1270 : List (Bool × (List (Int × Int × Int)))) (k1275 : Nat) (nx1265 : ((List Int) × (List (Bool × (List (Int × Int × Int)))) × (List (Int × Int)) × Nat) → Option (List (Bool × (List (Int × Int × Int))))) (x1303 : Bool) (x1324 : List Int) (l1649 : List Int) (l1653 : List (Int × Int × Int)) (m1657 : List (Int × Int)) (k1658 : Nat) (nx1648 : ((List Int) × (List (Int × Int × Int)) × (List (Int × Int)) × Nat) → Option (List (Bool × (List (Int × Int × Int))))) : Option (List (Bool × (List (Int × Int × Int)))) :=
  bif decide (((k1658 : Nat) : Int) < ((x1324.length : Nat) : Int)) then (bnd (idx x1324 ((k1658 : Nat) : Int)) (fun x1668 => bnd (idx a0.2.2.2 x1668) (fun x1671 => bnd (idx x11 x1671) (fun x1674 => bif !x1674 then (nx1648 (l1649, l1653, m1657, k1658 + 1)) else (chk (F64 x1671) (bif !((fmGet m1657 x1671).isSome) then (chk (F64 x1671) (chk (F64 ((l1649.length : Nat) : Int)) (chk (m1657.length ≤ capN) (chk (l1649.length + ([x1668] : List Int).length ≤ capN) (au_table_canonical_j11 fu a0 l1653 k1658 nx1648 x1671 (l1649 ++ ([x1668] : List Int)) (fmPut m1657 x1671 ((l1649.length : Nat) : Int))))))) else (au_table_canonical_j11 fu a0 l1653 k1658 nx1648 x1671 l1649 m1657))))))) else (chk (l1270.length + ([(x1303, l1653)] : List (Bool × (List (Int × Int × Int)))).length ≤ capN) (nx1265 (l1649, l1270 ++ ([(x1303, l1653)] : List (Bool × (List (Int × Int × Int)))), m1657, k1275 + 1)))
def au_table_canonical_b7 (fu : Nat) (a0 : (List Int) × (List (List Int)) × (List Bool) × (List Int)) (x11 : List Bool) (l1266 : List Int) (l1270 : List (Bool × (List (Int × Int × Int)))) (m1274 : List (Int × Int)) (k1275 : Nat) (nx1265 : ((List Int) × (List (Bool × (List (Int × Int × Int)))) × (List (Int × Int)) × Nat) → Option (List (Bool × (List (Int × Int × Int))))) : Option (List (Bool × (List (Int × Int × Int)))) :=
  bif decide (((k1275 : Nat) : Int) < ((l1266.length : Nat) : Int)) then (bnd (idx l1266 ((k1275 : Nat) : Int)) (fun x1300 => bnd (idx a0.2.2.1 x1300) (fun x1303 => bnd (idx l1266 ((k1275 : Nat) : Int)) (fun x1321 => bnd (idx a0.2.1 x1321) (fun x1324 => loopK fu (fun p nx => au_table_canonical_b10 fu a0 x11 l1270 k1275 nx1265 x1303 x1324 p.1 p.2.1 p.2.2.1 p.2.2.2 nx) (l1266, ([] : List (Int × Int × Int)), m1274, 0)))))) else (some l1270)
def au_table_canonical (fu : Nat) (a0 : (List Int) × (List (List Int)) × (List Bool) × (List Int)) : Option (List (Bool × (List (Int × Int × Int)))) :=
  bnd (au_table_live fu a0) (fun x11 => bnd (idx a0.2.2.2 0) (fun x17 => bnd (idx x11 x17) (fun x20 => bif !x20 then (some ([] : List (Bool × (List (Int × Int × Int))))) else (bnd (idx a0.2.2.2 0) (fun x29 => chk (F64 x29) (chk (([] : List (Int × Int)).length ≤ capN) (loopK fu (fun p nx => au_table_canonical_b7 fu a0 x11 p.1 p.2.1 p.2.2.1 p.2.2.2 nx) (([0] : List Int), ([] : List (Bool × (List (Int × Int × Int)))), fmPut ([] : List (Int × Int)) x29 0, 0))))))))
def au_table_signature_b1 (fu : Nat) (a0 : (List Int) × (List (List Int)) × (List Bool) × (List Int)) (x21 : List Int) (l65 : Str) (k70 : Nat) (nx64 : (Str × Nat) → Option Str) : Option Str :=
  bif decide (((k70 : Nat) : Int) < ((x21.length : Nat) : Int)) then (bnd (idx x21 ((k70 : Nat) : Int)) (fun x80 => bnd (idx a0.2.2.2 x80) (fun x83 => chk (F64 x83) (chk (([44] : Str).length + (Lib.itoa x83).length ≤ capN) (chk (l65.length + (([44] : Str) ++ (Lib.itoa x83)).length ≤ capN) (nx64 (l65 ++ (([44] : Str) ++ (Lib.itoa x83)), k70 + 1))))))) else (some l65)
def au_table_signature (fu : Nat) (a0 : (List Int) × (List (List Int)) × (List Bool) × (List Int)) (a1 : Int) : Option Str :=
  bnd (idx a0.2.2.2 a1) (fun x11 => chk (F64 x11) (chk (([] : Str).length + (Lib.itoa x11).length ≤ capN) (bnd (idx a0.2.1 a1) (fun x21 => loopK fu (fun p nx => au_table_signature_b1 fu a0 x21 p.1 p.2 nx) (([] : Str) ++ (Lib.itoa x11), 0)))))
def au_table_refine_j12 (fu : Nat) (l365 : List Int) (l368 : List Int) (k373 : Nat) (nx364 : ((List Int) × (List Int) × (List (Str × Int)) × Nat) → Option ((List Int) × (List (List Int)) × (List Bool) × (List Int))) (m390 : List (Str × Int)) (i391 : Int) : Option ((List Int) × (List (List Int)) × (List Bool) × (List Int)) :=
  bnd (idx l368 ((k373 : Nat) : Int)) (fun x397 => nx364 (l365, l368.set k373 i391, m390, k373 + 1))
def au_table_refine_b11 (fu : Nat) (a0 : (List Int) × (List (List Int)) × (List Bool) × (List Int)) (k279 : Nat) (nx278 : (Nat × (List Int)) → Option ((List Int) × (List (List Int)) × (List Bool) × (List Int))) (l365 : List Int) (l368 : List Int) (m372 : List (Str × Int)) (k373 : Nat) (nx364 : ((List Int) × (List Int) × (List (Str × Int)) × Nat) → Option ((List Int) × (List (List Int)) × (List Bool) × (List Int))) : Option ((List Int) × (List (List Int)) × (List Bool) × (List Int)) :=
  bif decide (((k373 : Nat) : Int) < ((a0.2.1.length : Nat) : Int)) then (bnd (au_table_signature fu (a0.1, a0.2.1, a0.2.2.1, l365) ((k373 : Nat) : Int)) (fun x383 => chk (x383.length ≤ capN) (bif !((fmGet m372 x383).isSome) then (chk (x383.length ≤ capN) (chk (F64 ((m372.length : Nat) : Int)) (chk (m372.length ≤ capN) (au_table_refine_j12 fu l365 l368 k373 nx364 (fmPut m372 x383 ((m372.length : Nat) : Int)) ((m372.length : Nat) : Int))))) else (au_table_refine_j12 fu l365 l368 k373 nx364 m372 ((fmGet m372 x383).getD 0))))) else (bif decide (((m372.length : Nat) : Int) = ((k279 : Nat) : Int)) then (some (a0.1, a0.2.1, a0.2.2.1, l368)) else (nx278 (m372.length, l368)))
def au_table_refine_b8 (fu : Nat) (a0 : (List Int) × (List (List Int)) × (List Bool) × (List Int)) (k279 : Nat) (l280 : List Int) (nx278 : (Nat × (List Int)) → Option ((List Int) × (List (List Int)) × (List Bool) × (List Int))) : Option ((List Int) × (List (List Int)) × (List Bool) × (List Int)) :=
  chk (a0.2.1.length ≤ capN) (loopK fu (fun p nx => au_table_refine_b11 fu a0 k279 nx278 p.1 p.2.1 p.2.2.1 p.2.2.2 nx) (l280, (List.replicate a0.2.1.length 0 : List Int), ([] : List (Str × Int)), 0))
def au_table_refine_b1 (fu : Nat) (a0 : (List Int) × (List (List Int)) × (List Bool) × (List Int)) (l44 : List Int) (k48 : Nat) (nx43 : ((List Int) × Nat) → Option ((List Int) × (List (List Int)) × (List Bool) × (List Int))) : Option ((List Int) × (List (List Int)) × (List Bool) × (List Int)) :=
  bif decide (((k48 : Nat) : Int) < ((a0.2.2.1.length : Nat) : Int)) then (bnd (idx a0.2.2.1 ((k48 : Nat) : Int)) (fun x58 => bif x58 then (bnd (idx l44 ((k48 : Nat) : Int)) (fun x62 => nx43 (l44.set k48 1, k48 + 1))) else (nx43 (l44, k48 + 1)))) else (loopK fu (fun p nx => au_table_refine_b8 fu a0 p.1 p.2 nx) (0, l44))
def au_table_refine (fu : Nat) (a0 : (List Int) × (List (List Int)) × (List Bool) × (List Int)) : Option ((List Int) × (List (List Int)) × (List Bool) × (List Int)) :=
  chk (a0.2.1.length ≤ capN) (loopK fu (fun p nx => au_table_refine_b1 fu a0 p.1 p.2 nx) ((List.replicate a0.2.1.length 0 : List Int), 0))
def au_Minimal (fu : Nat) (a0 : List (Bool × (List (Int × Int × Int)))) : Option ((List (Bool × (List (Int × Int × Int)))) × Int) :=
  bnd (au_wellFormed fu a0) (fun x5 => bif !x5 then (some (([] : List (Bool × (List (Int × Int × Int)))), 11)) else (bif decide (((a0.length : Nat) : Int) = 0) then (some (([] : List (Bool × (List (Int × Int × Int)))), 0)) else (bnd (au_complete fu a0) (fun x12 => bnd (au_table_refine fu x12) (fun x25 => bnd (au_table_canonical fu x25) (fun x37 => some (x37, 0)))))))
def au_Valid (fu : Nat) (a0 : List (Bool × (List (Int × Int × Int)))) : Option Bool :=
  bnd (au_Minimal fu a0) (fun x4 => bif decide (x4.2 = 0) then (bnd (au_Same fu a0 x4.1) (fun x13 => some x13)) else (some false))
def au_net_sets_b2 (fu : Nat) (k127 : Nat) (nx122 : ((List BSet) × Nat) → Option (List BSet)) (x137 : List (BSet × Int × Int)) (l174 : List BSet) (k178 : Nat) (nx173 : ((List BSet) × Nat) → Option (List BSet)) : Option (List BSet) :=
  bif decide (((k178 : Nat) : Int) < ((x137.length : Nat) : Int)) then (bnd (idx x137 ((k178 : Nat) : Int)) (fun x188 => chk (l174.length + ([x188.1] : List BSet).length ≤ capN) (nx173 (l174 ++ ([x188.1] : List BSet), k178 + 1)))) else (nx122 (l174, k127 + 1))
def au_net_sets_b1 (fu : Nat) (a0 : (List (List Int)) × (List (List (BSet × Int × Int))) × Int) (l123 : List BSet) (k127 : Nat) (nx122 : ((List BSet) × Nat) → Option (List BSet)) : Option (List BSet) :=
  bif decide (((k127 : Nat) : Int) < ((a0.2.1.length : Nat) : Int)) then (bnd (idx a0.2.1 ((k127 : Nat) : Int)) (fun x137 => loopK fu (fun p nx => au_net_sets_b2 fu k127 nx122 x137 p.1 p.2 nx) (l123, 0))) else (some l123)
def au_net_sets (fu : Nat) (a0 : (List (List Int)) × (List (List (BSet × Int × Int))) × Int) : Option (List BSet) :=
  loopK fu (fun p nx => au_net_sets_b1 fu a0 p.1 p.2 nx) (([] : List BSet), 0)
def au_net_closure_b2 (fu : Nat) (l89 : List Bool) (l166 : List Int) (k170 : Nat) (nx165 : ((List Int) × Nat) → Option (List Int)) : Option (List Int) :=
  bif decide (((k170 : Nat) : Int) < ((l89.length : Nat) : Int)) then (bnd (idx l89 ((k170 : Nat) : Int)) (fun x180 => bif x180 then (chk (l166.length + ([((k170 : Nat) : Int)] : List Int).length ≤ capN) (nx165 (l166 ++ ([((k170 : Nat) : Int)] : List Int), k170 + 1))) else (nx165 (l166, k170 + 1)))) else (some l166)
def au_net_closure_b1 (fu : Nat) (a0 : (List (List Int)) × (List (List (BSet × Int × Int))) × Int) (l85 : List Int) (l89 : List Bool) (nx84 : ((List Int) × (List Bool)) → Option (List Int)) : Option (List Int) :=
  bif decide (0 < ((l85.length : Nat) : Int)) then (chk (F64 (((l85.length : Nat) : Int) - 1)) (bnd (idx l85 (((l85.length : Nat) : Int) - 1)) (fun x105 => chk (F64 (((l85.length : Nat) : Int) - 1)) (chk (0 ≤ (((l85.length : Nat) : Int) - 1) ∧ (((l85.length : Nat) : Int) - 1) ≤ ((l85.length : Nat) : Int)) (bnd (idx l89 x105) (fun x114 => bif !x114 then (bnd (idx l89 x105) (fun x118 => bnd (idx a0.1 x105) (fun x123 => chk ((l85.take (((l85.length : Nat) : Int) - 1).toNat).length + x123.length ≤ capN) (nx84 ((l85.take (((l85.length : Nat) : Int) - 1).toNat) ++ x123, l89.set x105.toNat true))))) else (nx84 (l85.take (((l85.length : Nat) : Int) - 1).toNat, l89)))))))) else (loopK fu (fun p nx => au_net_closure_b2 fu l89 p.1 p.2 nx) (([] : List Int), 0))
def au_net_closure (fu : Nat) (a0 : (List (List Int)) × (List (List (BSet × Int × Int))) × Int) (a1 : List Int) : Option (List Int) :=
  chk (a0.2.1.length ≤ capN) (loopK fu (fun p nx => au_net_closure_b1 fu a0 p.1 p.2 nx) (a1, (List.replicate a0.2.1.length false : List Bool)))
def au_key_b1 (fu : Nat) (a0 : List Int) (l38 : Str) (k43 : Nat) (nx37 : (Str × Nat) → Option Str) : Option Str :=
  bif decide (((k43 : Nat) : Int) < ((a0.length : Nat) : Int)) then (bnd (idx a0 ((k43 : Nat) : Int)) (fun x53 => chk (F64 x53) (chk ((Lib.itoa x53).length + ([44] : Str).length ≤ capN) (chk (l38.length + ((Lib.itoa x53) ++ ([44] : Str)).length ≤ capN) (nx37 (l38 ++ ((Lib.itoa x53) ++ ([44] : Str)), k43 + 1)))))) else (some l38)
def au_key (fu : Nat) (a0 : List Int) : Option Str :=
  loopK fu (fun p nx => au_key_b1 fu a0 p.1 p.2 nx) (([] : Str), 0)
def au_net_many_b4 (fu : Nat) (x3099 : BSet) (k3337 : Nat) (nx3328 : ((List Int) × (List Int) × Nat) → Option Bool) (x3350 : List (BSet × Int × Int)) (l3416 : List Int) (l3420 : List Int) (k3424 : Nat) (nx3415 : ((List Int) × (List Int) × Nat) → Option Bool) : Option Bool :=
  bif decide (((k3424 : Nat) : Int) < ((x3350.length : Nat) : Int)) then (bnd (idx x3350 ((k3424 : Nat) : Int)) (fun x3434 => bif x3434.1 (((lst x3099 : Nat) : Int)).toNat then (chk (l3416.length + ([x3434.2.2] : List Int).length ≤ capN) (chk (l3420.length + ([x3434.2.1] : List Int).length ≤ capN) (nx3415 (l3416 ++ ([x3434.2.2] : List Int), l3420 ++ ([x3434.2.1] : List Int), k3424 + 1)))) else (nx3415 (l3416, l3420, k3424 + 1)))) else (nx3328 (l3416, l3420, k3337 + 1))
def au_net_many_b3 (fu : Nat) (a0 : (List (List Int)) × (List (List (BSet × Int × Int))) × Int) (l3084 : List (List Int)) (m3088 : List (Str × Bool)) (k3089 : Nat) (nx3083 : ((List (List Int)) × (List (Str × Bool)) × Nat) → Option Bool) (x3099 : BSet) (x3105 : List Int) (l3329 : List Int) (l3333 : List Int) (k3337 : Nat) (nx3328 : ((List Int) × (List Int) × Nat) → Option Bool) : Option Bool :=
  bif decide (((k3337 : Nat) : Int) < ((x3105.length : Nat) : Int)) then (bnd (idx x3105 ((k3337 : Nat) : Int)) (fun x3347 => bnd (idx a0.2.1 x3347) (fun x3350 => loopK fu (fun p nx => au_net_many_b4 fu x3099 k3337 nx3328 x3350 p.1 p.2.1 p.2.2 nx) (l3329, l3333, 0)))) else (chk (l3329.length ≤ capN) (bnd (au_key fu (sortI l3329)) (fun x3467 => bif decide ((((sortI l3329).length : Nat) : Int) = 0) then (nx3083 (l3084, m3088, k3089 + 1)) else (chk (x3467.length ≤ capN) (bif (fmGet m3088 x3467).getD false then (nx3083 (l3084, m3088, k3089 + 1)) else (bif decide (((m3088.length : Nat) : Int) = 500) then (some true) else (chk (x3467.length ≤ capN) (chk (m3088.length ≤ capN) (bnd (au_net_closure fu a0 l3333) (fun x3476 => chk (l3084.length + ([x3476] : List (List Int)).length ≤ capN) (nx3083 (l3084 ++ ([x3476] : List (List Int)), fmPut m3088 x3467 true, k3089 + 1))))))))))))
def au_net_many_b2 (fu : Nat) (a0 : (List (List Int)) × (List (List (BSet × Int × Int))) × Int) (x5 : List BSet) (k2316 : Nat) (nx2310 : ((List (List Int)) × (List (Str × Bool)) × Nat) → Option Bool) (l3084 : List (List Int)) (m3088 : List (Str × Bool)) (k3089 : Nat) (nx3083 : ((List (List Int)) × (List (Str × Bool)) × Nat) → Option Bool) : Option Bool :=
  bif decide (((k3089 : Nat) : Int) < (((partsD x5).length : Nat) : Int)) then (bnd (idx (partsD x5) ((k3089 : Nat) : Int)) (fun x3099 => bnd (idx l3084 ((k2316 : Nat) : Int)) (fun x3105 => loopK fu (fun p nx => au_net_many_b3 fu a0 l3084 m3088 k3089 nx3083 x3099 x3105 p.1 p.2.1 p.2.2 nx) (([] : List Int), ([] : List Int), 0)))) else (nx2310 (l3084, m3088, k2316 + 1))
def au_net_many_b1 (fu : Nat) (a0 : (List (List Int)) × (List (List (BSet × Int × Int))) × Int) (x5 : List BSet) (l2311 : List (List Int)) (m2315 : List (Str × Bool)) (k2316 : Nat) (nx2310 : ((List (List Int)) × (List (Str × Bool)) × Nat) → Option Bool) : Option Bool :=
  bif decide (((k2316 : Nat) : Int) < ((l2311.length : Nat) : Int)) then (loopK fu (fun p nx => au_net_many_b2 fu a0 x5 k2316 nx2310 p.1 p.2.1 p.2.2 nx) (l2311, m2315, 0)) else (some false)
def au_net_many (fu : Nat) (a0 : (List (List Int)) × (List (List (BSet × Int × Int))) × Int) (a1 : Int) : Option Bool :=
  bnd (au_net_sets fu a0) (fun x5 => chk (x5.length ≤ 4294967296) (bnd (au_net_closure fu a0 ([a1] : List Int)) (fun x20 => loopK fu (fun p nx => au_net_many_b1 fu a0 x5 p.1 p.2.1 p.2.2 nx) (([x20] : List (List Int)), ([] : List (Str × Bool)), 0))))
def slices_Index_b1 (fu : Nat) (a0 : List Int) (a1 : Int) (k17 : Nat) (nx16 : Nat → Option Int) : Option Int :=
  bif decide (((k17 : Nat) : Int) < ((a0.length : Nat) : Int)) then (bnd (idx a0 ((k17 : Nat) : Int)) (fun x27 => bif decide (a1 = x27) then (some ((k17 : Nat) : Int)) else (nx16 (k17 + 1)))) else (some (-1))
def slices_Index (fu : Nat) (a0 : List Int) (a1 : Int) : Option Int :=
  loopK fu (slices_Index_b1 fu a0 a1) 0
def slices_Contains (fu : Nat) (a0 : List Int) (a1 : Int) : Option Bool :=
  bnd (slices_Index fu a0 a1) (fun x3 => some (decide (0 ≤ x3)))
def au_net_determine_b12 (fu : Nat) (x2646 : BSet) (k2790 : Nat) (nx2785 : ((List Int) × Nat) → Option (List (Bool × (List (Int × Int × Int))))) (x2803 : List (BSet × Int × Int)) (l2843 : List Int) (k2847 : Nat) (nx2842 : ((List Int) × Nat) → Option (List (Bool × (List (Int × Int × Int))))) : Option (List (Bool × (List (Int × Int × Int)))) :=
  bif decide (((k2847 : Nat) : Int) < ((x2803.length : Nat) : Int)) then (bnd (idx x2803 ((k2847 : Nat) : Int)) (fun x2857 => bif x2857.1 (((lst x2646 : Nat) : Int)).toNat then (chk (l2843.length + ([x2857.2.1] : List Int).length ≤ capN) (nx2842 (l2843 ++ ([x2857.2.1] : List Int), k2847 + 1))) else (nx2842 (l2843, k2847 + 1)))) else (nx2785 (l2843, k2790 + 1))
def au_net_determine_j13 (fu : Nat) (l2631 : List (BSet × Int)) (k2636 : Nat) (nx2626 : ((List (List Int)) × (List (BSet × Int)) × (List (Str × Int)) × Nat) → Option (List (Bool × (List (Int × Int × Int))))) (x2646 : BSet) (x2877 : Str) (l2892 : List (List Int)) (m2896 : List (Str × Int)) : Option (List (Bool × (List (Int × Int × Int)))) :=
  chk (x2877.length ≤ capN) (chk (l2631.length + ([(x2646, (fmGet m2896 x2877).getD 0)] : List (BSet × Int)).length ≤ capN) (nx2626 (l2892, l2631 ++ ([(x2646, (fmGet m2896 x2877).getD 0)] : List (BSet × Int)), m2896, k2636 + 1)))
def au_net_determine_b11 (fu : Nat) (a0 : (List (List Int)) × (List (List (BSet × Int × Int))) × Int) (l2627 : List (List Int)) (l2631 : List (BSet × Int)) (m2635 : List (Str × Int)) (k2636 : Nat) (nx2626 : ((List (List Int)) × (List (BSet × Int)) × (List (Str × Int)) × Nat) → Option (List (Bool × (List (Int × Int × Int))))) (x2646 : BSet) (x2651 : List Int) (l2786 : List Int) (k2790 : Nat) (nx2785 : ((List Int) × Nat) → Option (List (Bool × (List (Int × Int × Int))))) : Option (List (Bool × (List (Int × Int × Int)))) :=
  bif decide (((k2790 : Nat) : Int) < ((x2651.length : Nat) : Int)) then (bnd (idx x2651 ((k2790 : Nat) : Int)) (fun x2800 => bnd (idx a0.2.1 x2800) (fun x2803 => loopK fu (fun p nx => au_net_determine_b12 fu x2646 k2790 nx2785 x2803 p.1 p.2 nx) (l2786, 0)))) else (bif decide (((l2786.length : Nat) : Int) = 0) then (nx2626 (l2627, l2631, m2635, k2636 + 1)) else (bnd (au_net_closure fu a0 l2786) (fun x2871 => bnd (au_key fu x2871) (fun x2877 => chk (x2877.length ≤ capN) (bif !((fmGet m2635 x2877).isSome) then (chk (x2877.length ≤ capN) (chk (F64 ((l2627.length : Nat) : Int)) (chk (m2635.length ≤ capN) (chk (l2627.length + ([x2871] : List (List Int)).length ≤ capN) (au_net_determine_j13 fu l2631 k2636 nx2626 x2646 x2877 (l2627 ++ ([x2871] : List (List Int))) (fmPut m2635 x2877 ((l2627.length : Nat) : Int))))))) else (au_net_determine_j13 fu l2631 k2636 nx2626 x2646 x2877 l2627 m2635))))))
def au_net_determine_b15 (fu : Nat) (k3088 : Nat) (nx3083 : ((List (Int × Int × Int)) × Nat) → Option (List (Bool × (List (Int × Int × Int))))) (x3098 : BSet × Int) (l3148 : List (Int × Int × Int)) (k3152 : Nat) (nx3147 : ((List (Int × Int × Int)) × Nat) → Option (List (Bool × (List (Int × Int × Int))))) : Option (List (Bool × (List (Int × Int × Int)))) :=
  bif decide (((k3152 : Nat) : Int) < (((rgD x3098.1).length : Nat) : Int)) then (bnd (idx (rgD x3098.1) ((k3152 : Nat) : Int)) (fun x3162 => chk (l3148.length + ([(x3162.1, x3162.2, x3098.2)] : List (Int × Int × Int)).length ≤ capN) (nx3147 (l3148 ++ ([(x3162.1, x3162.2, x3098.2)] : List (Int × Int × Int)), k3152 + 1)))) else (nx3083 (l3148, k3088 + 1))
def au_net_determine_b14 (fu : Nat) (l2102 : List (Bool × (List (Int × Int × Int)))) (k2107 : Nat) (nx2097 : ((List (List Int)) × (List (Bool × (List (Int × Int × Int)))) × (List (Str × Int)) × Nat) → Option (List (Bool × (List (Int × Int × Int))))) (l2627 : List (List Int)) (l2631 : List (BSet × Int)) (m2635 : List (Str × Int)) (x2927 : Bool) (l3084 : List (Int × Int × Int)) (k3088 : Nat) (nx3083 : ((List (Int × Int × Int)) × Nat) → Option (List (Bool × (List (Int × Int × Int))))) : Option (List (Bool × (List (Int × Int × Int)))) :=
  bif decide (((k3088 : Nat) : Int) < ((l2631.length : Nat) : Int)) then (bnd (idx l2631 ((k3088 : Nat) : Int)) (fun x3098 => loopK fu (fun p nx => au_net_determine_b15 fu k3088 nx3083 x3098 p.1 p.2 nx) (l3084, 0))) else (chk (CmpOk cmpLo l3084) (chk (l3084.length ≤ capN) (chk (l2102.length + ([(x2927, sortF cmpLo l3084)] : List (Bool × (List (Int × Int × Int)))).length ≤ capN) (nx2097 (l2627, l2102 ++ ([(x2927, sortF cmpLo l3084)] : List (Bool × (List (Int × Int × Int)))), m2635, k2107 + 1)))))
def au_net_determine_b10 (fu : Nat) (a0 : (List (List Int)) × (List (List (BSet × Int × Int))) × Int) (a2 : Int) (x6 : List BSet) (l2102 : List (Bool × (List (Int × Int × Int)))) (k2107 : Nat) (nx2097 : ((List (List Int)) × (List (Bool × (List (Int × Int × Int)))) × (List (Str × Int)) × Nat) → Option (List (Bool × (List (Int × Int × Int))))) (l2627 : List (List Int)) (l2631 : List (BSet × Int)) (m2635 : List (Str × Int)) (k2636 : Nat) (nx2626 : ((List (List Int)) × (List (BSet × Int)) × (List (Str × Int)) × Nat) → Option (List (Bool × (List (Int × Int × Int))))) : Option (List (Bool × (List (Int × Int × Int)))) :=
  bif decide (((k2636 : Nat) : Int) < (((partsD x6).length : Nat) : Int)) then (bnd (idx (partsD x6) ((k2636 : Nat) : Int)) (fun x2646 => bnd (idx l2627 ((k2107 : Nat) : Int)) (fun x2651 => loopK fu (fun p nx => au_net_determine_b11 fu a0 l2627 l2631 m2635 k2636 nx2626 x2646 x2651 p.1 p.2 nx) (([] : List Int), 0)))) else (bnd (idx l2627 ((k2107 : Nat) : Int)) (fun x2922 => bnd (slices_Contains fu x2922 a2) (fun x2927 => loopK fu (fun p nx => au_net_determine_b14 fu l2102 k2107 nx2097 l2627 l2631 m2635 x2927 p.1 p.2 nx) (([] : List (Int × Int × Int)), 0))))
def au_net_determine_b7 (fu : Nat) (a0 : (List (List Int)) × (List (List (BSet × Int × Int))) × Int) (a2 : Int) (x6 : List BSet) (l2098 : List (List Int)) (l2102 : List (Bool × (List (Int × Int × Int)))) (m2106 : List (Str × Int)) (k2107 : Nat) (nx2097 : ((List (List Int)) × (List (Bool × (List (Int × Int × Int)))) × (List (Str × Int)) × Nat) → Option (List (Bool × (List (Int × Int × Int))))) : Option (List (Bool × (List (Int × Int × Int)))) :=
  bif decide (((k2107 : Nat) : Int) < ((l2098.length : Nat) : Int)) then (loopK fu (fun p nx => au_net_determine_b10 fu a0 a2 x6 l2102 k2107 nx2097 p.1 p.2.1 p.2.2.1 p.2.2.2 nx) (l2098, ([] : List (BSet × Int)), m2106, 0)) else (some l2102)
def au_net_determine (fu : Nat) (a0 : (List (List Int)) × (List (List (BSet × Int × Int))) × Int) (a1 : Int) (a2 : Int) : Option (List (Bool × (List (Int × Int × Int)))) :=
  bnd (au_net_sets fu a0) (fun x6 => chk (x6.length ≤ 4294967296) (bnd (au_net_closure fu a0 ([a1] : List Int)) (fun x20 => bnd (idx ([x20] : List (List Int)) 0) (fun x30 => bnd (au_key fu x30) (fun x35 => chk (x35.length ≤ capN) (chk (([] : List (Str × Int)).length ≤ capN) (loopK fu (fun p nx => au_net_determine_b7 fu a0 a2 x6 p.1 p.2.1 p.2.2.1 p.2.2.2 nx) (([x20] : List (List Int)), ([] : List (Bool × (List (Int × Int × Int)))), fmPut ([] : List (Str × Int)) x35 0, 0))))))))
def rx_check_b3 (fu : Nat) (a0 : Rx) (a1 : Int) (slf : Rx → Int → Option Int) (k57 : Nat) (nx56 : Nat → Option Int) : Option Int :=
  bif decide (((k57 : Nat) : Int) < ((a0.subs.length : Nat) : Int)) then (bnd (idx a0.subs ((k57 : Nat) : Int)) (fun x67 => chk (F64 (a1 + 1)) (bnd (slf x67 (a1 + 1)) (fun x76 => bif decide (x76 ≠ 0) then (some x76) else (nx56 (k57 + 1)))))) else (some 0)
def rx_check_j2 (fu : Nat) (a0 : Rx) (a1 : Int) (slf : Rx → Int → Option Int) : Option Int :=
  loopK fu (rx_check_b3 fu a0 a1 slf) 0
def rx_check_j4 (fu : Nat) (a0 : Rx) (a1 : Int) (slf : Rx → Int → Option Int) (b80 : Bool) : Option Int :=
  bif b80 then (bif decide (((a0.subs.length : Nat) : Int) < 2) then (some 2) else (rx_check_j2 fu a0 a1 slf)) else (bif decide (a0.kind = 5) then (bif decide (((a0.subs.length : Nat) : Int) ≠ 1) then (some 2) else (rx_check_j2 fu a0 a1 slf)) else (bif decide (((a0.subs.length : Nat) : Int) ≠ 0) then (some 2) else (rx_check_j2 fu a0 a1 slf)))
def rx_check_b7 (fu : Nat) (a0 : Rx) (a1 : Int) (slf : Rx → Int → Option Int) (k140 : Nat) (nx139 : Nat → Option Int) : Option Int :=
  bif decide (((k140 : Nat) : Int) < ((a0.subs.length : Nat) : Int)) then (bnd (idx a0.subs ((k140 : Nat) : Int)) (fun x150 => chk (F64 (a1 + 1)) (bnd (slf x150 (a1 + 1)) (fun x159 => bif decide (x159 ≠ 0) then (some x159) else (nx139 (k140 + 1)))))) else (some 0)
def rx_check_j6 (fu : Nat) (a0 : Rx) (a1 : Int) (slf : Rx → Int → Option Int) : Option Int :=
  loopK fu (rx_check_b7 fu a0 a1 slf) 0
def rx_check_j8 (fu : Nat) (a0 : Rx) (a1 : Int) (slf : Rx → Int → Option Int) (b163 : Bool) : Option Int :=
  bif b163 then (bif decide (((a0.subs.length : Nat) : Int) < 2) then (some 2) else (rx_check_j6 fu a0 a1 slf)) else (bif decide (a0.kind = 5) then (bif decide (((a0.subs.length : Nat) : Int) ≠ 1) then (some 2) else (rx_check_j6 fu a0 a1 slf)) else (bif decide (((a0.subs.length : Nat) : Int) ≠ 0) then (some 2) else (rx_check_j6 fu a0 a1 slf)))
def rx_check_b0 (fu : Nat) (slf : Rx → Int → Option Int) (a0 : Rx) (a1 : Int) : Option Int :=
  bif decide (16 < a1) then (some 9) else (bif decide (a0.kind < 0) then (some 11) else (bif decide (5 < a0.kind) then (some 11) else (bif decide (a0.kind ≠ 2) then (bif !eqS a0.set (fun _ => false) then (some 11) else (bif decide (a0.kind = 3) then (rx_check_j4 fu a0 a1 slf (decide (a0.kind = 3))) else (rx_check_j4 fu a0 a1 slf (decide (a0.kind = 4))))) else (bif decide (a0.kind = 3) then (rx_check_j8 fu a0 a1 slf (decide (a0.kind = 3))) else (rx_check_j8 fu a0 a1 slf (decide (a0.kind = 4)))))))
def rx_check : Nat → Rx → Int → Option Int
  | 0, _, _ => none
  | fu + 1, a0, a1 => rx_check_b0 fu (rx_check fu) a0 a1
def rx_Check (fu : Nat) (a0 : Rx) : Option Int :=
  bnd (rx_check fu a0 1) (fun x4 => some x4)
def au_net_add_b1 (fu : Nat) (a1 : Rx) (a2 : Int) (a3 : Int) (slf : ((List (List Int)) × (List (List (BSet × Int × Int))) × Int) → Rx → Int → Int → Option ((List (List Int)) × (List (List (BSet × Int × Int))) × Int)) (d119 : List (List Int)) (e120 : List (List (BSet × Int × Int))) (k127 : Nat) (i128 : Int) (nx118 : ((List (List Int)) × (List (List (BSet × Int × Int))) × Nat × Int) → Option ((List (List Int)) × (List (List (BSet × Int × Int))) × Int)) : Option ((List (List Int)) × (List (List (BSet × Int × Int))) × Int) :=
  bif decide (((k127 : Nat) : Int) < ((a1.subs.length : Nat) : Int)) then (bnd (idx a1.subs ((k127 : Nat) : Int)) (fun x138 => bnd (slf (d119, e120, i128) x138 a2 a3) (fun x146 => nx118 (x146.1, x146.2.1, k127 + 1, x146.2.2)))) else (some (d119, e120, i128))
def au_net_add_j5 (fu : Nat) (slf : ((List (List Int)) × (List (List (BSet × Int × Int))) × Int) → Rx → Int → Int → Option ((List (List Int)) × (List (List (BSet × Int × Int))) × Int)) (i266 : Int) (k267 : Nat) (i268 : Int) (nx257 : ((List (List Int)) × (List (List (BSet × Int × Int))) × Int × Nat × Int) → Option ((List (List Int)) × (List (List (BSet × Int × Int))) × Int)) (x278 : Rx) (d296 : List (List Int)) (e297 : List (List (BSet × Int × Int))) (i304 : Int) : Option ((List (List Int)) × (List (List (BSet × Int × Int))) × Int) :=
  bnd (slf (d296, e297, i268) x278 i266 i304) (fun x310 => nx257 (x310.1, x310.2.1, i304, k267 + 1, x310.2.2))
def au_net_add_b4 (fu : Nat) (a1 : Rx) (a3 : Int) (slf : ((List (List Int)) × (List (List (BSet × Int × Int))) × Int) → Rx → Int → Int → Option ((List (List Int)) × (List (List (BSet × Int × Int))) × Int)) (d258 : List (List Int)) (e259 : List (List (BSet × Int × Int))) (i266 : Int) (k267 : Nat) (i268 : Int) (nx257 : ((List (List Int)) × (List (List (BSet × Int × Int))) × Int × Nat × Int) → Option ((List (List Int)) × (List (List (BSet × Int × Int))) × Int)) : Option ((List (List Int)) × (List (List (BSet × Int × Int))) × Int) :=
  bif decide (((k267 : Nat) : Int) < ((a1.subs.length : Nat) : Int)) then (bnd (idx a1.subs ((k267 : Nat) : Int)) (fun x278 => bif decide ((((k267 : Nat) : Int) + 1) < ((a1.subs.length : Nat) : Int)) then (chk (d258.length + 1 ≤ capN) (chk (e259.length + 1 ≤ capN) (au_net_add_j5 fu slf i266 k267 i268 nx257 x278 (d258 ++ [[]]) (e259 ++ [[]]) ((e259.length : Nat) : Int)))) else (au_net_add_j5 fu slf i266 k267 i268 nx257 x278 d258 e259 a3))) else (some (d258, e259, i268))
def au_net_add_b0 (fu : Nat) (slf : ((List (List Int)) × (List (List (BSet × Int × Int))) × Int) → Rx → Int → Int → Option ((List (List Int)) × (List (List (BSet × Int × Int))) × Int)) (a0 : (List (List Int)) × (List (List (BSet × Int × Int))) × Int) (a1 : Rx) (a2 : Int) (a3 : Int) : Option ((List (List Int)) × (List (List (BSet × Int × Int))) × Int) :=
  bif decide (a1.kind = 1) then (bnd (idx a0.1 a2) (fun x6 => chk (x6.length + ([a3] : List Int).length ≤ capN) (some ((List.set a0.1 (Int.toNat a2) (x6 ++ ([a3] : List Int))), a0.2.1, a0.2.2)))) else (bif decide (a1.kind = 2) then (bnd (idx a0.2.1 a2) (fun x37 => chk (x37.length + ([(a1.set, a3, a0.2.2)] : List (BSet × Int × Int)).length ≤ capN) (chk (F64 (a0.2.2 + 1)) (some (a0.1, (List.set a0.2.1 (Int.toNat a2) (x37 ++ ([(a1.set, a3, a0.2.2)] : List (BSet × Int × Int)))), a0.2.2 + 1))))) else (bif decide (a1.kind = 4) then (loopK fu (fun p nx => au_net_add_b1 fu a1 a2 a3 slf p.1 p.2.1 p.2.2.1 p.2.2.2 nx) (a0.1, a0.2.1, 0, a0.2.2)) else (bif decide (a1.kind = 3) then (loopK fu (fun p nx => au_net_add_b4 fu a1 a3 slf p.1 p.2.1 p.2.2.1 p.2.2.2.1 p.2.2.2.2 nx) (a0.1, a0.2.1, a2, 0, a0.2.2)) else (bif decide (a1.kind = 5) then (chk (a0.1.length + 1 ≤ capN) (chk (a0.2.1.length + 1 ≤ capN) (bnd (idx (a0.1 ++ [[]]) a2) (fun x339 => chk (x339.length + ([((a0.2.1.length : Nat) : Int)] : List Int).length ≤ capN) (bnd (idx (List.set (a0.1 ++ [[]]) (Int.toNat a2) (x339 ++ ([((a0.2.1.length : Nat) : Int)] : List Int))) ((a0.2.1.length : Nat) : Int)) (fun x369 => chk (x369.length + ([a3] : List Int).length ≤ capN) (bnd (idx a1.subs 0) (fun x398 => bnd (slf ((List.set (List.set (a0.1 ++ [[]]) (Int.toNat a2) (x339 ++ ([((a0.2.1.length : Nat) : Int)] : List Int))) a0.2.1.length (x369 ++ ([a3] : List Int))), (a0.2.1 ++ [[]]), a0.2.2) x398 ((a0.2.1.length : Nat) : Int) ((a0.2.1.length : Nat) : Int)) (fun x404 => some (x404.1, x404.2.1, x404.2.2)))))))))) else (some (a0.1, a0.2.1, a0.2.2))))))
def au_net_add : Nat → ((List (List Int)) × (List (List (BSet × Int × Int))) × Int) → Rx → Int → Int → Option ((List (List Int)) × (List (List (BSet × Int × Int))) × Int)
  | 0, _, _, _, _ => none
  | fu + 1, a0, a1, a2, a3 => au_net_add_b0 fu (au_net_add fu) a0 a1 a2 a3
def au_Of (fu : Nat) (a0 : Rx) : Option ((List (Bool × (List (Int × Int × Int)))) × Int) :=
  bnd (rx_Check fu a0) (fun x6 => bif decide (x6 ≠ 0) then (some (([] : List (Bool × (List (Int × Int × Int)))), x6)) else (chk (([] : List (List Int)).length + 1 ≤ capN) (chk (([] : List (List (BSet × Int × Int))).length + 1 ≤ capN) (chk ((([] : List (List Int)) ++ [[]]).length + 1 ≤ capN) (chk ((([] : List (List (BSet × Int × Int))) ++ [[]]).length + 1 ≤ capN) (bnd (au_net_add fu (((([] : List (List Int)) ++ [[]]) ++ [[]]), ((([] : List (List (BSet × Int × Int))) ++ [[]]) ++ [[]]), 0) a0 ((([] : List (List (BSet × Int × Int))).length : Nat) : Int) (((([] : List (List (BSet × Int × Int))) ++ [[]]).length : Nat) : Int)) (fun x29 => bnd (au_net_many fu x29 ((([] : List (List (BSet × Int × Int))).length : Nat) : Int)) (fun x55 => bif x55 then (some (([] : List (Bool × (List (Int × Int × Int)))), 10)) else (bnd (au_net_determine fu x29 ((([] : List (List (BSet × Int × Int))).length : Nat) : Int) (((([] : List (List (BSet × Int × Int))) ++ [[]]).length : Nat) : Int)) (fun x59 => bnd (au_Minimal fu x59) (fun x65 => bif decide (200 < ((x65.1.length : Nat) : Int)) then (some (([] : List (Bool × (List (Int × Int × Int)))), 10)) else (some (x65.1, 0)))))))))))))
def w05_letters_b1 (fu : Nat) (a0 : Int) (i26 : Int) (w28 : BitVec 64) (nx25 : (Int × (BitVec 64)) → Option Rx) : Option Rx :=
  bif decide (i26 ≤ a0) then (bif decide (i26 < 104) then (chk (F8 (i26 - 64)) (chk (F8 (i26 + 1)) (nx25 (i26 + 1, w28 + ((1#64) <<< (i26 - 64).toNat))))) else (some (Rx.mk 2 (bitsOf (word (fun _ => false) 0) w28 (word (fun _ => false) 2) (word (fun _ => false) 3)) ([] : List Rx)))) else (some (Rx.mk 2 (bitsOf (word (fun _ => false) 0) w28 (word (fun _ => false) 2) (word (fun _ => false) 3)) ([] : List Rx)))
def w05_letters (fu : Nat) (a0 : Int) : Option Rx :=
  loopK fu (fun p nx => w05_letters_b1 fu a0 p.1 p.2 nx) (97, word (fun _ => false) 1)
def w05_alive (fu : Nat) : Option Bool :=
  bnd (w05_letters fu 97) (fun x29 => bnd (au_Of fu (Rx.mk 4 (fun _ => false) ([x29, (Rx.mk 2 (bitsOf (word (fun _ => false) 0) (17179869184#64) (word (fun _ => false) 2) (word (fun _ => false) 3)) ([] : List Rx))] : List Rx))) (fun x34 => bnd (w05_letters fu 98) (fun x46 => bnd (au_Of fu x46) (fun x52 => bnd (au_Minimal fu ([(false, ([] : List (Int × Int × Int)))] : List (Bool × (List (Int × Int × Int))))) (fun x69 => bnd (au_Minimal fu ([(false, ([(2, 1, 0)] : List (Int × Int × Int)))] : List (Bool × (List (Int × Int × Int))))) (fun x95 => bif decide (x34.2 ≠ 0) then (some false) else (bif decide (x52.2 ≠ 0) then (some false) else (bnd (r05_Same fu x34.1 ([(false, ([(97, 98, 1)] : List (Int × Int × Int))), (true, ([] : List (Int × Int × Int)))] : List (Bool × (List (Int × Int × Int))))) (fun x147 => bif !x147 then (some false) else (bnd (r05_Same fu x52.1 ([(false, ([(97, 98, 1)] : List (Int × Int × Int))), (true, ([] : List (Int × Int × Int)))] : List (Bool × (List (Int × Int × Int))))) (fun x150 => bif !x150 then (some false) else (bif decide (x69.2 ≠ 0) then (some false) else (bif decide (((x69.1.length : Nat) : Int) ≠ 0) then (some false) else (bif decide (x95.2 ≠ 11) then (some false) else (bnd (au_All fu) (fun x284 => bnd (r05_Same fu x284 ([(true, ([(0, 255, 0)] : List (Int × Int × Int)))] : List (Bool × (List (Int × Int × Int))))) (fun x288 => bif x288 then (bnd (au_Word fu ([97, 98] : Str)) (fun x291 => bif decide (((x291.length : Nat) : Int) = 3) then (bnd (au_Accepts fu x34.1 ([98] : Str)) (fun x297 => bif x297 then (bnd (au_Accepts fu x34.1 ([99] : Str)) (fun x300 => bif !x300 then (bnd (au_Accepts fu x34.1 ([] : Str)) (fun x303 => bif !x303 then (bnd (au_Valid fu ([(false, ([(97, 98, 1)] : List (Int × Int × Int))), (true, ([] : List (Int × Int × Int)))] : List (Bool × (List (Int × Int × Int))))) (fun x306 => bif x306 then (bnd (au_Valid fu ([] : List (Bool × (List (Int × Int × Int))))) (fun x310 => bif x310 then (bnd (au_Valid fu ([(false, ([] : List (Int × Int × Int)))] : List (Bool × (List (Int × Int × Int))))) (fun x316 => some (!x316))) else (some false))) else (some false))) else (some false))) else (some false))) else (some false))) else (some false))) else (some false))))))))))))))))))
end Go.GK
