/- The library's contracts at this seat; the walks of the program's byteset; the net, whose rows of rows are all owned. -/
import Derived.Test.YtjmbmodmepdmjabDoorHd
import Derived.Test.YtjmbmodmepdmjabDoorShelf
import Derived.Shelf.Slices.In.SortNone
namespace Go.Proofs.YtjmbmodmepdmjabDoor
open Go.GK Go.Proofs Go.Shelf Go.Sort
variable {H : Hp} {O : List Res}

theorem infT : ∃ j, Tryd.prog.info? 104 = some j ∧ j.size ≠ 0 := by
  have h : (Tryd.prog.info? 104).map (fun j => j.size) = some 2 := by kernel_rfl
  cases hj : Tryd.prog.info? 104 with
  | none => rw [hj] at h; cases h
  | some j => rw [hj] at h; simp at h; exact ⟨j, rfl, by omega⟩
set_option maxRecDepth 100000 in
theorem bldC_nil {B : Nat} {v : Value} : Tri Tryd.prog 57 [ptr B 0] H (.blk B (.cells #[.pointer none, v] 104 (0, 0)) :: O) (fun r H' O' => .tuple #[] = r ∧ .blk B (.cells #[ptr B 0, v] 104 (0, 0)) :: O = O') := by
 obtain ⟨j, hj, hj0⟩ := infT
 intro w hs
 refine wp_of Tryd.func57 rfl rfl rfl ?_ hs
 clear hs w
 refine Wp.seq ?_
 refine Wp.region ?_
 refine Seg.op (OpT.move rfl) rfl ?_
 refine Seg.op (OpT.nilCheck rfl) rfl ?_
 refine Seg.op (OpT.fld (o' := 0) fl104_0 rfl rfl) rfl ?_
 refine Seg.op (OpT.ldBlk (i := 0) (v := .pointer none) Tryd.underlying101 rfl rfl rfl rfl) rfl ?_
 refine Seg.op (OpT.eqNil Tryd.underlying101 hj rfl rfl) rfl ?_
 refine Seg.nil ?_
 refine At.then_n ?_
 refine Wp.condT rfl ?_
 refine Wp.region ?_
 refine Seg.op (OpT.move rfl) rfl ?_
 refine Seg.op (OpT.move rfl) rfl ?_
 refine Seg.op (OpT.toUnsafe (i := 0) Tryd.underlying101 Tryd.underlying136 hj hj0 rfl rfl (Nat.le_of_ble_eq_true rfl)) rfl ?_
 refine Seg.op (OpT.noEscape Tryd.func78 (by kernel_rfl) (by kernel_rfl) (by kernel_rfl) (by kernel_rfl) rfl) rfl ?_
 refine Seg.op (OpT.ofUnsafe (i := 0) Tryd.underlying136 Tryd.underlying101 hj rfl rfl (by kernel_rfl)) rfl ?_
 refine Seg.op (OpT.nilCheck rfl) rfl ?_
 refine Seg.op (OpT.fld (o' := 0) fl104_0 rfl rfl) rfl ?_
 refine Seg.stBlk1 (i := 0) rfl rfl rfl ti101 rfl (Nat.le_of_ble_eq_true rfl) ?_
 refine Seg.nil ?_
 exact At.res0n rfl (fun w hs => ⟨_, _, _, rfl, Hp.le.refl _, hs, rfl, rfl⟩)
set_option maxRecDepth 100000 in
theorem bldC_self {B : Nat} {v : Value} : Tri Tryd.prog 57 [ptr B 0] H (.blk B (.cells #[ptr B 0, v] 104 (0, 0)) :: O) (fun r H' O' => .tuple #[] = r ∧ .blk B (.cells #[ptr B 0, v] 104 (0, 0)) :: O = O') := by
 obtain ⟨j, hj, hj0⟩ := infT
 intro w hs
 refine wp_of Tryd.func57 rfl rfl rfl ?_ hs
 clear hs w
 refine Wp.seq ?_
 refine Wp.region ?_
 refine Seg.op (OpT.move rfl) rfl ?_
 refine Seg.op (OpT.nilCheck rfl) rfl ?_
 refine Seg.op (OpT.fld (o' := 0) fl104_0 rfl rfl) rfl ?_
 refine Seg.op (OpT.ldBlk (i := 0) (v := ptr B 0) Tryd.underlying101 rfl rfl rfl rfl) rfl ?_
 refine Seg.op (OpT.eqNilS Tryd.underlying101 hj rfl rfl) rfl ?_
 refine Seg.nil ?_
 refine At.then_n ?_
 refine Wp.condF rfl ?_
 refine Wp.seq ?_
 refine Wp.region ?_
 refine Seg.op (OpT.move rfl) rfl ?_
 refine Seg.op (OpT.nilCheck rfl) rfl ?_
 refine Seg.op (OpT.fld (o' := 0) fl104_0 rfl rfl) rfl ?_
 refine Seg.op (OpT.ldBlk (i := 0) (v := ptr B 0) Tryd.underlying101 rfl rfl rfl rfl) rfl ?_
 refine Seg.op (OpT.move rfl) rfl ?_
 refine Seg.op (OpT.neSame Tryd.underlying101 hj rfl rfl) rfl ?_
 refine Seg.nil ?_
 refine At.then_n ?_
 refine Wp.condF rfl ?_
 refine Wp.skip ?_
 exact At.res0n rfl (fun w hs => ⟨_, _, _, rfl, Hp.le.refl _, hs, rfl, rfl⟩)
theorem bldC {B : Nat} {a v : Value} (ha : a = .pointer none ∨ a = ptr B 0) : Tri Tryd.prog 57 [ptr B 0] H (.blk B (.cells #[a, v] 104 (0, 0)) :: O) (fun r H' O' => .tuple #[] = r ∧ .blk B (.cells #[ptr B 0, v] 104 (0, 0)) :: O = O') := by
  rcases ha with rfl | rfl
  · exact bldC_nil
  · exact bldC_self
set_option maxRecDepth 100000 in
theorem bldW {B : Nat} {a v : Value} {l s : Str} {xs : List Value} (ha : a = .pointer none ∨ a = ptr B 0) (hL : LayL cBy H l xs) (hv : v = .slice none 0 0 ∨ l ≠ []) (hb : l.length + s.length ≤ capN) :
    Tri Tryd.prog 46 [ptr B 0, sv s] H (.blk B (.cells #[a, v] 104 (0, 0)) :: .row v 5 1 l.length xs :: O) (fun r H' O' => ∃ v' xs', .tuple #[.int .i64 ((s.length : Nat) : Int), .nilIface] = r ∧ (v' = .slice none 0 0 ∨ l ++ s ≠ []) ∧ LayL cBy H' (l ++ s) xs' ∧ .blk B (.cells #[ptr B 0, v'] 104 (0, 0)) :: .row v' 5 1 (l ++ s).length xs' :: O = O') := by
 intro w hs
 refine wp_of Tryd.func46 rfl rfl rfl ?_ hs
 clear hs w
 refine Wp.seq ?_
 refine Wp.region ?_
 refine Seg.op (OpT.assign rfl) rfl ?_
 refine Seg.op (OpT.assign rfl) rfl ?_
 refine Seg.nil ?_
 refine At.then_n ?_
 refine Wp.seq ?_
 refine Wp.region ?_
 refine Seg.op (OpT.move rfl) rfl ?_
 refine Seg.opS (OpS.call ent57 rfl (bldC ha)) rfl ?_
 rintro _ H1 _ hl1 ⟨rfl, rfl⟩
 refine Seg.nil ?_
 refine At.then_n ?_
 refine Wp.seq ?_
 refine Wp.region ?_
 refine Seg.op (OpT.move rfl) rfl ?_
 refine Seg.op (OpT.move rfl) rfl ?_
 refine Seg.op (OpT.nilCheck rfl) rfl ?_
 refine Seg.op (OpT.fld (o' := 1) fl104_1 rfl rfl) rfl ?_
 refine Seg.op (OpT.ldBlk (i := 0) (v := v) Tryd.underlying102 rfl rfl rfl rfl) rfl ?_
 refine Seg.op (OpT.move rfl) rfl ?_
 refine Seg.appStr 1 Tryd.underlying102 Tryd.underlying9 ti5 rfl rfl rfl (hL.mono hl1) hv hb rfl fun v' xs' hv' hL' => ?_
 refine Seg.op (OpT.nilCheck rfl) rfl ?_
 refine Seg.op (OpT.fld (o' := 1) fl104_1 rfl rfl) rfl ?_
 refine Seg.rowOne (i := 1) rfl fun h1 => ?_
 refine Seg.stBlk1 (i := 0) rfl rfl h1 ti102 rfl (Nat.le_of_ble_eq_true rfl) ?_
 refine Seg.nil ?_
 refine At.then_n ?_
 refine Wp.seq ?_
 refine Wp.region ?_
 refine Seg.op (OpT.move rfl) rfl ?_
 refine Seg.op (OpT.lenS Tryd.underlying9 rfl) rfl ?_
 refine Seg.op (OpT.assign rfl) rfl ?_
 refine Seg.op (OpT.assign rfl) rfl ?_
 refine Seg.nil ?_
 refine At.then_n ?_
 refine Wp.ret ?_
 exact At.res2 rfl (RV.tmp rfl) (RV.tmp rfl) (fun w hs => ⟨_, _, _, rfl, hl1, hs, v', xs', rfl, hv', hL', rfl⟩)
set_option maxRecDepth 100000 in
theorem bldS_nil {B : Nat} {a : Value} : Tri Tryd.prog 48 [ptr B 0] H (.blk B (.cells #[a, .slice none 0 0] 104 (0, 0)) :: O) (fun r H' O' => sv [] = r ∧ O = O') := by
 intro w hs
 refine wp_of Tryd.func48 rfl rfl rfl ?_ hs
 clear hs w
 refine Wp.seq ?_
 refine Wp.region ?_
 refine Seg.op (OpT.assign rfl) rfl ?_
 refine Seg.nil ?_
 refine At.then_n ?_
 refine Wp.seq ?_
 refine Wp.drawE 12 follows rfl (by kernel_rfl) ?_
 refine SegL.opE (OpT.move rfl) rfl ?_
 refine SegL.opE (OpT.nilCheck rfl) rfl ?_
 refine SegL.opE (OpT.fld (o' := 1) fl104_1 rfl rfl) rfl ?_
 refine SegL.opE (OpT.ldBlk (i := 0) (v := .slice none 0 0) Tryd.underlying102 rfl rfl rfl rfl) rfl ?_
 refine SegL.opE (OpT.sliceDataNil rfl) rfl ?_
 refine SegL.opE (OpT.move rfl) rfl ?_
 refine SegL.opE (OpT.nilCheck rfl) rfl ?_
 refine SegL.opE (OpT.fld (o' := 1) fl104_1 rfl rfl) rfl ?_
 refine SegL.opE (OpT.ldBlk (i := 0) (v := .slice none 0 0) Tryd.underlying102 rfl rfl rfl rfl) rfl ?_
 refine SegL.opE (OpT.len Tryd.underlying102 rfl (.inl ⟨rfl, rfl⟩)) rfl ?_
 refine SegL.opE (OpT.unsafeStringNil rfl rfl) rfl ?_
 refine SegL.opE (OpT.assign rfl) rfl ?_
 refine SegL.doneE ?_
 refine EndL.is (t := 2) rfl ?_
 refine EndL.seg ?_
 refine Seg.nil ?_
 refine At.then_n ?_
 refine Wp.ret ?_
 exact At.res1 rfl (RV.tmp rfl) (fun w hs => ⟨_, _, _, rfl, Hp.le.refl _, hs.dropN 1, rfl, rfl⟩)
set_option maxRecDepth 100000 in
theorem bldS_some {B : Nat} {a v : Value} {l : Str} {xs : List Value} (hL : LayL cBy H l xs) (h0 : l ≠ []) : Tri Tryd.prog 48 [ptr B 0] H (.blk B (.cells #[a, v] 104 (0, 0)) :: .row v 5 1 l.length xs :: O) (fun r H' O' => sv l = r ∧ O = O') := by
 have hpos : 0 < l.length := List.length_pos_iff.2 h0
 intro w hs
 refine wp_of Tryd.func48 rfl rfl rfl ?_ hs
 clear hs w
 refine Wp.seq ?_
 refine Wp.region ?_
 refine Seg.op (OpT.assign rfl) rfl ?_
 refine Seg.nil ?_
 refine At.then_n ?_
 refine Wp.seq ?_
 refine SegO.runK 2 [⟨[], [], []⟩, ⟨[], [], []⟩, ⟨[], [], []⟩, ⟨[0], [], []⟩, ⟨[1], [], []⟩, ⟨[], [], []⟩, ⟨[], [], []⟩, ⟨[], [], []⟩, ⟨[0], [], []⟩, ⟨[1], [], []⟩, ⟨[], [1], []⟩, ⟨[], [], []⟩] follows rfl (by kernel_rfl) ?_
 refine SegO.op (val := fun _ => ptr B 0) rfl rfl (fun _ => rfl) (fun _ p _ hx hf hy => OpT.move rfl) rfl ?_
 refine SegO.op (val := fun _ => ptr B 0) rfl rfl (fun _ => rfl) (fun _ p _ hx hf hy => OpT.nilCheck rfl) rfl ?_
 refine SegO.op (val := fun _ => ptr B 1) rfl rfl (fun _ => rfl) (fun _ p _ hx hf hy => OpT.fld (o' := 1) fl104_1 rfl rfl) rfl ?_
 refine SegO.op (val := fun _ => v) rfl rfl (fun _ => rfl) (fun _ p _ hx hf hy => OpT.ldBlk (i := 0) (v := v) Tryd.underlying102 rfl rfl (hy 0 _ rfl rfl) rfl) rfl ?_
 refine SegO.op (val := fun _ => elemPtr v 0) rfl rfl (fun _ => rfl) (fun _ p _ hx hf hy => OpT.sliceData (i := 1) rfl (hy 1 _ rfl rfl) hpos) rfl ?_
 refine SegO.op (val := fun _ => ptr B 0) rfl rfl (fun _ => rfl) (fun _ p _ hx hf hy => OpT.move rfl) rfl ?_
 refine SegO.op (val := fun _ => ptr B 0) rfl rfl (fun _ => rfl) (fun _ p _ hx hf hy => OpT.nilCheck rfl) rfl ?_
 refine SegO.op (val := fun _ => ptr B 1) rfl rfl (fun _ => rfl) (fun _ p _ hx hf hy => OpT.fld (o' := 1) fl104_1 rfl rfl) rfl ?_
 refine SegO.op (val := fun _ => v) rfl rfl (fun _ => rfl) (fun _ p _ hx hf hy => OpT.ldBlk (i := 0) (v := v) Tryd.underlying102 rfl rfl (hy 0 _ rfl rfl) rfl) rfl ?_
 refine SegO.op (val := fun _ => .int .i64 ((l.length : Nat) : Int)) rfl rfl (fun _ => rfl) (fun _ p _ hx hf hy => OpT.lenRow (i := 1) Tryd.underlying102 rfl (hy 1 _ rfl rfl)) rfl ?_
 refine SegO.op1 (val := fun _ => sv l) (res := fun _ => .emp) 1 rfl rfl (fun _ => rfl) (fun _ => rfl) (fun H' p _ hx hf hy => (OpS.unsafeString (l := l) Tryd.underlying119 (by kernel_rfl) rfl rfl (hy 1 _ rfl rfl) (hL.mono hx) h0).mono (by rintro u HH OO ⟨h1, h2, h3⟩; exact ⟨h1, h2, h3.symm⟩)) rfl ?_
 refine SegO.op (val := fun _ => sv l) rfl rfl (fun _ => rfl) (fun _ p _ hx hf hy => OpT.assign rfl) rfl ?_
 refine SegO.done fun H1 p hl1 hF => ?_
 refine At.sub (L' := [(2, sv l)]) (.cons rfl .nil) ?_
 refine At.then_n ?_
 refine Wp.ret ?_
 exact At.res1 rfl (RV.tmp (v := sv l) rfl) (fun w hs => ⟨_, _, _, rfl, hl1, hs.dropN 2, rfl, rfl⟩)
theorem bldS {B : Nat} {a v : Value} {l : Str} {xs : List Value} (hL : LayL cBy H l xs) (hv : v = .slice none 0 0 ∨ l ≠ []) (hb : l = [] → v = .slice none 0 0) : Tri Tryd.prog 48 [ptr B 0] H (.blk B (.cells #[a, v] 104 (0, 0)) :: .row v 5 1 l.length xs :: O) (fun r H' O' => sv l = r ∧ O = O') := by
  by_cases h0 : l = []
  · subst h0
    rw [hb rfl]
    intro w hs
    have hs' := hs.permK [0] 2 rfl rfl rfl
    exact bldS_nil (a := a) w hs'
  · exact bldS_some hL h0

theorem bldW2 {B : Nat} {a v : Value} {l s : Str} {xs : List Value} (h : BldOk H B a v l xs) (hb : l.length + s.length ≤ capN) :
    Tri Tryd.prog 46 [ptr B 0, sv s] H (.blk B (.cells #[a, v] 104 (0, 0)) :: .row v 5 1 l.length xs :: O) (fun r H' O' => ∃ v' xs', .tuple #[.int .i64 ((s.length : Nat) : Int), .nilIface] = r ∧ BldOk H' B (ptr B 0) v' (l ++ s) xs' ∧ .blk B (.cells #[ptr B 0, v'] 104 (0, 0)) :: .row v' 5 1 (l ++ s).length xs' :: O = O') :=
  (bldW h.a h.L h.v hb).mono fun _ _ _ _ ⟨v', xs', h1, h2, h3, h4⟩ => ⟨v', xs', h1, ⟨.inr rfl, h2, h3⟩, h4⟩
theorem bldS2 {B : Nat} {a v : Value} {l : Str} {xs : List Value} (h : BldOk H B a v l xs) : Tri Tryd.prog 48 [ptr B 0] H (.blk B (.cells #[a, v] 104 (0, 0)) :: .row v 5 1 l.length xs :: O) (fun r H' O' => sv l = r ∧ O = O') :=
  bldS h.L h.v (fun h0 => h.v.resolve_right (fun k => k h0))

theorem itoaT {n : Int} (hG : LaidH Tryd.prog H) (hn : F64 n) : TriV Tryd.prog 47 [.int .i64 n] H O (sv (Lib.itoa n)) :=
  TriV.itoa (fun n h0 h1 w ht => Go.Proofs.Tryd.strconv_Itoa n h0 h1 w ht) hG hn

theorem sortT {l : List Int} {v : Value} {e : TypeId} {xs : List Value} (hL : LayL cI64 H l xs) (hn : l.length ≤ capN) :
    Tri Tryd.prog 40 [v] H (.row v e 1 l.length xs :: O) (fun r H' O' => ∃ xs', .tuple #[] = r ∧ LayL cI64 H' (GK.sortI l) xs' ∧ .row v e 1 (GK.sortI l).length xs' :: O = O') :=
  Tri.sortI (fun blk off cap zs w h1 h2 h3 => Go.Proofs.Tryd.slices_Sort_int blk off cap zs w h1 h2 h3) (fun p cap w => Go.Proofs.Any.slices_Sort_int_none Go.Proofs.Tryd.lays189 p cap w) hL hn

set_option maxHeartbeats 1000000 in
theorem closureE (a b c a' b' c' : Int) (h0 : 0 ≤ a) (h1 : a ≤ 255) (h2 : 0 ≤ a') (h3 : a' ≤ 255) (W : World) : Calls Tryd.prog 45 #[.agg #[.int .u8 a, .int .u8 b, .int .i64 c], .agg #[.int .u8 a', .int .u8 b', .int .i64 c']] W fun e w' => e = .returned (.int .i64 (a - a')) ∧ ∃ q os', w' = grow (W.drewN q) os' := by
  have e1 : IntKind.i64.wrap a = a := by simp [IntKind.wrap, IntKind.bits, IntKind.signed]; omega
  have e2 : IntKind.i64.wrap a' = a' := by simp [IntKind.wrap, IntKind.bits, IntKind.signed]; omega
  have e3 : IntKind.i64.wrap (a - a') = a - a' := by simp [IntKind.wrap, IntKind.bits, IntKind.signed]; omega
  go_enter Tryd.func45, Tryd.ntmps45
  go_wp2
  go_ret
  exact ⟨by simp [e1, e2, e3], 0, _, by rw [alloc_eq_grow, alloc_eq_grow, grow_grow]; rfl⟩
theorem sortFT {l : List (Int × Int × Int)} {v : Value} {e : TypeId} {xs : List Value} (hL : LayL (cP cU8 (cP cU8 cI64)) H l xs) (hok : CmpOk cmpLo l) (hn : l.length ≤ capN) :
    Tri Tryd.prog 44 [v, .func (.func 45) #[] #[]] H (.row v e 3 l.length xs :: O) (fun r H' O' => ∃ xs', .tuple #[] = r ∧ LayL (cP cU8 (cP cU8 cI64)) H' (sortF cmpLo l) xs' ∧ .row v e 3 (sortF cmpLo l).length xs' :: O = O') :=
  Tri.sortFn (c := cP cU8 (cP cU8 cI64)) Tryd.sortE Tryd.isAgg27 Tryd.sizeOf27 (enters_of Tryd.func45 (by kernel_rfl) rfl) (fun H x y r cs1 cs2 h1 h2 hr W => by
    obtain ⟨_, _, rfl, ⟨rfl, a1, a2⟩, _, _, rfl, ⟨rfl, a3, a4⟩, rfl⟩ := h1
    obtain ⟨_, _, rfl, ⟨rfl, b1, b2⟩, _, _, rfl, ⟨rfl, b3, b4⟩, rfl⟩ := h2
    cases hr
    exact closureE _ _ _ _ _ _ a1 a2 b1 b2 W) hL hok hn
end Go.Proofs.YtjmbmodmepdmjabDoor
namespace Go.Proofs.YtjmbmodmepdmjabDoor
open Go.GK
variable {H : Hp} {O : List Res}
set_option maxHeartbeats 4000000 in
theorem has_w (p : Nat → Bool) (b : Nat) (hb : b < 256) :
    TriV Tryd.prog 39 [(.agg (bcs p)), (.int .u8 (((b : Nat) : Int)))] H O (.bool (p b)) := by
  intro w hs
  refine wp_of Tryd.func39 rfl rfl rfl ?_ hs
  clear hs w
  refine Wp.seq ?_
  refine Wp.region ?_
  refine Seg.box (cs := bcs p) rfl rfl rfl fun B1 => ?_
  refine Seg.op (OpT.assign rfl) rfl ?_
  refine Seg.nil ?_
  refine At.then_n ?_
  refine Wp.seq ?_
  refine Wp.region ?_
  refine Seg.op (OpT.move rfl) rfl ?_
  refine Seg.op (OpT.quo rfl rfl (by omega) (by omega) (leu8 (by omega))) rfl ?_
  refine Seg.op (OpT.ixArr (off' := b / 64) Tryd.underlying40 ti38 rfl rfl (by omega) (by omega)) rfl ?_
  refine Seg.op (OpT.ldBlk (i := 0) (v := (w64 (word p (b / 64)))) Tryd.underlying38 rfl rfl rfl (bcs_get p _ (by omega))) rfl ?_
  refine Seg.op (OpT.move rfl) rfl ?_
  refine Seg.op (OpT.rem rfl rfl (by omega) (by omega)) rfl ?_
  refine Seg.op (OpT.shrW (n := b % 64) rfl rfl) rfl ?_
  refine Seg.op (OpT.andW (b := 1#64) rfl rfl) rfl ?_
  refine Seg.op (OpT.eqW (b := 1#64) rfl rfl) rfl ?_
  refine Seg.op (OpT.assign rfl) rfl ?_
  refine Seg.nil ?_
  refine At.then_n ?_
  refine Wp.ret ?_
  refine At.res1 rfl (RV.tmp (v := (.bool (decide ((((word p (b / 64)) >>> (b % 64)) &&& (1#64)) = (1#64))))) rfl) ?_
  exact fun w hs => ⟨congrArg (fun b => Ending.returned (.bool b)) (by rw [Bool.eq_iff_iff, decide_eq_true_iff]; exact has_bit p b), (hs.dropN 1).weaken (Hp.le.refl _)⟩

set_option maxHeartbeats 4000000 in
theorem of_w (lo hi : Nat) (h1 : lo < 256) (h2 : hi < 256) :
    TriV Tryd.prog 49 [(.int .u8 (((lo : Nat) : Int))), (.int .u8 (((hi : Nat) : Int)))] H O (bs (ofP lo hi)) := by
  intro w hs
  refine wp_of Tryd.func49 rfl rfl rfl ?_ hs
  clear hs w
  refine Wp.seq ?_
  refine Wp.region ?_
  refine Seg.alloc (cs := bcs (fun _ => false)) ti40 bcs_empty rfl fun Br => ?_
  refine Seg.nil ?_
  refine At.then_n ?_
  refine Wp.seq ?_
  refine Wp.region ?_
  refine Seg.alloc (cs := bcs (fun _ => false)) ti40 bcs_empty rfl fun Bs => ?_
  refine Seg.nil ?_
  refine At.then_n ?_
  refine Wp.seq ?_
  refine Wp.seq ?_
  refine Wp.region ?_
  refine Seg.op (OpT.move rfl) rfl ?_
  refine Seg.nil ?_
  refine At.then_n ?_
  refine Wp.block ?_
  refine Wp.loop (X := Nat) (fun k => [(7, (.int .i64 (((k : Nat) : Int)))), (0, (.int .u8 (((lo : Nat) : Int)))), (1, (.int .u8 (((hi : Nat) : Int)))), (4, (ptr Br (0))), (5, (ptr Bs (0)))]) (fun k => .blk Bs (.cells (bcs (ofTo lo hi k)) 40 (0, 0)) :: .blk Br (.cells (bcs (fun _ => false)) 40 (0, 0)) :: O) (fun k H' => k ≤ 256) (fun k => 256 - k) 0 ?_ ?_ ?_ ?_
  · exact (by omega)
  · exact .cons (rfl) (.cons (rfl) (.cons (rfl) (.cons (rfl) (.cons (rfl) (.nil)))))
  · exact (by rw [ofTo_zero])
  intro k H1 hle2 hi3
  have hi3 : k ≤ 256 := hi3
  refine Wp.seq ?_
  refine Wp.region ?_
  refine Seg.op (OpT.lss rfl rfl) rfl ?_
  refine Seg.nil ?_
  refine At.then_n ?_
  refine Wp.seq ?_
  refine Wp.cond (b := decide (((k : Nat) : Int) < 256)) rfl (fun hb4 => ?_) (fun hb4 => ?_)
  ·
    replace hb4 := of_decide_eq_true hb4
    refine Wp.skip ?_
    refine At.then_n ?_
    refine Wp.seq ?_
    refine Wp.block ?_
    refine Wp.seq ?_
    refine Wp.region ?_
    refine Seg.op (OpT.move rfl) rfl ?_
    refine Seg.op (OpT.assign rfl) rfl ?_
    refine Seg.nil ?_
    refine At.then_n ?_
    refine Wp.seq ?_
    refine Wp.region ?_
    refine Seg.op (OpT.move rfl) rfl ?_
    refine Seg.op (OpT.move rfl) rfl ?_
    refine Seg.op (OpT.conv Tryd.underlying5 Tryd.underlying3 rfl (fits64 (by omega))) rfl ?_
    refine Seg.op (OpT.geq rfl rfl) rfl ?_
    refine Seg.op (OpT.move rfl) rfl ?_
    refine Seg.split (t := 14) (b := decide (((lo : Nat) : Int) ≤ ((k : Nat) : Int))) rfl (fun hb5 => ?_) (fun hb5 => ?_)
    ·
      replace hb5 := of_decide_eq_true hb5
      refine Seg.opG rfl rfl (OpT.move rfl) rfl ?_
      refine Seg.opG rfl rfl (OpT.move rfl) rfl ?_
      refine Seg.opG rfl rfl (OpT.conv Tryd.underlying5 Tryd.underlying3 rfl (fits64 (by omega))) rfl ?_
      refine Seg.opG rfl rfl (OpT.leq rfl rfl) rfl ?_
      refine Seg.op (OpT.pickT rfl rfl) rfl ?_
      refine Seg.nil ?_
      refine At.then_n ?_
      refine Wp.cond (b := decide (((k : Nat) : Int) ≤ ((hi : Nat) : Int))) rfl (fun hb6 => ?_) (fun hb6 => ?_)
      ·
        replace hb6 := of_decide_eq_true hb6
        refine Wp.drawE 9 follows rfl (by kernel_rfl) ?_
        refine SegL.opE (OpT.move rfl) rfl ?_
        refine SegL.opE (OpT.quo rfl rfl (by omega) (by omega) (lei64 (by omega))) rfl ?_
        refine SegL.opE (OpT.ixArr (off' := k / 64) Tryd.underlying40 ti38 rfl rfl (by omega) (by omega)) rfl ?_
        refine SegL.opE (OpT.ldBlk (i := 0) (v := (w64 (word (ofTo lo hi k) (k / 64)))) Tryd.underlying38 rfl rfl rfl (bcs_get _ _ (by omega))) rfl ?_
        refine SegL.opE (OpT.move rfl) rfl ?_
        refine SegL.opE (OpT.rem rfl rfl (by omega) (by omega)) rfl ?_
        refine SegL.opE (OpT.shlW (a := 1#64) (n := k % 64) rfl rfl) rfl ?_
        refine SegL.opE (OpT.orW rfl rfl) rfl ?_
        refine SegL.opE (OpT.ixArr (off' := k / 64) Tryd.underlying40 ti38 rfl rfl (by omega) (by omega)) rfl ?_
        refine SegL.doneE ?_
        refine EndL.is (t := 7) (v := (.int .i64 (((k : Nat) : Int)))) rfl ?_
        refine EndL.is (t := 0) (v := (.int .u8 (((lo : Nat) : Int)))) rfl ?_
        refine EndL.is (t := 1) (v := (.int .u8 (((hi : Nat) : Int)))) rfl ?_
        refine EndL.is (t := 4) (v := (ptr Br (0))) rfl ?_
        refine EndL.is (t := 5) (v := (ptr Bs (0))) rfl ?_
        refine EndL.is (t := 8) (v := (.bool (decide (((k : Nat) : Int) < 256)))) rfl ?_
        refine EndL.is (t := 9) (v := (.int .i64 (((k : Nat) : Int)))) rfl ?_
        refine EndL.is (t := 6) (v := (.int .i64 (((k : Nat) : Int)))) rfl ?_
        refine EndL.is (t := 10) (v := (.int .i64 (((k : Nat) : Int)))) rfl ?_
        refine EndL.is (t := 11) (v := (.int .u8 (((lo : Nat) : Int)))) rfl ?_
        refine EndL.is (t := 12) (v := (.int .i64 (((lo : Nat) : Int)))) rfl ?_
        refine EndL.is (t := 13) (v := (.bool (decide (((lo : Nat) : Int) ≤ ((k : Nat) : Int))))) rfl ?_
        refine EndL.is (t := 14) (v := (.bool (true))) rfl ?_
        refine EndL.is (t := 15) (v := (.int .i64 (((k : Nat) : Int)))) rfl ?_
        refine EndL.is (t := 16) (v := (.int .u8 (((hi : Nat) : Int)))) rfl ?_
        refine EndL.is (t := 17) (v := (.int .i64 (((hi : Nat) : Int)))) rfl ?_
        refine EndL.is (t := 18) (v := (.bool (decide (((k : Nat) : Int) ≤ ((hi : Nat) : Int))))) rfl ?_
        refine EndL.is (t := 19) (v := (.bool (decide (((k : Nat) : Int) ≤ ((hi : Nat) : Int))))) rfl ?_
        refine EndL.is (t := 20) (v := (.int .i64 (((k : Nat) : Int)))) rfl ?_
        refine EndL.is (t := 21) (v := (.int .i64 (((k : Nat) : Int) / 64))) rfl ?_
        refine EndL.is (t := 22) (v := (ptr Bs (k / 64))) rfl ?_
        refine EndL.is (t := 23) (v := (w64 (word (ofTo lo hi k) (k / 64)))) rfl ?_
        refine EndL.is (t := 24) (v := (.int .i64 (((k : Nat) : Int)))) rfl ?_
        refine EndL.is (t := 25) (v := (.int .i64 (((k : Nat) : Int) % 64))) rfl ?_
        refine EndL.is (t := 26) (v := (w64 (1#64 <<< (k % 64)))) rfl ?_
        refine EndL.is (t := 27) (v := (w64 ((word (ofTo lo hi k) (k / 64)) ||| (1#64 <<< (k % 64))))) rfl ?_
        refine EndL.is (t := 28) (v := (ptr Bs (k / 64))) rfl ?_
        refine EndL.seg ?_
        refine Seg.stBlk1 (i := 0) rfl rfl rfl ti38 rfl (by rw [bcs_size]; omega) ?_
        rw [bcs_set _ k (by omega), ofTo_hit lo hi k (by omega) (by omega)]
        refine Seg.nil ?_
        refine At.blk_n ?_
        refine At.then_n ?_
        refine Wp.region ?_
        refine Seg.op (OpT.add rfl rfl (fits64 (by omega))) rfl ?_
        refine Seg.op (OpT.move rfl) rfl ?_
        refine Seg.nil ?_
        refine At.next (k + 1) (Hp.le.refl _) ?_ ?_ ?_ ?_
        · exact (by omega)
        · exact .cons (rfl) (.cons (rfl) (.cons (rfl) (.cons (rfl) (.cons (rfl) (.nil)))))
        · exact (by first | rfl | rw [ofTo_skip lo hi k (by omega)])
        · exact (by (try dsimp only); omega)
      ·
        replace hb6 := of_decide_eq_false hb6
        refine Wp.skip ?_
        refine At.blk_n ?_
        refine At.then_n ?_
        refine Wp.region ?_
        refine Seg.op (OpT.add rfl rfl (fits64 (by omega))) rfl ?_
        refine Seg.op (OpT.move rfl) rfl ?_
        refine Seg.nil ?_
        refine At.next (k + 1) (Hp.le.refl _) ?_ ?_ ?_ ?_
        · exact (by omega)
        · exact .cons (rfl) (.cons (rfl) (.cons (rfl) (.cons (rfl) (.cons (rfl) (.nil)))))
        · exact (by first | rfl | rw [ofTo_skip lo hi k (by omega)])
        · exact (by (try dsimp only); omega)
    ·
      replace hb5 := of_decide_eq_false hb5
      refine Seg.skipG rfl rfl rfl rfl ?_
      refine Seg.skipG rfl rfl rfl rfl ?_
      refine Seg.skipG rfl rfl rfl rfl ?_
      refine Seg.skipG rfl rfl rfl rfl ?_
      refine Seg.op (OpT.pickF rfl rfl) rfl ?_
      refine Seg.nil ?_
      refine At.then_n ?_
      refine Wp.condF rfl ?_
      refine Wp.skip ?_
      refine At.blk_n ?_
      refine At.then_n ?_
      refine Wp.region ?_
      refine Seg.op (OpT.add rfl rfl (fits64 (by omega))) rfl ?_
      refine Seg.op (OpT.move rfl) rfl ?_
      refine Seg.nil ?_
      refine At.next (k + 1) (Hp.le.refl _) ?_ ?_ ?_ ?_
      · exact (by omega)
      · exact .cons (rfl) (.cons (rfl) (.cons (rfl) (.cons (rfl) (.cons (rfl) (.nil)))))
      · exact (by first | rfl | rw [ofTo_skip lo hi k (by omega)])
      · exact (by (try dsimp only); omega)
  ·
    replace hb4 := of_decide_eq_false hb4
    refine Wp.exit ?_
    refine At.then_x ?_
    refine At.then_x ?_
    refine At.blk_hit ?_
    refine At.then_n ?_
    refine Wp.seq ?_
    refine Wp.region ?_
    refine Seg.op (OpT.ldBlkW (i := 0) Tryd.underlying40 rfl ti40 rfl rfl rfl) rfl ?_
    refine Seg.stBlkW (i := 1) (cs' := (bcs (ofTo lo hi k))) rfl rfl ti40 rfl rfl (bcs_one _) rfl ?_
    refine Seg.nil ?_
    refine At.then_n ?_
    refine Wp.ret ?_
    refine At.res1 rfl (RV.cellA (i := 1) rfl Tryd.underlying40 rfl ti40 (rfl) rfl) ?_
    exact fun w hs => ⟨by exact congrArg (fun c => Ending.returned (.agg c)) (ofTo_done lo hi _ (by omega)), (hs.dropN 2).weaken hle2⟩

set_option maxHeartbeats 4000000 in
theorem or_w (p q : Nat → Bool) :
    TriV Tryd.prog 52 [(.agg (bcs p)), (.agg (bcs q))] H O (bs (fun x => p x || q x)) := by
  intro w hs
  refine wp_of Tryd.func52 rfl rfl rfl ?_ hs
  clear hs w
  refine Wp.seq ?_
  refine Wp.region ?_
  refine Seg.box (cs := bcs p) rfl rfl rfl fun Ba => ?_
  refine Seg.box (cs := bcs q) rfl rfl rfl fun Bb => ?_
  refine Seg.alloc (cs := bcs (fun _ => false)) ti40 bcs_empty rfl fun Br => ?_
  refine Seg.nil ?_
  refine At.then_n ?_
  refine Wp.seq ?_
  refine Wp.seq ?_
  refine Wp.region ?_
  refine Seg.op (OpT.move rfl) rfl ?_
  refine Seg.nil ?_
  refine At.then_n ?_
  refine Wp.block ?_
  refine Wp.loop (X := Nat) (fun k => [(6, (.int .i64 (((k : Nat) : Int)))), (2, (ptr Ba (0))), (3, (ptr Bb (0))), (4, (ptr Br (0)))]) (fun k => .blk Br (.cells (bcs (fun _ => false)) 40 (0, 0)) :: .blk Bb (.cells (bcs q) 40 (0, 0)) :: .blk Ba (.cells (bcs (mixTo (fun x => p x || q x) p k)) 40 (0, 0)) :: O) (fun k H' => k ≤ 4) (fun k => 4 - k) 0 ?_ ?_ ?_ ?_
  · exact (by omega)
  · exact .cons (rfl) (.cons (rfl) (.cons (rfl) (.cons (rfl) (.nil))))
  · exact (by first | rfl | (rw [← mix_zero]; done) | (rw [← mix_zero]; rfl))
  intro k H1 hle2 hi3
  refine Wp.seq ?_
  refine Wp.region ?_
  refine Seg.op (OpT.lss rfl rfl) rfl ?_
  refine Seg.nil ?_
  refine At.then_n ?_
  refine Wp.seq ?_
  refine Wp.cond (b := decide (((k : Nat) : Int) < 4)) rfl (fun hb4 => ?_) (fun hb4 => ?_)
  ·
    replace hb4 := of_decide_eq_true hb4
    refine Wp.skip ?_
    refine At.then_n ?_
    refine Wp.seq ?_
    refine Wp.block ?_
    refine Wp.seq ?_
    refine Wp.region ?_
    refine Seg.op (OpT.move rfl) rfl ?_
    refine Seg.op (OpT.assign rfl) rfl ?_
    refine Seg.nil ?_
    refine At.then_n ?_
    refine Wp.drawE 8 follows rfl (by kernel_rfl) ?_
    refine SegL.opE (OpT.move rfl) rfl ?_
    refine SegL.opE (OpT.ixArr (off' := k) Tryd.underlying40 ti38 rfl rfl (by omega) (by omega)) rfl ?_
    refine SegL.opE (OpT.ldBlk (i := 2) (v := (w64 (word p k))) Tryd.underlying38 rfl rfl rfl (mix_get _ _ _ (by omega))) rfl ?_
    refine SegL.opE (OpT.move rfl) rfl ?_
    refine SegL.opE (OpT.ixArr (off' := k) Tryd.underlying40 ti38 rfl rfl (by omega) (by omega)) rfl ?_
    refine SegL.opE (OpT.ldBlk (i := 1) (v := (w64 (word q k))) Tryd.underlying38 rfl rfl rfl (bcs_get _ _ (by omega))) rfl ?_
    refine SegL.opE (OpT.orW rfl rfl) rfl ?_
    refine SegL.opE (OpT.ixArr (off' := k) Tryd.underlying40 ti38 rfl rfl (by omega) (by omega)) rfl ?_
    refine SegL.doneE ?_
    refine EndL.is (t := 6) (v := (.int .i64 (((k : Nat) : Int)))) rfl ?_
    refine EndL.is (t := 2) (v := (ptr Ba (0))) rfl ?_
    refine EndL.is (t := 3) (v := (ptr Bb (0))) rfl ?_
    refine EndL.is (t := 4) (v := (ptr Br (0))) rfl ?_
    refine EndL.is (t := 7) (v := (.bool (decide (((k : Nat) : Int) < 4)))) rfl ?_
    refine EndL.is (t := 8) (v := (.int .i64 (((k : Nat) : Int)))) rfl ?_
    refine EndL.is (t := 5) (v := (.int .i64 (((k : Nat) : Int)))) rfl ?_
    refine EndL.is (t := 9) (v := (.int .i64 (((k : Nat) : Int)))) rfl ?_
    refine EndL.is (t := 10) (v := (ptr Ba (k))) rfl ?_
    refine EndL.is (t := 11) (v := (w64 (word p k))) rfl ?_
    refine EndL.is (t := 12) (v := (.int .i64 (((k : Nat) : Int)))) rfl ?_
    refine EndL.is (t := 13) (v := (ptr Bb (k))) rfl ?_
    refine EndL.is (t := 14) (v := (w64 (word q k))) rfl ?_
    refine EndL.is (t := 15) (v := (w64 ((word p k) ||| (word q k)))) rfl ?_
    refine EndL.is (t := 16) (v := (ptr Ba (k))) rfl ?_
    refine EndL.seg ?_
    refine Seg.stBlk1 (i := 2) rfl rfl rfl ti38 rfl (by rw [bcs_size]; omega) ?_
    rw [mix_step _ _ k _ (by omega) (word_or p q k)]
    refine Seg.nil ?_
    refine At.blk_n ?_
    refine At.then_n ?_
    refine Wp.region ?_
    refine Seg.op (OpT.add rfl rfl (fits64 (by omega))) rfl ?_
    refine Seg.op (OpT.move rfl) rfl ?_
    refine Seg.nil ?_
    refine At.next (k + 1) (Hp.le.refl _) ?_ ?_ ?_ ?_
    · exact (by omega)
    · exact .cons (rfl) (.cons (rfl) (.cons (rfl) (.cons (rfl) (.nil))))
    · exact (rfl)
    · exact (by (try dsimp only); omega)
  ·
    replace hb4 := of_decide_eq_false hb4
    refine Wp.exit ?_
    refine At.then_x ?_
    refine At.then_x ?_
    refine At.blk_hit ?_
    refine At.then_n ?_
    refine Wp.seq ?_
    refine Wp.region ?_
    refine Seg.op (OpT.ldBlkW (i := 2) Tryd.underlying40 rfl ti40 rfl rfl rfl) rfl ?_
    refine Seg.stBlkW (i := 0) (cs' := (bcs (mixTo (fun x => p x || q x) p k))) rfl rfl ti40 rfl rfl (bcs_one _) rfl ?_
    refine Seg.nil ?_
    refine At.then_n ?_
    refine Wp.ret ?_
    refine At.res1 rfl (RV.cellA (i := 0) rfl Tryd.underlying40 rfl ti40 (rfl) rfl) ?_
    exact fun w hs => ⟨by exact congrArg (fun c => Ending.returned (.agg c)) (mix_done _ _ _ (by omega)), (hs.dropN 3).weaken hle2⟩

set_option maxHeartbeats 4000000 in
theorem and_w (p q : Nat → Bool) :
    TriV Tryd.prog 50 [(.agg (bcs p)), (.agg (bcs q))] H O (bs (fun x => p x && q x)) := by
  intro w hs
  refine wp_of Tryd.func50 rfl rfl rfl ?_ hs
  clear hs w
  refine Wp.seq ?_
  refine Wp.region ?_
  refine Seg.box (cs := bcs p) rfl rfl rfl fun Ba => ?_
  refine Seg.box (cs := bcs q) rfl rfl rfl fun Bb => ?_
  refine Seg.alloc (cs := bcs (fun _ => false)) ti40 bcs_empty rfl fun Br => ?_
  refine Seg.nil ?_
  refine At.then_n ?_
  refine Wp.seq ?_
  refine Wp.seq ?_
  refine Wp.region ?_
  refine Seg.op (OpT.move rfl) rfl ?_
  refine Seg.nil ?_
  refine At.then_n ?_
  refine Wp.block ?_
  refine Wp.loop (X := Nat) (fun k => [(6, (.int .i64 (((k : Nat) : Int)))), (2, (ptr Ba (0))), (3, (ptr Bb (0))), (4, (ptr Br (0)))]) (fun k => .blk Br (.cells (bcs (fun _ => false)) 40 (0, 0)) :: .blk Bb (.cells (bcs q) 40 (0, 0)) :: .blk Ba (.cells (bcs (mixTo (fun x => p x && q x) p k)) 40 (0, 0)) :: O) (fun k H' => k ≤ 4) (fun k => 4 - k) 0 ?_ ?_ ?_ ?_
  · exact (by omega)
  · exact .cons (rfl) (.cons (rfl) (.cons (rfl) (.cons (rfl) (.nil))))
  · exact (by first | rfl | (rw [← mix_zero]; done) | (rw [← mix_zero]; rfl))
  intro k H1 hle2 hi3
  refine Wp.seq ?_
  refine Wp.region ?_
  refine Seg.op (OpT.lss rfl rfl) rfl ?_
  refine Seg.nil ?_
  refine At.then_n ?_
  refine Wp.seq ?_
  refine Wp.cond (b := decide (((k : Nat) : Int) < 4)) rfl (fun hb4 => ?_) (fun hb4 => ?_)
  ·
    replace hb4 := of_decide_eq_true hb4
    refine Wp.skip ?_
    refine At.then_n ?_
    refine Wp.seq ?_
    refine Wp.block ?_
    refine Wp.seq ?_
    refine Wp.region ?_
    refine Seg.op (OpT.move rfl) rfl ?_
    refine Seg.op (OpT.assign rfl) rfl ?_
    refine Seg.nil ?_
    refine At.then_n ?_
    refine Wp.drawE 8 follows rfl (by kernel_rfl) ?_
    refine SegL.opE (OpT.move rfl) rfl ?_
    refine SegL.opE (OpT.ixArr (off' := k) Tryd.underlying40 ti38 rfl rfl (by omega) (by omega)) rfl ?_
    refine SegL.opE (OpT.ldBlk (i := 2) (v := (w64 (word p k))) Tryd.underlying38 rfl rfl rfl (mix_get _ _ _ (by omega))) rfl ?_
    refine SegL.opE (OpT.move rfl) rfl ?_
    refine SegL.opE (OpT.ixArr (off' := k) Tryd.underlying40 ti38 rfl rfl (by omega) (by omega)) rfl ?_
    refine SegL.opE (OpT.ldBlk (i := 1) (v := (w64 (word q k))) Tryd.underlying38 rfl rfl rfl (bcs_get _ _ (by omega))) rfl ?_
    refine SegL.opE (OpT.andW rfl rfl) rfl ?_
    refine SegL.opE (OpT.ixArr (off' := k) Tryd.underlying40 ti38 rfl rfl (by omega) (by omega)) rfl ?_
    refine SegL.doneE ?_
    refine EndL.is (t := 6) (v := (.int .i64 (((k : Nat) : Int)))) rfl ?_
    refine EndL.is (t := 2) (v := (ptr Ba (0))) rfl ?_
    refine EndL.is (t := 3) (v := (ptr Bb (0))) rfl ?_
    refine EndL.is (t := 4) (v := (ptr Br (0))) rfl ?_
    refine EndL.is (t := 7) (v := (.bool (decide (((k : Nat) : Int) < 4)))) rfl ?_
    refine EndL.is (t := 8) (v := (.int .i64 (((k : Nat) : Int)))) rfl ?_
    refine EndL.is (t := 5) (v := (.int .i64 (((k : Nat) : Int)))) rfl ?_
    refine EndL.is (t := 9) (v := (.int .i64 (((k : Nat) : Int)))) rfl ?_
    refine EndL.is (t := 10) (v := (ptr Ba (k))) rfl ?_
    refine EndL.is (t := 11) (v := (w64 (word p k))) rfl ?_
    refine EndL.is (t := 12) (v := (.int .i64 (((k : Nat) : Int)))) rfl ?_
    refine EndL.is (t := 13) (v := (ptr Bb (k))) rfl ?_
    refine EndL.is (t := 14) (v := (w64 (word q k))) rfl ?_
    refine EndL.is (t := 15) (v := (w64 ((word p k) &&& (word q k)))) rfl ?_
    refine EndL.is (t := 16) (v := (ptr Ba (k))) rfl ?_
    refine EndL.seg ?_
    refine Seg.stBlk1 (i := 2) rfl rfl rfl ti38 rfl (by rw [bcs_size]; omega) ?_
    rw [mix_step _ _ k _ (by omega) (word_and p q k)]
    refine Seg.nil ?_
    refine At.blk_n ?_
    refine At.then_n ?_
    refine Wp.region ?_
    refine Seg.op (OpT.add rfl rfl (fits64 (by omega))) rfl ?_
    refine Seg.op (OpT.move rfl) rfl ?_
    refine Seg.nil ?_
    refine At.next (k + 1) (Hp.le.refl _) ?_ ?_ ?_ ?_
    · exact (by omega)
    · exact .cons (rfl) (.cons (rfl) (.cons (rfl) (.cons (rfl) (.nil))))
    · exact (rfl)
    · exact (by (try dsimp only); omega)
  ·
    replace hb4 := of_decide_eq_false hb4
    refine Wp.exit ?_
    refine At.then_x ?_
    refine At.then_x ?_
    refine At.blk_hit ?_
    refine At.then_n ?_
    refine Wp.seq ?_
    refine Wp.region ?_
    refine Seg.op (OpT.ldBlkW (i := 2) Tryd.underlying40 rfl ti40 rfl rfl rfl) rfl ?_
    refine Seg.stBlkW (i := 0) (cs' := (bcs (mixTo (fun x => p x && q x) p k))) rfl rfl ti40 rfl rfl (bcs_one _) rfl ?_
    refine Seg.nil ?_
    refine At.then_n ?_
    refine Wp.ret ?_
    refine At.res1 rfl (RV.cellA (i := 0) rfl Tryd.underlying40 rfl ti40 (rfl) rfl) ?_
    exact fun w hs => ⟨by exact congrArg (fun c => Ending.returned (.agg c)) (mix_done _ _ _ (by omega)), (hs.dropN 3).weaken hle2⟩

set_option maxHeartbeats 4000000 in
theorem not_w (p : Nat → Bool) :
    TriV Tryd.prog 51 [(.agg (bcs p))] H O (bs (fun x => !p x)) := by
  intro w hs
  refine wp_of Tryd.func51 rfl rfl rfl ?_ hs
  clear hs w
  refine Wp.seq ?_
  refine Wp.region ?_
  refine Seg.box (cs := bcs p) rfl rfl rfl fun Ba => ?_
  refine Seg.alloc (cs := bcs (fun _ => false)) ti40 bcs_empty rfl fun Br => ?_
  refine Seg.nil ?_
  refine At.then_n ?_
  refine Wp.seq ?_
  refine Wp.seq ?_
  refine Wp.region ?_
  refine Seg.op (OpT.move rfl) rfl ?_
  refine Seg.nil ?_
  refine At.then_n ?_
  refine Wp.block ?_
  refine Wp.loop (X := Nat) (fun k => [(4, (.int .i64 (((k : Nat) : Int)))), (1, (ptr Ba (0))), (2, (ptr Br (0)))]) (fun k => .blk Br (.cells (bcs (fun _ => false)) 40 (0, 0)) :: .blk Ba (.cells (bcs (mixTo (fun x => !p x) p k)) 40 (0, 0)) :: O) (fun k H' => k ≤ 4) (fun k => 4 - k) 0 ?_ ?_ ?_ ?_
  · exact (by omega)
  · exact .cons (rfl) (.cons (rfl) (.cons (rfl) (.nil)))
  · exact (by first | rfl | (rw [← mix_zero]; done) | (rw [← mix_zero]; rfl))
  intro k H1 hle2 hi3
  refine Wp.seq ?_
  refine Wp.region ?_
  refine Seg.op (OpT.lss rfl rfl) rfl ?_
  refine Seg.nil ?_
  refine At.then_n ?_
  refine Wp.seq ?_
  refine Wp.cond (b := decide (((k : Nat) : Int) < 4)) rfl (fun hb4 => ?_) (fun hb4 => ?_)
  ·
    replace hb4 := of_decide_eq_true hb4
    refine Wp.skip ?_
    refine At.then_n ?_
    refine Wp.seq ?_
    refine Wp.block ?_
    refine Wp.seq ?_
    refine Wp.region ?_
    refine Seg.op (OpT.move rfl) rfl ?_
    refine Seg.op (OpT.assign rfl) rfl ?_
    refine Seg.nil ?_
    refine At.then_n ?_
    refine Wp.region ?_
    refine Seg.op (OpT.move rfl) rfl ?_
    refine Seg.op (OpT.move rfl) rfl ?_
    refine Seg.op (OpT.ixArr (off' := k) Tryd.underlying40 ti38 rfl rfl (by omega) (by omega)) rfl ?_
    refine Seg.op (OpT.ldBlk (i := 1) (v := (w64 (word p k))) Tryd.underlying38 rfl rfl rfl (mix_get _ _ _ (by omega))) rfl ?_
    refine Seg.op (OpT.notW rfl) rfl ?_
    refine Seg.op (OpT.ixArr (off' := k) Tryd.underlying40 ti38 rfl rfl (by omega) (by omega)) rfl ?_
    refine Seg.stBlk1 (i := 1) rfl rfl rfl ti38 rfl (by rw [bcs_size]; omega) ?_
    rw [mix_step _ _ k _ (by omega) (word_not p k)]
    refine Seg.nil ?_
    refine At.blk_n ?_
    refine At.then_n ?_
    refine Wp.region ?_
    refine Seg.op (OpT.add rfl rfl (fits64 (by omega))) rfl ?_
    refine Seg.op (OpT.move rfl) rfl ?_
    refine Seg.nil ?_
    refine At.next (k + 1) (Hp.le.refl _) ?_ ?_ ?_ ?_
    · exact (by omega)
    · exact .cons (rfl) (.cons (rfl) (.cons (rfl) (.nil)))
    · exact (rfl)
    · exact (by (try dsimp only); omega)
  ·
    replace hb4 := of_decide_eq_false hb4
    refine Wp.exit ?_
    refine At.then_x ?_
    refine At.then_x ?_
    refine At.blk_hit ?_
    refine At.then_n ?_
    refine Wp.seq ?_
    refine Wp.region ?_
    refine Seg.op (OpT.ldBlkW (i := 1) Tryd.underlying40 rfl ti40 rfl rfl rfl) rfl ?_
    refine Seg.stBlkW (i := 0) (cs' := (bcs (mixTo (fun x => !p x) p k))) rfl rfl ti40 rfl rfl (bcs_one _) rfl ?_
    refine Seg.nil ?_
    refine At.then_n ?_
    refine Wp.ret ?_
    refine At.res1 rfl (RV.cellA (i := 0) rfl Tryd.underlying40 rfl ti40 (rfl) rfl) ?_
    exact fun w hs => ⟨by exact congrArg (fun c => Ending.returned (.agg c)) (mix_done _ _ _ (by omega)), (hs.dropN 2).weaken hle2⟩

set_option maxHeartbeats 4000000 in
theorem least_w (p : Nat → Bool) :
    TriV Tryd.prog 38 [(.agg (bcs p))] H O (.tuple #[.int .u8 (lst p : Nat), .bool (anyS p)]) := by
  intro w hs
  refine wp_of Tryd.func38 rfl rfl rfl ?_ hs
  clear hs w
  refine Wp.seq ?_
  refine Wp.region ?_
  refine Seg.box (cs := bcs p) rfl rfl rfl fun Ba => ?_
  refine Seg.op (OpT.assign rfl) rfl ?_
  refine Seg.op (OpT.assign rfl) rfl ?_
  refine Seg.nil ?_
  refine At.then_n ?_
  refine Wp.seq ?_
  refine Wp.seq ?_
  refine Wp.region ?_
  refine Seg.op (OpT.move rfl) rfl ?_
  refine Seg.nil ?_
  refine At.then_n ?_
  refine Wp.block ?_
  refine Wp.loop (X := Nat) (fun k => [(5, (.int .i64 (((k : Nat) : Int)))), (1, (ptr Ba (0)))]) (fun k => .blk Ba (.cells (bcs p) 40 (0, 0)) :: O) (fun k H' => k ≤ 256 ∧ ∀ x, x < k → p x = false) (fun k => 256 - k) 0 ?_ ?_ ?_ ?_
  · exact (⟨by omega, fun x hx => by omega⟩)
  · exact .cons (rfl) (.cons (rfl) (.nil))
  · exact (rfl)
  intro k H1 hle2 hi3
  have hk : k ≤ 256 := hi3.1
  have h0 := hi3.2
  refine Wp.seq ?_
  refine Wp.region ?_
  refine Seg.op (OpT.lss rfl rfl) rfl ?_
  refine Seg.nil ?_
  refine At.then_n ?_
  refine Wp.seq ?_
  refine Wp.cond (b := decide (((k : Nat) : Int) < 256)) rfl (fun hb4 => ?_) (fun hb4 => ?_)
  ·
    replace hb4 := of_decide_eq_true hb4
    refine Wp.skip ?_
    refine At.then_n ?_
    refine Wp.seq ?_
    refine Wp.block ?_
    refine Wp.seq ?_
    refine Wp.region ?_
    refine Seg.op (OpT.move rfl) rfl ?_
    refine Seg.op (OpT.assign rfl) rfl ?_
    refine Seg.nil ?_
    refine At.then_n ?_
    refine Wp.seq ?_
    refine Wp.region ?_
    refine Seg.op (OpT.ldBlkW (i := 0) Tryd.underlying40 rfl ti40 rfl rfl rfl) rfl ?_
    refine Seg.op (OpT.move rfl) rfl ?_
    refine Seg.op (OpT.conv Tryd.underlying3 Tryd.underlying5 rfl (fitsU8 (by omega))) rfl ?_
    refine Seg.op (OpT.call ent39 rfl (has_w p k (by omega))) rfl ?_
    refine Seg.nil ?_
    refine At.then_n ?_
    refine Wp.cond (b := p k) rfl (fun hb5 => ?_) (fun hb5 => ?_)
    ·
      refine Wp.seq ?_
      refine Wp.region ?_
      refine Seg.op (OpT.move rfl) rfl ?_
      refine Seg.op (OpT.conv Tryd.underlying3 Tryd.underlying5 rfl (fitsU8 (by omega))) rfl ?_
      refine Seg.op (OpT.assign rfl) rfl ?_
      refine Seg.op (OpT.assign rfl) rfl ?_
      refine Seg.nil ?_
      refine At.then_n ?_
      refine Wp.ret ?_
      refine At.blk_r ?_
      refine At.then_r ?_
      refine At.then_r ?_
      refine At.blk_r ?_
      refine At.then_r ?_
      refine At.res2 rfl (RV.tmp (v := (.int .u8 (((k : Nat) : Int)))) rfl) (RV.tmp (v := (.bool (true))) rfl) ?_
      exact fun w hs => ⟨by first | (have h := least_hit p k (by omega) h0 (by assumption); rw [h.1, h.2]; done) | (have h := least_none p k (by omega) h0; rw [h.1, h.2]; done) | (have h := least_none p k (by omega) h0; rw [h.1, h.2]; rfl), (hs.dropN 1).weaken hle2⟩
    ·
      refine Wp.skip ?_
      refine At.blk_n ?_
      refine At.then_n ?_
      refine Wp.region ?_
      refine Seg.op (OpT.add rfl rfl (fits64 (by omega))) rfl ?_
      refine Seg.op (OpT.move rfl) rfl ?_
      refine Seg.nil ?_
      refine At.next (k + 1) (Hp.le.refl _) ?_ ?_ ?_ ?_
      · exact (⟨by omega, none_succ p k h0 (by assumption)⟩)
      · exact .cons (rfl) (.cons (rfl) (.nil))
      · exact (rfl)
      · exact (by (try dsimp only); omega)
  ·
    replace hb4 := of_decide_eq_false hb4
    refine Wp.exit ?_
    refine At.then_x ?_
    refine At.then_x ?_
    refine At.blk_hit ?_
    refine At.then_n ?_
    refine Wp.seq ?_
    refine Wp.region ?_
    refine Seg.op (OpT.assign rfl) rfl ?_
    refine Seg.op (OpT.assign rfl) rfl ?_
    refine Seg.nil ?_
    refine At.then_n ?_
    refine Wp.ret ?_
    refine At.res2 rfl (RV.tmp (v := (.int .u8 (0))) rfl) (RV.tmp (v := (.bool (false))) rfl) ?_
    exact fun w hs => ⟨by first | (have h := least_hit p k (by omega) h0 (by assumption); rw [h.1, h.2]; done) | (have h := least_none p k (by omega) h0; rw [h.1, h.2]; done) | (have h := least_none p k (by omega) h0; rw [h.1, h.2]; rfl), (hs.dropN 1).weaken hle2⟩

set_option maxHeartbeats 4000000 in
theorem ranges_w (p : Nat → Bool) :
    Tri Tryd.prog 43 [(.agg (bcs p))] H O (fun v H' O' => O' = O ∧ Sl H' v 2 (rgTo p 256).length ((rgTo p 256).flatMap encB)) := by
  intro w hs
  refine wp_of Tryd.func43 rfl rfl rfl ?_ hs
  clear hs w
  refine Wp.seq ?_
  refine Wp.region ?_
  refine Seg.box (cs := bcs p) rfl rfl rfl fun Ba => ?_
  refine Seg.op (OpT.assign rfl) rfl ?_
  refine Seg.nil ?_
  refine At.then_n ?_
  refine Wp.seq ?_
  refine Wp.region ?_
  refine Seg.op (OpT.assign rfl) rfl ?_
  refine Seg.nil ?_
  refine At.then_n ?_
  refine Wp.seq ?_
  refine Wp.seq ?_
  refine Wp.nilRow 97 2 ?_
  refine Wp.region ?_
  refine Seg.op (OpT.move rfl) rfl ?_
  refine Seg.nil ?_
  refine At.then_n ?_
  refine Wp.block ?_
  refine Wp.loop (X := Nat × Value) (fun x => [(5, (.int .i64 (((x.1 : Nat) : Int)))), (3, x.2), (1, (ptr Ba (0))), (2, (.slice none 0 0))]) (fun x => .row x.2 97 2 ((rgTo p x.1).length) ((rgTo p x.1).flatMap encB) :: .blk Ba (.cells (bcs p) 40 (0, 0)) :: O) (fun x H' => x.1 ≤ 256) (fun x => 256 - x.1) (0, .slice none 0 0) ?_ ?_ ?_ ?_
  · exact (by omega)
  · exact .cons (rfl) (.cons (rfl) (.cons (rfl) (.cons (rfl) (.nil))))
  · exact (by first | rfl | (rw [rgTo_zero]; done) | (rw [rgTo_zero]; rfl))
  intro x H1 hle2 hi3
  have hc := rgTo_len p x.1
  refine Wp.seq ?_
  refine Wp.region ?_
  refine Seg.op (OpT.lss rfl rfl) rfl ?_
  refine Seg.nil ?_
  refine At.then_n ?_
  refine Wp.seq ?_
  refine Wp.cond (b := decide (((x.1 : Nat) : Int) < 256)) rfl (fun hb4 => ?_) (fun hb4 => ?_)
  ·
    replace hb4 := of_decide_eq_true hb4
    refine Wp.skip ?_
    refine At.then_n ?_
    refine Wp.seq ?_
    refine Wp.block ?_
    refine Wp.seq ?_
    refine Wp.region ?_
    refine Seg.op (OpT.move rfl) rfl ?_
    refine Seg.op (OpT.assign rfl) rfl ?_
    refine Seg.nil ?_
    refine At.then_n ?_
    refine Wp.block ?_
    refine Wp.seq ?_
    refine Wp.region ?_
    refine Seg.op (OpT.ldBlkW (i := 1) Tryd.underlying40 rfl ti40 rfl rfl rfl) rfl ?_
    refine Seg.op (OpT.move rfl) rfl ?_
    refine Seg.op (OpT.conv Tryd.underlying3 Tryd.underlying5 rfl (fitsU8 (by omega))) rfl ?_
    refine Seg.op (OpT.call ent39 rfl (has_w p x.1 (by omega))) rfl ?_
    refine Seg.op (OpT.not rfl) rfl ?_
    refine Seg.op (OpT.assign rfl) rfl ?_
    refine Seg.nil ?_
    refine At.then_n ?_
    refine Wp.cond (b := !(p x.1)) rfl (fun hb5 => ?_) (fun hb5 => ?_)
    ·
      refine Wp.skip ?_
      refine At.blk_n ?_
      refine At.blk_n ?_
      refine At.then_n ?_
      refine Wp.region ?_
      refine Seg.op (OpT.add rfl rfl (fits64 (by omega))) rfl ?_
      refine Seg.op (OpT.move rfl) rfl ?_
      refine Seg.nil ?_
      refine At.next (x.1 + 1, x.2) (Hp.le.refl _) ?_ ?_ ?_ ?_
      · exact (by (try dsimp only); omega)
      · exact .cons (rfl) (.cons (rfl) (.cons (rfl) (.cons (rfl) (.nil))))
      · exact (by first | rfl | (rw [← rgTo_skip p x.1 (by simp_all)]; done) | (rw [← rgTo_skip p x.1 (by simp_all)]; rfl))
      · exact (by (try dsimp only); omega)
    ·
      refine Wp.seq ?_
      refine Wp.region ?_
      refine Seg.op (OpT.move rfl) rfl ?_
      refine Seg.op (OpT.gtr rfl rfl) rfl ?_
      refine Seg.op (OpT.move rfl) rfl ?_
      refine Seg.split (t := 25) (b := decide (0 < ((x.1 : Nat) : Int))) rfl (fun hb6 => ?_) (fun hb6 => ?_)
      ·
        replace hb6 := of_decide_eq_true hb6
        refine Seg.opG rfl rfl (OpT.ldBlkW (i := 1) Tryd.underlying40 rfl ti40 rfl rfl rfl) rfl ?_
        refine Seg.opG rfl rfl (OpT.move rfl) rfl ?_
        refine Seg.opG rfl rfl (OpT.cast (v' := (.int .i64 ((((x.1 - 1) : Nat) : Int)))) (OpT.sub rfl rfl (fits64 (by omega))) (congrArg (Value.int .i64) (by omega))) rfl ?_
        refine Seg.opG rfl rfl (OpT.conv Tryd.underlying3 Tryd.underlying5 rfl (fitsU8 (by omega))) rfl ?_
        refine Seg.opG rfl rfl (OpT.call ent39 rfl (has_w p (x.1 - 1) (by omega))) rfl ?_
        refine Seg.op (OpT.pickT rfl rfl) rfl ?_
        refine Seg.op (OpT.assign rfl) rfl ?_
        refine Seg.nil ?_
        refine At.then_n ?_
        refine Wp.cond (b := p (x.1 - 1)) rfl (fun hb7 => ?_) (fun hb7 => ?_)
        ·
          refine Wp.region ?_
          refine Seg.op (OpT.move rfl) rfl ?_
          refine Seg.op (OpT.move rfl) rfl ?_
          refine Seg.op (OpT.lenRow (i := 0) Tryd.underlying95 rfl rfl) rfl ?_
          refine Seg.op (OpT.cast (v' := (.int .i64 (((((rgTo p x.1).length - 1) : Nat) : Int)))) (OpT.sub rfl rfl (fits64 (by omega))) (congrArg (Value.int .i64) (by have := rg_pos p x.1 (by omega) (by assumption); omega))) rfl ?_
          refine Seg.op (OpT.move rfl) rfl ?_
          refine Seg.op (OpT.conv Tryd.underlying3 Tryd.underlying5 rfl (fitsU8 (by omega))) rfl ?_
          refine Seg.op (OpT.ixRow (j := 0) Tryd.underlying95 ti97 rfl rfl rfl (by have := rg_pos p x.1 (by omega) (by assumption); omega)) rfl ?_
          refine Seg.op (OpT.ixArrRow (q := 0) (j := ((rgTo p x.1).length - 1) * 2) Tryd.underlying97 ti5 rfl rfl (rg_pos p x.1 (by omega) (by assumption)) rfl (by omega)) rfl ?_
          refine Seg.stRow1 (i := 0) (k := ((rgTo p x.1).length - 1) * 2 + 1) rfl rfl rfl ti5 rfl (by rw [rg_cells]; have := rg_pos p x.1 (by omega) (by assumption); omega) ?_
          refine Seg.own (O := .row x.2 97 2 ((rgTo p (x.1 + 1)).length) ((rgTo p (x.1 + 1)).flatMap encB) :: .blk Ba (.cells (bcs p) 40 (0, 0)) :: O) ?_ (by rw [rg_ext_n p x.1 (by simp_all) (by omega) (by assumption), ← rg_ext_xs p x.1 (by simp_all) (by omega) (by assumption)]; rfl)
          refine Seg.nil ?_
          refine At.blk_n ?_
          refine At.blk_n ?_
          refine At.then_n ?_
          refine Wp.region ?_
          refine Seg.op (OpT.add rfl rfl (fits64 (by omega))) rfl ?_
          refine Seg.op (OpT.move rfl) rfl ?_
          refine Seg.nil ?_
          refine At.next (x.1 + 1, x.2) (Hp.le.refl _) ?_ ?_ ?_ ?_
          · exact (by (try dsimp only); omega)
          · exact .cons (rfl) (.cons (rfl) (.cons (rfl) (.cons (rfl) (.nil))))
          · exact (by first | rfl | (rw [← rgTo_skip p x.1 (by simp_all)]; done) | (rw [← rgTo_skip p x.1 (by simp_all)]; rfl))
          · exact (by (try dsimp only); omega)
        ·
          refine Wp.region ?_
          refine Seg.op (OpT.move rfl) rfl ?_
          refine Seg.op (OpT.move rfl) rfl ?_
          refine Seg.op (OpT.conv Tryd.underlying3 Tryd.underlying5 rfl (fitsU8 (by omega))) rfl ?_
          refine Seg.op (OpT.move rfl) rfl ?_
          refine Seg.op (OpT.conv Tryd.underlying3 Tryd.underlying5 rfl (fitsU8 (by omega))) rfl ?_
          refine Seg.op (OpT.buildA (vs := [(0, (.int .u8 (((x.1 : Nat) : Int)))), (1, (.int .u8 (((x.1 : Nat) : Int))))]) (cs := #[(.int .u8 (((x.1 : Nat) : Int))), (.int .u8 (((x.1 : Nat) : Int)))]) Tryd.underlying97 ti97 ti5 rfl rfl rfl) rfl ?_
          refine Seg.buildSl1 (cs := (#[(.int .u8 (((x.1 : Nat) : Int))), (.int .u8 (((x.1 : Nat) : Int)))])) Tryd.underlying95 ti97 rfl rfl rfl rfl rfl rfl fun v8 => ?_
          refine Seg.append (z := (.agg #[.int .u8 0, .int .u8 0])) (i := 1) Tryd.underlying95 ti97 rfl (by decide) rfl rfl rfl (fun w hs => hs.srcRow (i := 0) rfl) (one_ofL rfl) (by omega) (by omega) rfl fun v9 => ?_
          refine Seg.drop (i := 0) ?_
          refine Seg.own (O := .row v9 97 2 ((rgTo p (x.1 + 1)).length) ((rgTo p (x.1 + 1)).flatMap encB) :: .blk Ba (.cells (bcs p) 40 (0, 0)) :: O) ?_ (by rw [rgTo_new p x.1 (by simp_all) (by first | omega | simp_all)]; simp [encB])
          refine Seg.op (OpT.assign rfl) rfl ?_
          refine Seg.nil ?_
          refine At.blk_n ?_
          refine At.blk_n ?_
          refine At.then_n ?_
          refine Wp.region ?_
          refine Seg.op (OpT.add rfl rfl (fits64 (by omega))) rfl ?_
          refine Seg.op (OpT.move rfl) rfl ?_
          refine Seg.nil ?_
          refine At.next (x.1 + 1, v9) (Hp.le.refl _) ?_ ?_ ?_ ?_
          · exact (by (try dsimp only); omega)
          · exact .cons (rfl) (.cons (rfl) (.cons (rfl) (.cons (rfl) (.nil))))
          · exact (by first | rfl | (rw [← rgTo_skip p x.1 (by simp_all)]; done) | (rw [← rgTo_skip p x.1 (by simp_all)]; rfl))
          · exact (by (try dsimp only); omega)
      ·
        replace hb6 := of_decide_eq_false hb6
        refine Seg.skipG rfl rfl rfl rfl ?_
        refine Seg.skipG rfl rfl rfl rfl ?_
        refine Seg.skipG rfl rfl rfl rfl ?_
        refine Seg.skipG rfl rfl rfl rfl ?_
        refine Seg.skipG rfl rfl rfl rfl ?_
        refine Seg.op (OpT.pickF rfl rfl) rfl ?_
        refine Seg.op (OpT.assign rfl) rfl ?_
        refine Seg.nil ?_
        refine At.then_n ?_
        refine Wp.condF rfl ?_
        refine Wp.region ?_
        refine Seg.op (OpT.move rfl) rfl ?_
        refine Seg.op (OpT.move rfl) rfl ?_
        refine Seg.op (OpT.conv Tryd.underlying3 Tryd.underlying5 rfl (fitsU8 (by omega))) rfl ?_
        refine Seg.op (OpT.move rfl) rfl ?_
        refine Seg.op (OpT.conv Tryd.underlying3 Tryd.underlying5 rfl (fitsU8 (by omega))) rfl ?_
        refine Seg.op (OpT.buildA (vs := [(0, (.int .u8 (((x.1 : Nat) : Int)))), (1, (.int .u8 (((x.1 : Nat) : Int))))]) (cs := #[(.int .u8 (((x.1 : Nat) : Int))), (.int .u8 (((x.1 : Nat) : Int)))]) Tryd.underlying97 ti97 ti5 rfl rfl rfl) rfl ?_
        refine Seg.buildSl1 (cs := (#[(.int .u8 (((x.1 : Nat) : Int))), (.int .u8 (((x.1 : Nat) : Int)))])) Tryd.underlying95 ti97 rfl rfl rfl rfl rfl rfl fun v10 => ?_
        refine Seg.append (z := (.agg #[.int .u8 0, .int .u8 0])) (i := 1) Tryd.underlying95 ti97 rfl (by decide) rfl rfl rfl (fun w hs => hs.srcRow (i := 0) rfl) (one_ofL rfl) (by omega) (by omega) rfl fun v11 => ?_
        refine Seg.drop (i := 0) ?_
        refine Seg.own (O := .row v11 97 2 ((rgTo p (x.1 + 1)).length) ((rgTo p (x.1 + 1)).flatMap encB) :: .blk Ba (.cells (bcs p) 40 (0, 0)) :: O) ?_ (by rw [rgTo_new p x.1 (by simp_all) (by first | omega | simp_all)]; simp [encB])
        refine Seg.op (OpT.assign rfl) rfl ?_
        refine Seg.nil ?_
        refine At.blk_n ?_
        refine At.blk_n ?_
        refine At.then_n ?_
        refine Wp.region ?_
        refine Seg.op (OpT.add rfl rfl (fits64 (by omega))) rfl ?_
        refine Seg.op (OpT.move rfl) rfl ?_
        refine Seg.nil ?_
        refine At.next (x.1 + 1, v11) (Hp.le.refl _) ?_ ?_ ?_ ?_
        · exact (by (try dsimp only); omega)
        · exact .cons (rfl) (.cons (rfl) (.cons (rfl) (.cons (rfl) (.nil))))
        · exact (by first | rfl | (rw [← rgTo_skip p x.1 (by simp_all)]; done) | (rw [← rgTo_skip p x.1 (by simp_all)]; rfl))
        · exact (by (try dsimp only); omega)
  ·
    replace hb4 := of_decide_eq_false hb4
    refine Wp.exit ?_
    refine At.then_x ?_
    refine At.then_x ?_
    refine At.blk_hit ?_
    refine At.then_n ?_
    refine Wp.seq ?_
    refine Wp.region ?_
    refine Seg.op (OpT.move rfl) rfl ?_
    refine Seg.op (OpT.assign rfl) rfl ?_
    refine Seg.nil ?_
    refine At.then_n ?_
    refine Wp.ret ?_
    refine At.freeze (i := 0) rfl fun H12 hle13 hsl14 => ?_
    refine At.drop (i := 0) ?_
    refine At.res1 rfl (RV.tmp (v := x.2) rfl) ?_
    exact Ret.mk (hle2.trans hle13) (⟨rfl, by have e : x.1 = 256 := (by omega); rw [e] at hsl14; exact hsl14⟩)

set_option maxHeartbeats 4000000 in
theorem part_w (l : List St) (v : Value) (hl : Sl H v 4 l.length (l.flatMap bcl)) (hn : l.length ≤ 4294967296) :
    Tri Tryd.prog 35 [v] H O (fun v H' O' => O' = O ∧ Sl H' v 4 (partsOf l).length ((partsOf l).flatMap bcl)) := by
  intro w hs
  refine wp_of Tryd.func35 rfl rfl rfl ?_ hs
  clear hs w
  refine Wp.seq ?_
  refine Wp.region ?_
  refine Seg.op (OpT.assign rfl) rfl ?_
  refine Seg.nil ?_
  refine At.then_n ?_
  refine Wp.seq ?_
  refine Wp.region ?_
  refine Seg.op (OpT.call ent49 rfl (of_w 0 255 (by decide) (by decide))) rfl ?_
  refine Seg.buildSl1 (cs := (bcs (ofP 0 255))) Tryd.underlying81 ti40 rfl rfl rfl rfl rfl rfl fun v1 => ?_
  refine Seg.op (OpT.assign rfl) rfl ?_
  refine Seg.nil ?_
  refine At.then_n ?_
  refine Wp.seq ?_
  refine Wp.seq ?_
  refine Wp.region ?_
  refine Seg.op (OpT.move rfl) rfl ?_
  refine Seg.op (OpT.lenImm Tryd.underlying81 rfl hl) rfl ?_
  refine Seg.op (OpT.move rfl) rfl ?_
  refine Seg.nil ?_
  refine At.then_n ?_
  refine Wp.block ?_
  refine Wp.loop (X := Nat × Value) (fun x => [(20, (.int .i64 (((x.1 : Nat) : Int)))), (3, x.2), (2, (.slice none 0 0)), (18, v), (19, (.int .i64 (((l.length : Nat) : Int))))]) (fun x => .row x.2 40 4 ((psTo l x.1).length) ((psTo l x.1).flatMap bcl) :: O) (fun x H' => x.1 ≤ l.length) (fun x => l.length - x.1) (0, v1) ?_ ?_ ?_ ?_
  · exact (by (try dsimp only); omega)
  · exact .cons (rfl) (.cons (rfl) (.cons (rfl) (.cons (rfl) (.cons (rfl) (.nil)))))
  · exact (by rw [psTo_zero]; simp [bcl])
  intro x H2 hle3 hi4
  have hp := psTo_len l x.1
  refine Wp.seq ?_
  refine Wp.region ?_
  refine Seg.op (OpT.lss rfl rfl) rfl ?_
  refine Seg.nil ?_
  refine At.then_n ?_
  refine Wp.seq ?_
  refine Wp.cond (b := decide (((x.1 : Nat) : Int) < ((l.length : Nat) : Int))) rfl (fun hb5 => ?_) (fun hb5 => ?_)
  ·
    replace hb5 := of_decide_eq_true hb5
    refine Wp.skip ?_
    refine At.then_n ?_
    refine Wp.seq ?_
    refine Wp.block ?_
    refine Wp.seq ?_
    refine Wp.region ?_
    refine Seg.op (OpT.ixImm Tryd.underlying81 ti40 rfl (hl.mono hle3) rfl (by omega)) rfl ?_
    refine Seg.op (OpT.ldImmA  (vs := (bcl (nth l x.1))) Tryd.underlying40 rfl ti40 (bcl_ne _) rfl (hl.mono hle3) (bcl_at l x.1 (by omega))) rfl ?_
    refine Seg.alloc (cs := bcs (fun _ => false)) ti40 bcs_empty rfl fun Bs => ?_
    refine Seg.stBlkW (i := 0) (cs' := (bcs (nth l x.1))) rfl rfl ti40 rfl rfl (bcs_one _) rfl ?_
    refine Seg.nil ?_
    refine At.then_n ?_
    refine Wp.seq ?_
    refine Wp.region ?_
    refine Seg.op (OpT.assign rfl) rfl ?_
    refine Seg.nil ?_
    refine At.then_n ?_
    refine Wp.seq ?_
    refine Wp.seq ?_
    refine Wp.nilRow 40 4 ?_
    refine Wp.region ?_
    refine Seg.op (OpT.move rfl) rfl ?_
    refine Seg.op (OpT.lenRow (i := 2) Tryd.underlying81 rfl rfl) rfl ?_
    refine Seg.op (OpT.move rfl) rfl ?_
    refine Seg.nil ?_
    refine At.then_n ?_
    refine Wp.block ?_
    refine Wp.loop (X := Nat × Value) (fun y => [(26, (.int .i64 (((y.1 : Nat) : Int)))), (6, y.2), (20, (.int .i64 (((x.1 : Nat) : Int)))), (3, x.2), (2, (.slice none 0 0)), (18, v), (19, (.int .i64 (((l.length : Nat) : Int)))), (21, (.bool (decide (((x.1 : Nat) : Int) < ((l.length : Nat) : Int))))), (22, (elemPtr v (x.1 * 4))), (23, (.agg (bcs (nth l x.1)))), (5, (ptr Bs (0))), (24, x.2), (25, (.int .i64 ((((psTo l x.1).length : Nat) : Int))))]) (fun y => .row y.2 40 4 ((nx l x.1 y.1 0).length) ((nx l x.1 y.1 0).flatMap bcl) :: .blk Bs (.cells (bcs (nth l x.1)) 40 (0, 0)) :: .row x.2 40 4 ((psTo l x.1).length) ((psTo l x.1).flatMap bcl) :: O) (fun y H' => y.1 ≤ (psTo l x.1).length) (fun y => (psTo l x.1).length - y.1) (0, .slice none 0 0) ?_ ?_ ?_ ?_
    · exact (by (try dsimp only); omega)
    · exact .cons (rfl) (.cons (rfl) (.cons (rfl) (.cons (rfl) (.cons (rfl) (.cons (rfl) (.cons (rfl) (.cons (rfl) (.cons (rfl) (.cons (rfl) (.cons (rfl) (.cons (rfl) (.cons (rfl) (.nil)))))))))))))
    · exact (by first | rfl | (rw [nx_zero]; done) | (rw [nx_zero]; rfl))
    intro y H6 hle7 hi8
    refine Wp.seq ?_
    refine Wp.region ?_
    refine Seg.op (OpT.lss rfl rfl) rfl ?_
    refine Seg.nil ?_
    refine At.then_n ?_
    refine Wp.seq ?_
    refine Wp.cond (b := decide (((y.1 : Nat) : Int) < (((psTo l x.1).length : Nat) : Int))) rfl (fun hb9 => ?_) (fun hb9 => ?_)
    ·
      replace hb9 := of_decide_eq_true hb9
      refine Wp.skip ?_
      refine At.then_n ?_
      refine Wp.seq ?_
      refine Wp.block ?_
      refine Wp.seq ?_
      refine Wp.region ?_
      refine Seg.op (OpT.ixRow (j := 2) Tryd.underlying81 ti40 rfl rfl rfl (by omega)) rfl ?_
      refine Seg.op (OpT.ldRowA (i := 2) (vs := (bcl (nth (psTo l x.1) y.1))) Tryd.underlying40 rfl ti40 (bcl_ne _) rfl rfl (bcl_at (psTo l x.1) y.1 (by omega))) rfl ?_
      refine Seg.alloc (cs := bcs (fun _ => false)) ti40 bcs_empty rfl fun Bp => ?_
      refine Seg.stBlkW (i := 0) (cs' := (bcs (nth (psTo l x.1) y.1))) rfl rfl ti40 rfl rfl (bcs_one _) rfl ?_
      refine Seg.nil ?_
      refine At.then_n ?_
      refine Wp.seq ?_
      refine Wp.drawE 9 follows rfl (by kernel_rfl) ?_
      refine SegL.opE (OpT.ldBlkW (i := 0) Tryd.underlying40 rfl ti40 rfl rfl rfl) rfl ?_
      refine SegL.opE (OpT.ldBlkW (i := 2) Tryd.underlying40 rfl ti40 rfl rfl rfl) rfl ?_
      refine SegL.opE (OpT.cast (v' := (.agg (bcs (cutA (nth (psTo l x.1) y.1) (nth l x.1))))) (OpT.call ent50 rfl (and_w (nth (psTo l x.1) y.1) (nth l x.1))) (cutA_eq _ _)) rfl ?_
      refine SegL.opE (OpT.ldBlkW (i := 0) Tryd.underlying40 rfl ti40 rfl rfl rfl) rfl ?_
      refine SegL.opE (OpT.ldBlkW (i := 2) Tryd.underlying40 rfl ti40 rfl rfl rfl) rfl ?_
      refine SegL.opE (OpT.call ent51 rfl (not_w (nth l x.1))) rfl ?_
      refine SegL.opE (OpT.cast (v' := (.agg (bcs (cutB (nth (psTo l x.1) y.1) (nth l x.1))))) (OpT.call ent50 rfl (and_w (nth (psTo l x.1) y.1) (fun t => !(nth l x.1) t))) (cutB_eq _ _)) rfl ?_
      refine SegL.opE (OpT.buildA (vs := [(0, .agg (bcs (cutA (nth (psTo l x.1) y.1) (nth l x.1)))), (1, .agg (bcs (cutB (nth (psTo l x.1) y.1) (nth l x.1))))]) (cs := bcs2 (cutA (nth (psTo l x.1) y.1) (nth l x.1)) (cutB (nth (psTo l x.1) y.1) (nth l x.1))) Tryd.underlying113 ti113 ti40 rfl rfl (fill2 _ _)) rfl ?_
      refine SegL.opE (OpT.move rfl) rfl ?_
      refine SegL.doneE ?_
      refine EndL.is (t := 26) (v := (.int .i64 (((y.1 : Nat) : Int)))) rfl ?_
      refine EndL.is (t := 6) (v := y.2) rfl ?_
      refine EndL.is (t := 20) (v := (.int .i64 (((x.1 : Nat) : Int)))) rfl ?_
      refine EndL.is (t := 3) (v := x.2) rfl ?_
      refine EndL.is (t := 2) (v := (.slice none 0 0)) rfl ?_
      refine EndL.is (t := 18) (v := v) rfl ?_
      refine EndL.is (t := 19) (v := (.int .i64 (((l.length : Nat) : Int)))) rfl ?_
      refine EndL.is (t := 21) (v := (.bool (decide (((x.1 : Nat) : Int) < ((l.length : Nat) : Int))))) rfl ?_
      refine EndL.is (t := 22) (v := (elemPtr v (x.1 * 4))) rfl ?_
      refine EndL.is (t := 23) (v := (.agg (bcs (nth l x.1)))) rfl ?_
      refine EndL.is (t := 5) (v := (ptr Bs (0))) rfl ?_
      refine EndL.is (t := 24) (v := x.2) rfl ?_
      refine EndL.is (t := 25) (v := (.int .i64 ((((psTo l x.1).length : Nat) : Int)))) rfl ?_
      refine EndL.is (t := 27) (v := (.bool (decide (((y.1 : Nat) : Int) < (((psTo l x.1).length : Nat) : Int))))) rfl ?_
      refine EndL.is (t := 28) (v := (elemPtr x.2 (y.1 * 4))) rfl ?_
      refine EndL.is (t := 29) (v := (.agg (bcs (nth (psTo l x.1) y.1)))) rfl ?_
      refine EndL.is (t := 8) (v := (ptr Bp (0))) rfl ?_
      refine EndL.is (t := 30) (v := (.agg (bcs (nth (psTo l x.1) y.1)))) rfl ?_
      refine EndL.is (t := 31) (v := (.agg (bcs (nth l x.1)))) rfl ?_
      refine EndL.is (t := 32) (v := (.agg (bcs (cutA (nth (psTo l x.1) y.1) (nth l x.1))))) rfl ?_
      refine EndL.is (t := 33) (v := (.agg (bcs (nth (psTo l x.1) y.1)))) rfl ?_
      refine EndL.is (t := 34) (v := (.agg (bcs (nth l x.1)))) rfl ?_
      refine EndL.is (t := 35) (v := (.agg (bcs (fun t => !(nth l x.1) t)))) rfl ?_
      refine EndL.is (t := 36) (v := (.agg (bcs (cutB (nth (psTo l x.1) y.1) (nth l x.1))))) rfl ?_
      refine EndL.is (t := 37) (v := (.agg (bcs2 (cutA (nth (psTo l x.1) y.1) (nth l x.1)) (cutB (nth (psTo l x.1) y.1) (nth l x.1))))) rfl ?_
      refine EndL.is (t := 38) (v := (.int .i64 (0))) rfl ?_
      refine EndL.seg ?_
      refine Seg.nil ?_
      refine At.then_n ?_
      refine Wp.block ?_
      refine Wp.loop (X := Nat × Value) (fun z => [(38, (.int .i64 (((z.1 : Nat) : Int)))), (6, z.2), (26, (.int .i64 (((y.1 : Nat) : Int)))), (20, (.int .i64 (((x.1 : Nat) : Int)))), (3, x.2), (2, (.slice none 0 0)), (18, v), (19, (.int .i64 (((l.length : Nat) : Int)))), (21, (.bool (decide (((x.1 : Nat) : Int) < ((l.length : Nat) : Int))))), (22, (elemPtr v (x.1 * 4))), (23, (.agg (bcs (nth l x.1)))), (5, (ptr Bs (0))), (24, x.2), (25, (.int .i64 ((((psTo l x.1).length : Nat) : Int)))), (27, (.bool (decide (((y.1 : Nat) : Int) < (((psTo l x.1).length : Nat) : Int))))), (28, (elemPtr x.2 (y.1 * 4))), (29, (.agg (bcs (nth (psTo l x.1) y.1)))), (8, (ptr Bp (0))), (30, (.agg (bcs (nth (psTo l x.1) y.1)))), (31, (.agg (bcs (nth l x.1)))), (32, (.agg (bcs (cutA (nth (psTo l x.1) y.1) (nth l x.1))))), (33, (.agg (bcs (nth (psTo l x.1) y.1)))), (34, (.agg (bcs (nth l x.1)))), (35, (.agg (bcs (fun t => !(nth l x.1) t)))), (36, (.agg (bcs (cutB (nth (psTo l x.1) y.1) (nth l x.1))))), (37, (.agg (bcs2 (cutA (nth (psTo l x.1) y.1) (nth l x.1)) (cutB (nth (psTo l x.1) y.1) (nth l x.1)))))]) (fun z => .blk Bp (.cells (bcs (nth (psTo l x.1) y.1)) 40 (0, 0)) :: .row z.2 40 4 ((nx l x.1 y.1 z.1).length) ((nx l x.1 y.1 z.1).flatMap bcl) :: .blk Bs (.cells (bcs (nth l x.1)) 40 (0, 0)) :: .row x.2 40 4 ((psTo l x.1).length) ((psTo l x.1).flatMap bcl) :: O) (fun z H' => z.1 ≤ 2) (fun z => 2 - z.1) (0, y.2) ?_ ?_ ?_ ?_
      · exact (by (try dsimp only); omega)
      · exact .cons (rfl) (.cons (rfl) (.cons (rfl) (.cons (rfl) (.cons (rfl) (.cons (rfl) (.cons (rfl) (.cons (rfl) (.cons (rfl) (.cons (rfl) (.cons (rfl) (.cons (rfl) (.cons (rfl) (.cons (rfl) (.cons (rfl) (.cons (rfl) (.cons (rfl) (.cons (rfl) (.cons (rfl) (.cons (rfl) (.cons (rfl) (.cons (rfl) (.cons (rfl) (.cons (rfl) (.cons (rfl) (.cons (rfl) (.nil))))))))))))))))))))))))))
      · exact (rfl)
      intro z H10 hle11 hi12
      have hx := nx_len l x.1 y.1 z.1 (by omega)
      refine Wp.seq ?_
      refine Wp.region ?_
      refine Seg.op (OpT.lss rfl rfl) rfl ?_
      refine Seg.nil ?_
      refine At.then_n ?_
      refine Wp.seq ?_
      refine Wp.cond (b := decide (((z.1 : Nat) : Int) < 2)) rfl (fun hb13 => ?_) (fun hb13 => ?_)
      ·
        replace hb13 := of_decide_eq_true hb13
        refine Wp.skip ?_
        refine At.then_n ?_
        refine Wp.seq ?_
        refine Wp.block ?_
        refine Wp.seq ?_
        refine Wp.region ?_
        refine Seg.op (OpT.cast (v' := .agg (bcs (sel (cutA (nth (psTo l x.1) y.1) (nth l x.1)) (cutB (nth (psTo l x.1) y.1) (nth l x.1)) z.1))) (OpT.indexA Tryd.underlying113 Tryd.underlying40 rfl ti40 rfl rfl (by omega)) (bcs2_at _ _ z.1 (by omega))) rfl ?_
        refine Seg.alloc (cs := bcs (fun _ => false)) ti40 bcs_empty rfl fun Bx => ?_
        refine Seg.stBlkW (i := 0) (cs' := (bcs (sel (cutA (nth (psTo l x.1) y.1) (nth l x.1)) (cutB (nth (psTo l x.1) y.1) (nth l x.1)) z.1))) rfl rfl ti40 rfl rfl (bcs_one _) rfl ?_
        refine Seg.nil ?_
        refine At.then_n ?_
        refine Wp.seq ?_
        refine Wp.region ?_
        refine Seg.op (OpT.ldBlkW (i := 0) Tryd.underlying40 rfl ti40 rfl rfl rfl) rfl ?_
        refine Seg.op (OpT.cast (OpT.buildA (ps := []) Tryd.underlying40 ti40 ti38 rfl rfl rfl) (congrArg Value.agg bcs_empty)) rfl ?_
        refine Seg.op (OpT.asB (b := !eqS (sel (cutA (nth (psTo l x.1) y.1) (nth l x.1)) (cutB (nth (psTo l x.1) y.1) (nth l x.1)) z.1) (fun _ => false)) (c := ne (sel (cutA (nth (psTo l x.1) y.1) (nth l x.1)) (cutB (nth (psTo l x.1) y.1) (nth l x.1)) z.1)) (OpT.neBs (p := (sel (cutA (nth (psTo l x.1) y.1) (nth l x.1)) (cutB (nth (psTo l x.1) y.1) (nth l x.1)) z.1)) (q := (fun _ => false)) eqg40 Tryd.underlying40 Tryd.underlying38 ti38 rfl rfl) (ne_eq _)) rfl ?_
        refine Seg.nil ?_
        refine At.then_n ?_
        refine Wp.cond (b := ne (sel (cutA (nth (psTo l x.1) y.1) (nth l x.1)) (cutB (nth (psTo l x.1) y.1) (nth l x.1)) z.1)) rfl (fun hb14 => ?_) (fun hb14 => ?_)
        ·
          refine Wp.region ?_
          refine Seg.op (OpT.move rfl) rfl ?_
          refine Seg.op (OpT.ldBlkW (i := 0) Tryd.underlying40 rfl ti40 rfl rfl rfl) rfl ?_
          refine Seg.buildSl1 (cs := (bcs (sel (cutA (nth (psTo l x.1) y.1) (nth l x.1)) (cutB (nth (psTo l x.1) y.1) (nth l x.1)) z.1))) Tryd.underlying81 ti40 rfl rfl rfl rfl rfl rfl fun v15 => ?_
          refine Seg.append (z := (.agg #[.int .u64 0, .int .u64 0, .int .u64 0, .int .u64 0])) (i := 3) Tryd.underlying81 ti40 rfl (by decide) rfl rfl rfl (fun w hs => hs.srcRow (i := 0) rfl) (by simpa using bcs_one _) (by omega) (by omega) rfl fun v16 => ?_
          refine Seg.drop (i := 0) ?_
          refine Seg.op (OpT.assign rfl) rfl ?_
          refine Seg.nil ?_
          refine At.blk_n ?_
          refine At.then_n ?_
          refine Wp.region ?_
          refine Seg.op (OpT.add rfl rfl (fits64 (by omega))) rfl ?_
          refine Seg.op (OpT.move rfl) rfl ?_
          refine Seg.nil ?_
          refine At.drop (i := 0) ?_
          refine At.next (z.1 + 1, v16) (Hp.le.refl _) ?_ ?_ ?_ ?_
          · exact (by (try dsimp only); omega)
          · exact .cons (rfl) (.cons (rfl) (.cons (rfl) (.cons (rfl) (.cons (rfl) (.cons (rfl) (.cons (rfl) (.cons (rfl) (.cons (rfl) (.cons (rfl) (.cons (rfl) (.cons (rfl) (.cons (rfl) (.cons (rfl) (.cons (rfl) (.cons (rfl) (.cons (rfl) (.cons (rfl) (.cons (rfl) (.cons (rfl) (.cons (rfl) (.cons (rfl) (.cons (rfl) (.cons (rfl) (.cons (rfl) (.cons (rfl) (.nil))))))))))))))))))))))))))
          · exact (by first | (rw [nx_hit l x.1 y.1 z.1 (by omega) (by assumption)]; simp [bcl]; done) | (rw [nx_skip l x.1 y.1 z.1 (by omega) (by assumption)]; rfl))
          · exact (by (try dsimp only); omega)
        ·
          refine Wp.skip ?_
          refine At.blk_n ?_
          refine At.then_n ?_
          refine Wp.region ?_
          refine Seg.op (OpT.add rfl rfl (fits64 (by omega))) rfl ?_
          refine Seg.op (OpT.move rfl) rfl ?_
          refine Seg.nil ?_
          refine At.drop (i := 0) ?_
          refine At.next (z.1 + 1, z.2) (Hp.le.refl _) ?_ ?_ ?_ ?_
          · exact (by (try dsimp only); omega)
          · exact .cons (rfl) (.cons (rfl) (.cons (rfl) (.cons (rfl) (.cons (rfl) (.cons (rfl) (.cons (rfl) (.cons (rfl) (.cons (rfl) (.cons (rfl) (.cons (rfl) (.cons (rfl) (.cons (rfl) (.cons (rfl) (.cons (rfl) (.cons (rfl) (.cons (rfl) (.cons (rfl) (.cons (rfl) (.cons (rfl) (.cons (rfl) (.cons (rfl) (.cons (rfl) (.cons (rfl) (.cons (rfl) (.cons (rfl) (.nil))))))))))))))))))))))))))
          · exact (by first | (rw [nx_hit l x.1 y.1 z.1 (by omega) (by assumption)]; simp [bcl]; done) | (rw [nx_skip l x.1 y.1 z.1 (by omega) (by assumption)]; rfl))
          · exact (by (try dsimp only); omega)
      ·
        replace hb13 := of_decide_eq_false hb13
        refine Wp.exit ?_
        refine At.then_x ?_
        refine At.then_x ?_
        refine At.blk_hit ?_
        refine At.blk_n ?_
        refine At.then_n ?_
        refine Wp.region ?_
        refine Seg.op (OpT.add rfl rfl (fits64 (by omega))) rfl ?_
        refine Seg.op (OpT.move rfl) rfl ?_
        refine Seg.nil ?_
        refine At.drop (i := 0) ?_
        refine At.next (y.1 + 1, z.2) hle11 ?_ ?_ ?_ ?_
        · exact (by (try dsimp only); omega)
        · exact .cons (rfl) (.cons (rfl) (.cons (rfl) (.cons (rfl) (.cons (rfl) (.cons (rfl) (.cons (rfl) (.cons (rfl) (.cons (rfl) (.cons (rfl) (.cons (rfl) (.cons (rfl) (.cons (rfl) (.nil)))))))))))))
        · exact (by first | rfl | (rw [nx_next l x.1 y.1 (by omega), show z.1 = 2 by omega]; done) | (rw [nx_next l x.1 y.1 (by omega), show z.1 = 2 by omega]; rfl))
        · exact (by (try dsimp only); omega)
    ·
      replace hb9 := of_decide_eq_false hb9
      refine Wp.exit ?_
      refine At.then_x ?_
      refine At.then_x ?_
      refine At.blk_hit ?_
      refine At.then_n ?_
      refine Wp.region ?_
      refine Seg.op (OpT.move rfl) rfl ?_
      refine Seg.op (OpT.assign rfl) rfl ?_
      refine Seg.nil ?_
      refine At.drop (i := 2) ?_
      refine At.blk_n ?_
      refine At.then_n ?_
      refine Wp.region ?_
      refine Seg.op (OpT.add rfl rfl (fits64 (by omega))) rfl ?_
      refine Seg.op (OpT.move rfl) rfl ?_
      refine Seg.nil ?_
      refine At.drop (i := 1) ?_
      refine At.next (x.1 + 1, y.2) hle7 ?_ ?_ ?_ ?_
      · exact (by (try dsimp only); omega)
      · exact .cons (rfl) (.cons (rfl) (.cons (rfl) (.cons (rfl) (.cons (rfl) (.nil)))))
      · exact (by first | rfl | (rw [nx_done l x.1 y.1 (by omega) (by omega)]; done) | (rw [nx_done l x.1 y.1 (by omega) (by omega)]; rfl))
      · exact (by (try dsimp only); omega)
  ·
    replace hb5 := of_decide_eq_false hb5
    refine Wp.exit ?_
    refine At.then_x ?_
    refine At.then_x ?_
    refine At.blk_hit ?_
    refine At.then_n ?_
    refine Wp.seq ?_
    refine Wp.region ?_
    refine Seg.op (OpT.assign rfl) rfl ?_
    refine Seg.nil ?_
    refine At.then_n ?_
    refine Wp.seq ?_
    refine Wp.nilRow 40 4 ?_
    refine Wp.region ?_
    refine Seg.op (OpT.cast (OpT.buildA (ps := []) Tryd.underlying40 ti40 ti38 rfl rfl rfl) (congrArg Value.agg bcs_empty)) rfl ?_
    refine Seg.alloc (cs := bcs (fun _ => false)) ti40 bcs_empty rfl fun Bn => ?_
    refine Seg.stBlkW (i := 0) (cs' := (bcs (fun _ => false))) rfl rfl ti40 rfl rfl (bcs_one _) rfl ?_
    refine Seg.nil ?_
    refine At.then_n ?_
    refine Wp.seq ?_
    refine Wp.seq ?_
    refine Wp.region ?_
    refine Seg.op (OpT.move rfl) rfl ?_
    refine Seg.nil ?_
    refine At.then_n ?_
    refine Wp.block ?_
    refine Wp.loop (X := Nat × Value) (fun b => [(53, (.int .i64 (((b.1 : Nat) : Int)))), (11, b.2), (3, x.2), (2, (.slice none 0 0)), (12, (ptr Bn (0)))]) (fun b => .blk Bn (.cells (bcs (outSt (psTo l x.1) b.1).2) 40 (0, 0)) :: .row b.2 40 4 (((outSt (psTo l x.1) b.1).1).length) (((outSt (psTo l x.1) b.1).1).flatMap bcl) :: .row x.2 40 4 ((psTo l x.1).length) ((psTo l x.1).flatMap bcl) :: O) (fun b H' => b.1 ≤ 256) (fun b => 256 - b.1) (0, .slice none 0 0) ?_ ?_ ?_ ?_
    · exact (by (try dsimp only); omega)
    · exact .cons (rfl) (.cons (rfl) (.cons (rfl) (.cons (rfl) (.cons (rfl) (.nil)))))
    · exact (by first | rfl | (rw [outSt_zero]; done) | (rw [outSt_zero]; rfl))
    intro b H17 hle18 hi19
    refine Wp.seq ?_
    refine Wp.region ?_
    refine Seg.op (OpT.lss rfl rfl) rfl ?_
    refine Seg.nil ?_
    refine At.then_n ?_
    refine Wp.seq ?_
    refine Wp.cond (b := decide (((b.1 : Nat) : Int) < 256)) rfl (fun hb20 => ?_) (fun hb20 => ?_)
    ·
      replace hb20 := of_decide_eq_true hb20
      refine Wp.skip ?_
      refine At.then_n ?_
      refine Wp.seq ?_
      refine Wp.block ?_
      refine Wp.seq ?_
      refine Wp.region ?_
      refine Seg.op (OpT.move rfl) rfl ?_
      refine Seg.op (OpT.assign rfl) rfl ?_
      refine Seg.nil ?_
      refine At.then_n ?_
      refine Wp.seq ?_
      refine Wp.seq ?_
      refine Wp.region ?_
      refine Seg.op (OpT.ldBlkW (i := 0) Tryd.underlying40 rfl ti40 rfl rfl rfl) rfl ?_
      refine Seg.op (OpT.move rfl) rfl ?_
      refine Seg.op (OpT.conv Tryd.underlying3 Tryd.underlying5 rfl (fitsU8 (by omega))) rfl ?_
      refine Seg.op (OpT.call ent39 rfl (has_w ((outSt (psTo l x.1) b.1).2) b.1 (by omega))) rfl ?_
      refine Seg.nil ?_
      refine At.then_n ?_
      refine Wp.cond (b := ((outSt (psTo l x.1) b.1).2) b.1) rfl (fun hb21 => ?_) (fun hb21 => ?_)
      ·
        refine Wp.exit ?_
        refine At.then_x ?_
        refine At.blk_hit ?_
        refine At.then_n ?_
        refine Wp.region ?_
        refine Seg.op (OpT.add rfl rfl (fits64 (by omega))) rfl ?_
        refine Seg.op (OpT.move rfl) rfl ?_
        refine Seg.nil ?_
        refine At.next (b.1 + 1, b.2) (Hp.le.refl _) ?_ ?_ ?_ ?_
        · exact (by (try dsimp only); omega)
        · exact .cons (rfl) (.cons (rfl) (.cons (rfl) (.cons (rfl) (.cons (rfl) (.nil)))))
        · exact (by first | (rw [outSt_skip _ b.1 (by assumption)]; done) | (rw [outSt_skip _ b.1 (by assumption)]; rfl) | (rw [outSt_new _ b.1 m.1 (by assumption) (by omega)]; done) | (rw [outSt_new _ b.1 m.1 (by assumption) (by omega)]; rfl))
        · exact (by (try dsimp only); omega)
      ·
        refine Wp.skip ?_
        refine At.then_n ?_
        refine Wp.seq ?_
        refine Wp.region ?_
        refine Seg.op (OpT.move rfl) rfl ?_
        refine Seg.op (OpT.lenRow (i := 2) Tryd.underlying81 rfl rfl) rfl ?_
        refine Seg.op (OpT.move rfl) rfl ?_
        refine Seg.nil ?_
        refine At.then_n ?_
        refine Wp.block ?_
        refine Wp.loop (X := Nat × Value) (fun m => [(62, (.int .i64 (((m.1 : Nat) : Int)))), (11, m.2), (53, (.int .i64 (((b.1 : Nat) : Int)))), (3, x.2), (2, (.slice none 0 0)), (12, (ptr Bn (0))), (54, (.bool (decide (((b.1 : Nat) : Int) < 256)))), (55, (.int .i64 (((b.1 : Nat) : Int)))), (13, (.int .i64 (((b.1 : Nat) : Int)))), (56, (.agg (bcs (outSt (psTo l x.1) b.1).2))), (57, (.int .i64 (((b.1 : Nat) : Int)))), (58, (.int .u8 (((b.1 : Nat) : Int)))), (59, (.bool (((outSt (psTo l x.1) b.1).2) b.1))), (60, x.2), (61, (.int .i64 ((((psTo l x.1).length : Nat) : Int))))]) (fun m => .blk Bn (.cells (bcs (outIn (psTo l x.1) b.1 m.1).2) 40 (0, 0)) :: .row m.2 40 4 (((outIn (psTo l x.1) b.1 m.1).1).length) (((outIn (psTo l x.1) b.1 m.1).1).flatMap bcl) :: .row x.2 40 4 ((psTo l x.1).length) ((psTo l x.1).flatMap bcl) :: O) (fun m H' => m.1 ≤ (psTo l x.1).length) (fun m => (psTo l x.1).length - m.1) (0, b.2) ?_ ?_ ?_ ?_
        · exact (by (try dsimp only); omega)
        · exact .cons (rfl) (.cons (rfl) (.cons (rfl) (.cons (rfl) (.cons (rfl) (.cons (rfl) (.cons (rfl) (.cons (rfl) (.cons (rfl) (.cons (rfl) (.cons (rfl) (.cons (rfl) (.cons (rfl) (.cons (rfl) (.cons (rfl) (.nil)))))))))))))))
        · exact (by first | rfl | (rw [outIn_zero]; done) | (rw [outIn_zero]; rfl))
        intro m H22 hle23 hi24
        have ho := outIn_len (psTo l x.1) (by omega) b.1 m.1
        refine Wp.seq ?_
        refine Wp.region ?_
        refine Seg.op (OpT.lss rfl rfl) rfl ?_
        refine Seg.nil ?_
        refine At.then_n ?_
        refine Wp.seq ?_
        refine Wp.cond (b := decide (((m.1 : Nat) : Int) < (((psTo l x.1).length : Nat) : Int))) rfl (fun hb25 => ?_) (fun hb25 => ?_)
        ·
          replace hb25 := of_decide_eq_true hb25
          refine Wp.skip ?_
          refine At.then_n ?_
          refine Wp.seq ?_
          refine Wp.block ?_
          refine Wp.seq ?_
          refine Wp.region ?_
          refine Seg.op (OpT.ixRow (j := 2) Tryd.underlying81 ti40 rfl rfl rfl (by omega)) rfl ?_
          refine Seg.op (OpT.ldRowA (i := 2) (vs := (bcl (nth (psTo l x.1) m.1))) Tryd.underlying40 rfl ti40 (bcl_ne _) rfl rfl (bcl_at (psTo l x.1) m.1 (by omega))) rfl ?_
          refine Seg.alloc (cs := bcs (fun _ => false)) ti40 bcs_empty rfl fun Bq => ?_
          refine Seg.stBlkW (i := 0) (cs' := (bcs (nth (psTo l x.1) m.1))) rfl rfl ti40 rfl rfl (bcs_one _) rfl ?_
          refine Seg.nil ?_
          refine At.then_n ?_
          refine Wp.seq ?_
          refine Wp.region ?_
          refine Seg.op (OpT.ldBlkW (i := 0) Tryd.underlying40 rfl ti40 rfl rfl rfl) rfl ?_
          refine Seg.op (OpT.move rfl) rfl ?_
          refine Seg.op (OpT.conv Tryd.underlying3 Tryd.underlying5 rfl (fitsU8 (by omega))) rfl ?_
          refine Seg.op (OpT.call ent39 rfl (has_w (nth (psTo l x.1) m.1) b.1 (by omega))) rfl ?_
          refine Seg.nil ?_
          refine At.then_n ?_
          refine Wp.cond (b := (nth (psTo l x.1) m.1) b.1) rfl (fun hb26 => ?_) (fun hb26 => ?_)
          ·
            refine Wp.seq ?_
            refine Wp.region ?_
            refine Seg.op (OpT.move rfl) rfl ?_
            refine Seg.op (OpT.ldBlkW (i := 0) Tryd.underlying40 rfl ti40 rfl rfl rfl) rfl ?_
            refine Seg.buildSl1 (cs := (bcs (nth (psTo l x.1) m.1))) Tryd.underlying81 ti40 rfl rfl rfl rfl rfl rfl fun v27 => ?_
            refine Seg.append (z := (.agg #[.int .u64 0, .int .u64 0, .int .u64 0, .int .u64 0])) (i := 3) Tryd.underlying81 ti40 rfl (by decide) rfl rfl rfl (fun w hs => hs.srcRow (i := 0) rfl) (by simpa using bcs_one _) (by omega) (by omega) rfl fun v28 => ?_
            refine Seg.drop (i := 0) ?_
            refine Seg.op (OpT.assign rfl) rfl ?_
            refine Seg.nil ?_
            refine At.then_n ?_
            refine Wp.region ?_
            refine Seg.op (OpT.ldBlkW (i := 1) Tryd.underlying40 rfl ti40 rfl rfl rfl) rfl ?_
            refine Seg.op (OpT.ldBlkW (i := 0) Tryd.underlying40 rfl ti40 rfl rfl rfl) rfl ?_
            refine Seg.op (OpT.call ent52 rfl (or_w (outIn (psTo l x.1) b.1 m.1).2 (nth (psTo l x.1) m.1))) rfl ?_
            refine Seg.stBlkW (i := 1) (cs' := (bcs (fun y => (outIn (psTo l x.1) b.1 m.1).2 y || (nth (psTo l x.1) m.1) y))) rfl rfl ti40 rfl rfl (bcs_one _) rfl ?_
            refine Seg.nil ?_
            refine At.blk_n ?_
            refine At.then_n ?_
            refine Wp.region ?_
            refine Seg.op (OpT.add rfl rfl (fits64 (by omega))) rfl ?_
            refine Seg.op (OpT.move rfl) rfl ?_
            refine Seg.nil ?_
            refine At.drop (i := 0) ?_
            refine At.next (m.1 + 1, v28) (Hp.le.refl _) ?_ ?_ ?_ ?_
            · exact (by (try dsimp only); omega)
            · exact .cons (rfl) (.cons (rfl) (.cons (rfl) (.cons (rfl) (.cons (rfl) (.cons (rfl) (.cons (rfl) (.cons (rfl) (.cons (rfl) (.cons (rfl) (.cons (rfl) (.cons (rfl) (.cons (rfl) (.cons (rfl) (.cons (rfl) (.nil)))))))))))))))
            · exact (by first | (rw [outIn_hit _ b.1 m.1 (by omega) (by assumption)]; simp [bcl]; done) | (rw [outIn_skip _ b.1 m.1 (by omega) (by assumption)]; rfl))
            · exact (by (try dsimp only); omega)
          ·
            refine Wp.skip ?_
            refine At.blk_n ?_
            refine At.then_n ?_
            refine Wp.region ?_
            refine Seg.op (OpT.add rfl rfl (fits64 (by omega))) rfl ?_
            refine Seg.op (OpT.move rfl) rfl ?_
            refine Seg.nil ?_
            refine At.drop (i := 0) ?_
            refine At.next (m.1 + 1, m.2) (Hp.le.refl _) ?_ ?_ ?_ ?_
            · exact (by (try dsimp only); omega)
            · exact .cons (rfl) (.cons (rfl) (.cons (rfl) (.cons (rfl) (.cons (rfl) (.cons (rfl) (.cons (rfl) (.cons (rfl) (.cons (rfl) (.cons (rfl) (.cons (rfl) (.cons (rfl) (.cons (rfl) (.cons (rfl) (.cons (rfl) (.nil)))))))))))))))
            · exact (by first | (rw [outIn_hit _ b.1 m.1 (by omega) (by assumption)]; simp [bcl]; done) | (rw [outIn_skip _ b.1 m.1 (by omega) (by assumption)]; rfl))
            · exact (by (try dsimp only); omega)
        ·
          replace hb25 := of_decide_eq_false hb25
          refine Wp.exit ?_
          refine At.then_x ?_
          refine At.then_x ?_
          refine At.blk_hit ?_
          refine At.blk_n ?_
          refine At.then_n ?_
          refine Wp.region ?_
          refine Seg.op (OpT.add rfl rfl (fits64 (by omega))) rfl ?_
          refine Seg.op (OpT.move rfl) rfl ?_
          refine Seg.nil ?_
          refine At.next (b.1 + 1, m.2) hle23 ?_ ?_ ?_ ?_
          · exact (by (try dsimp only); omega)
          · exact .cons (rfl) (.cons (rfl) (.cons (rfl) (.cons (rfl) (.cons (rfl) (.nil)))))
          · exact (by first | (rw [outSt_skip _ b.1 (by assumption)]; done) | (rw [outSt_skip _ b.1 (by assumption)]; rfl) | (rw [outSt_new _ b.1 m.1 (by assumption) (by omega)]; done) | (rw [outSt_new _ b.1 m.1 (by assumption) (by omega)]; rfl))
          · exact (by (try dsimp only); omega)
    ·
      replace hb20 := of_decide_eq_false hb20
      refine Wp.exit ?_
      refine At.then_x ?_
      refine At.then_x ?_
      refine At.blk_hit ?_
      refine At.then_n ?_
      refine Wp.seq ?_
      refine Wp.region ?_
      refine Seg.op (OpT.move rfl) rfl ?_
      refine Seg.op (OpT.assign rfl) rfl ?_
      refine Seg.nil ?_
      refine At.then_n ?_
      refine Wp.ret ?_
      refine At.freeze (i := 1) rfl fun H29 hle30 hsl31 => ?_
      refine At.drop (i := 0) ?_
      refine At.drop (i := 0) ?_
      refine At.res1 rfl (RV.tmp (v := b.2) rfl) ?_
      exact Ret.mk ((hle3.trans hle18).trans hle30) (⟨rfl, by have e : x.1 = l.length := (by omega); have e2 : b.1 = 256 := (by omega); rw [e, e2] at hsl31; exact hsl31⟩)

theorem has_i {p : BSet} {b : Int} (h0 : 0 ≤ b) (h1 : b ≤ 255) : TriV Tryd.prog 39 [.agg (bcs p), .int .u8 b] H O (.bool (p b.toNat)) := TriV.has_i (fun b hb => has_w p b hb) h0 h1

theorem of_i {lo hi : Int} (h0 : 0 ≤ lo) (h1 : lo ≤ 255) (h2 : 0 ≤ hi) (h3 : hi ≤ 255) : TriV Tryd.prog 49 [.int .u8 lo, .int .u8 hi] H O (.agg (bcs (ofP lo.toNat hi.toNat))) := TriV.of_i (fun lo hi h1 h2 => of_w lo hi h1 h2) h0 h1 h2 h3

theorem or_i {p q : BSet} : TriV Tryd.prog 52 [.agg (bcs p), .agg (bcs q)] H O (.agg (bcs (orS p q))) := or_w p q

theorem and_i {p q : BSet} : TriV Tryd.prog 50 [.agg (bcs p), .agg (bcs q)] H O (.agg (bcs (andS p q))) := and_w p q

theorem not_i {p : BSet} : TriV Tryd.prog 51 [.agg (bcs p)] H O (.agg (bcs (notS p))) := not_w p

theorem least_i {p : BSet} : TriV Tryd.prog 38 [.agg (bcs p)] H O (.tuple #[.int .u8 (lst p : Nat), .bool (anyS p)]) := least_w p

theorem ranges_i {p : BSet} : Tri Tryd.prog 43 [.agg (bcs p)] H O (fun v H' O' => (∃ v1, v1 = v ∧ SlD (cP cU8 cU8) H' (rgD p) v1) ∧ O = O') := Tri.ranges_i (ranges_w p)

theorem part_i {l : List BSet} {v : Value} (hl : SlD cBs H l v) (hn : l.length ≤ 4294967296) : Tri Tryd.prog 35 [v] H O (fun v H' O' => (∃ v1, v1 = v ∧ SlD cBs H' (partsD l) v1) ∧ O = O') := Tri.part_i (fun l v h hn => part_w l v h hn) hl hn
end Go.Proofs.YtjmbmodmepdmjabDoor
namespace Go.Proofs.YtjmbmodmepdmjabDoor
open Go.GK
variable {H : Hp} {O : List Res}

abbrev cAr : Cd (BSet × Int × Int) := cP cBs (cP cI64 cI64)
abbrev netB (B : Nat) (v1 v2 : Value) (m : Int) : Res := .blk B (.cells #[v1, v2, .int .i64 m] 61 (0, 0))
abbrev netA (v1 : Value) (F : Fam Int) : Res := .row v1 66 1 (famV F).length (famV F)
abbrev netC (v2 : Value) (G : Fam (BSet × Int × Int)) : Res := .row v2 78 1 (famV G).length (famV G)
abbrev netF (F : Fam Int) (G : Fam (BSet × Int × Int)) (O : List Res) : List Res := famR 3 1 F ++ (famR 80 6 G ++ O)
abbrev net (B : Nat) (v1 v2 : Value) (m : Int) (F : Fam Int) (G : Fam (BSet × Int × Int)) (O : List Res) : List Res := netB B v1 v2 m :: netA v1 F :: netC v2 G :: netF F G O
section
variable {P : Program} {Q : Exit → Act → World → Prop} {n : Nat} {L : List (Nat × Value)} {ops : Array Oper} {rest : List Oper} {B : Nat} {v1 v2 : Value} {m : Int} {F : Fam Int} {G : Fam (BSet × Int × Int)}
theorem SH.netOut {w : World} {A : List Res} (h : SH w H (A ++ net B v1 v2 m F G O)) : SH w H (net B v1 v2 m F G (A ++ O)) := by
  have h' : SH w H (A ++ (([netB B v1 v2 m, netA v1 F, netC v2 G] ++ (famR 3 1 F ++ famR 80 6 G)) ++ O)) := by simpa [net, netF] using h
  simpa [net, netF] using h'.rot
theorem SH.netIn {w : World} {A : List Res} (h : SH w H (net B v1 v2 m F G (A ++ O))) : SH w H (A ++ net B v1 v2 m F G O) := by
  have h' : SH w H (([netB B v1 v2 m, netA v1 F, netC v2 G] ++ (famR 3 1 F ++ famR 80 6 G)) ++ (A ++ O)) := by simpa [net, netF] using h
  simpa [net, netF] using h'.rot
theorem Seg.netOut (A : List Res) (k : Seg P ops Q rest n L H (net B v1 v2 m F G (A ++ O))) : Seg P ops Q rest n L H (A ++ net B v1 v2 m F G O) := fun a w hf hs => k a w hf (SH.netOut hs)
theorem Seg.netIn (A : List Res) (k : Seg P ops Q rest n L H (A ++ net B v1 v2 m F G O)) : Seg P ops Q rest n L H (net B v1 v2 m F G (A ++ O)) := fun a w hf hs => k a w hf (SH.netIn hs)
end
abbrev nilF {α : Type} : Value × List α × List Value := (.slice none 0 0, [], [])
set_option maxRecDepth 100000 in
theorem state_w {B : Nat} {v1 v2 : Value} {m : Int} {F : Fam Int} {G : Fam (BSet × Int × Int)} {D : List (List Int)} {E : List (List (BSet × Int × Int))} (hF : FamOk cI64 H D F) (hG : FamOk cAr H E G) (h1 : D.length + 1 ≤ capN) (h2 : E.length + 1 ≤ capN) :
    Tri Tryd.prog 26 [ptr B 0] H (net B v1 v2 m F G O) (fun r H' O' => ∃ v1' v2', .int .i64 ((E.length : Nat) : Int) = r ∧ net B v1' v2' m (F ++ [nilF]) (G ++ [nilF]) O = O') := by
 have l1 := famV_len hF
 have l2 := famV_len hG
 intro w hs
 refine wp_of Tryd.func26 rfl rfl rfl ?_ hs
 clear hs w
 refine Wp.seq ?_
 refine Wp.region ?_
 refine Seg.op (OpT.assign rfl) rfl ?_
 refine Seg.nil ?_
 refine At.then_n ?_
 refine Wp.seq ?_
 refine Wp.region ?_
 refine Seg.op (OpT.move rfl) rfl ?_
 refine Seg.op (OpT.move rfl) rfl ?_
 refine Seg.op (OpT.nilCheck rfl) rfl ?_
 refine Seg.op (OpT.fld (o' := 0) fl61_0 rfl rfl) rfl ?_
 refine Seg.op (OpT.ldBlk (i := 0) (v := v1) Tryd.underlying58 rfl rfl rfl rfl) rfl ?_
 refine Seg.buildD1 (c := cV) (y := .slice none 0 0) (cs := [.slice none 0 0]) Tryd.underlying58 ti66 rfl rfl rfl rfl ⟨rfl, rfl⟩ rfl fun v8 xs8 hq8 => ?_
 refine Seg.appD (c := cV) (i := 2) (j := 0) hF.row hq8 Tryd.underlying58 ti66 rfl (by decide) rfl rfl rfl rfl (by decide) (by rw [l1]; exact h1) rfl fun v9 xs9 hq9 => ?_
 refine Seg.op (OpT.nilCheck rfl) rfl ?_
 refine Seg.op (OpT.fld (o' := 0) fl61_0 rfl rfl) rfl ?_
 refine Seg.rowOne (i := 2) rfl fun h3 => ?_
 refine Seg.stBlk1 (i := 1) rfl rfl h3 ti58 rfl (Nat.le_of_ble_eq_true rfl) ?_
 refine Seg.nil ?_
 refine At.then_n ?_
 refine Wp.seq ?_
 refine Wp.region ?_
 refine Seg.op (OpT.move rfl) rfl ?_
 refine Seg.op (OpT.move rfl) rfl ?_
 refine Seg.op (OpT.nilCheck rfl) rfl ?_
 refine Seg.op (OpT.fld (o' := 1) fl61_1 rfl rfl) rfl ?_
 refine Seg.op (OpT.ldBlk (i := 1) (v := v2) Tryd.underlying59 rfl rfl rfl rfl) rfl ?_
 refine Seg.buildD1 (c := cV) (y := .slice none 0 0) (cs := [.slice none 0 0]) Tryd.underlying59 ti78 rfl rfl rfl rfl ⟨rfl, rfl⟩ rfl fun v17 xs17 hq17 => ?_
 refine Seg.appD (c := cV) (i := 4) (j := 0) hG.row hq17 Tryd.underlying59 ti78 rfl (by decide) rfl rfl rfl rfl (by decide) (by rw [l2]; exact h2) rfl fun v18 xs18 hq18 => ?_
 refine Seg.op (OpT.nilCheck rfl) rfl ?_
 refine Seg.op (OpT.fld (o' := 1) fl61_1 rfl rfl) rfl ?_
 refine Seg.rowOne (i := 4) rfl fun h4 => ?_
 refine Seg.stBlk1 (i := 2) rfl rfl h4 ti59 rfl (Nat.le_of_ble_eq_true rfl) ?_
 refine Seg.nil ?_
 refine At.then_n ?_
 refine Wp.seq ?_
 refine Wp.region ?_
 refine Seg.op (OpT.move rfl) rfl ?_
 refine Seg.op (OpT.nilCheck rfl) rfl ?_
 refine Seg.op (OpT.fld (o' := 1) fl61_1 rfl rfl) rfl ?_
 refine Seg.op (OpT.ldBlk (i := 2) (v := v18) Tryd.underlying59 rfl rfl rfl rfl) rfl ?_
 refine Seg.op (OpT.lenRow (i := 4) Tryd.underlying59 rfl rfl) rfl ?_
 refine Seg.op (OpT.sub rfl rfl (fits64 (by simp only [List.length_append, List.length_cons, List.length_nil, l2, capN] at *; omega))) rfl ?_
 refine Seg.op (OpT.assign rfl) rfl ?_
 refine Seg.nil ?_
 refine At.then_n ?_
 refine Wp.ret ?_
 obtain rfl := layV hq9
 obtain rfl := layV hq18
 refine At.res1 rfl (RV.tmp rfl) (fun w hs => ⟨_, _, _, rfl, Hp.le.refl _, ?_, v9, v18, ?_, rfl⟩)
 · have e1 : famV (F ++ [nilF]) = famV F ++ [Value.slice none 0 0] := by simp [famV]
   have e2 : famV (G ++ [nilF]) = famV G ++ [Value.slice none 0 0] := by simp [famV]
   have hs' := hs.permK [2, 3, 4] 5 rfl rfl rfl
   have k1 := SH.grow (A := [netB B v9 v18 m, .row v9 66 1 (famV F ++ [Value.slice none 0 0]).length (famV F ++ [Value.slice none 0 0]), .row v18 78 1 (famV G ++ [Value.slice none 0 0]).length (famV G ++ [Value.slice none 0 0])]) (F := F) (e := 3) (sz := 1) (R := famR 80 6 G ++ O) hs'
   have k2 := SH.grow2 k1
   show SH w H _
   simp only [net, netA, netC, netF, e1, e2]
   exact k2
 · rw [List.length_append, l2]; simp
end Go.Proofs.YtjmbmodmepdmjabDoor
