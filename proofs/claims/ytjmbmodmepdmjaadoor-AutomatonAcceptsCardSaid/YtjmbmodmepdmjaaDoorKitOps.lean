/- The operations, one law each. -/
import Derived.Test.YtjmbmodmepdmjaaDoorKitAny
namespace Go.GK

theorem sem_under {P : Program} {w : World} {t : TypeId} {d : TypeDesc} (h : P.underlying t = some d) : (underlying t).run P w = .ok d w := run_underlying h w

/- What is known of a type: its size in cells and bytes, its zero. -/
structure TI (P : Program) (t : TypeId) (size bytes : Nat) (z : Value) : Prop where
  ex : ∃ i, P.info? t = some i ∧ i.size = size ∧ i.bytes = bytes ∧ i.zero = some z
theorem TI.of {P : Program} {t : TypeId} {size bytes : Nat} {z : Value} (h : (P.info? t).map (fun i => (i.size, i.bytes, i.zero)) = some (size, bytes, some z)) : TI P t size bytes z := by
  cases hi : P.info? t with
  | none => simp [hi] at h
  | some i => simp [hi] at h; exact ⟨i, hi, h.1, h.2.1, h.2.2⟩
theorem TI.sizeOf {P : Program} {w : World} {t : TypeId} {size bytes : Nat} {z : Value} (h : TI P t size bytes z) : (Go.sizeOf t).run P w = .ok size w := by
  obtain ⟨i, hi, h1, _⟩ := h.ex
  simp [Go.sizeOf, typeInfo, hi, h1]
theorem TI.zeroValue {P : Program} {w : World} {t : TypeId} {size bytes : Nat} {z : Value} (h : TI P t size bytes z) : (Go.zeroValue t).run P w = .ok z w := by
  obtain ⟨i, hi, _, _, h1⟩ := h.ex
  simp [Go.zeroValue, typeInfo, hi, h1]

def aggB : TypeDesc → Bool
  | .struct _ => true
  | .array _ _ => true
  | _ => false
theorem run_isAgg {P : Program} {w : World} {t : TypeId} {d : TypeDesc} (h : P.underlying t = some d) : (isAgg t).run P w = .ok (aggB d) w := by
  simp [isAgg, sem_under h]
  cases d <;> simp [aggB]

def ptr (b off : Nat) : Value := .pointer (some ⟨b, off, none⟩)
def elemPtr (v : Value) (k : Nat) : Value := match v with
  | .slice (some a) _ _ => .pointer (some (a.add k))
  | _ => undef

theorem addr_add_add (a : Addr) (m n : Nat) : (a.add m).add n = a.add (m + n) := by
  unfold Addr.add
  by_cases hm : m = 0
  · subst hm; simp
  · by_cases hn : n = 0
    · subst hn; simp
    · simp [hm, hn, Nat.add_assoc]

/- The cells of a slice that stays. -/
def HCell (H : Hp) (p : Value) (u : Value) : Prop := ∃ a cur t fr, p = .pointer (some a) ∧ a.spot = none ∧ H.at_ a.block = some (.cells cur t fr) ∧ cur[a.off]? = some u
def SlLen (v : Value) (n : Nat) : Prop := (v = .slice none 0 0 ∧ n = 0) ∨ ∃ a cap, v = .slice (some a) n cap
structure Sl (H : Hp) (v : Value) (size n : Nat) (xs : List Value) : Prop where
  len : xs.length = n * size
  sl : SlLen v n
  cells : ∀ j u, xs[j]? = some u → HCell H (elemPtr v j) u

theorem HCell.mono {H H' : Hp} (h : H.le H') {p u : Value} (hc : HCell H p u) : HCell H' p u := by
  obtain ⟨a, cur, t, fr, h1, h2, h3, h4⟩ := hc
  exact ⟨a, cur, t, fr, h1, h2, h.1 _ _ h3, h4⟩
theorem Sl.mono {H H' : Hp} (h : H.le H') {v : Value} {size n : Nat} {xs : List Value} (hs : Sl H v size n xs) : Sl H' v size n xs :=
  ⟨hs.len, hs.sl, fun j u hj => (hs.cells j u hj).mono h⟩
theorem Sl.nil (H : Hp) (size : Nat) : Sl H (.slice none 0 0) size 0 [] := ⟨by simp, .inl ⟨rfl, rfl⟩, fun j u h => by simp at h⟩

theorem HCell.cell {H : Hp} {w : World} {O : List Res} (hs : SH w H O) {p u : Value} (hc : HCell H p u) : ∃ a, p = .pointer (some a) ∧ w.cell? a = some u := by
  obtain ⟨a, cur, t, fr, h1, h2, h3, h4⟩ := hc
  exact ⟨a, h1, by simp [World.cell?, hs.imm _ _ h3, h2, h4]⟩

/- The cells of what is owned. -/
theorem SH.blkCell {H : Hp} {w : World} {O : List Res} (hs : SH w H O) {i B : Nat} {cs : Array Value} {t : TypeId} {fr : Nat × Nat} (hi : O[i]? = some (.blk B (.cells cs t fr))) {off : Nat} {u : Value} (hu : cs[off]? = some u) :
    w.cell? ⟨B, off, none⟩ = some u := by
  have := hs.ok i _ hi
  simp only [Res.ok] at this
  simp [World.cell?, this, hu]
theorem SH.rowCell {H : Hp} {w : World} {O : List Res} (hs : SH w H O) {i : Nat} {v : Value} {e : TypeId} {size n : Nat} {xs : List Value} (hi : O[i]? = some (.row v e size n xs)) {j : Nat} {u : Value} (hu : xs[j]? = some u) :
    ∃ a, elemPtr v j = .pointer (some a) ∧ a.spot = none ∧ v.ownBlock = some a.block ∧ w.cell? a = some u ∧ w.frozen? a = false := by
  have h := hs.ok i _ hi
  simp only [Res.ok] at h
  rcases h.2 with ⟨rfl, rfl⟩ | ⟨g, cap, cur, rfl, _, hg, _, _, _, htake⟩
  · have : xs = [] := List.eq_nil_of_length_eq_zero (by simpa using h.1)
    subst this; simp at hu
  · have := h.cells (g := g) rfl j u hu
    rw [Addr.add_lit] at this
    refine ⟨⟨g, 0 + j, none⟩, by simp only [elemPtr, Addr.add_lit], rfl, rfl, this, ?_⟩
    simp [World.frozen?, hg]
theorem SH.rowLen {H : Hp} {w : World} {O : List Res} (hs : SH w H O) {i : Nat} {v : Value} {e : TypeId} {size n : Nat} {xs : List Value} (hi : O[i]? = some (.row v e size n xs)) : SlLen v n ∧ xs.length = n * size := by
  have h := hs.ok i _ hi
  simp only [Res.ok] at h
  refine ⟨?_, h.1⟩
  rcases h.2 with ⟨rfl, rfl⟩ | ⟨g, cap, cur, rfl, _⟩
  · exact .inl ⟨rfl, rfl⟩
  · exact .inr ⟨_, _, rfl⟩

/- A row of what is owned that is given up: it stays. -/
theorem SH.freeze {w : World} {H : Hp} {O : List Res} (hs : SH w H O) {i : Nat} {v : Value} {e : TypeId} {size n : Nat} {xs : List Value} (hi : O[i]? = some (.row v e size n xs)) :
    ∃ H', H.le H' ∧ SH w H' (O.eraseIdx i) ∧ Sl H' v size n xs := by
  have h := hs.ok i _ hi
  simp only [Res.ok] at h
  rcases h.2 with ⟨rfl, rfl⟩ | ⟨g, cap, cur, rfl, _, hg, hn, _, hcs, htake⟩
  · have : xs = [] := List.eq_nil_of_length_eq_zero (by simpa using h.1)
    subst this
    exact ⟨H, Hp.le.refl H, hs.drop i, Sl.nil H size⟩
  · obtain ⟨h1, h2⟩ := hs.publish hi (b := g) rfl hg
    refine ⟨_, h1, h2, h.1, .inr ⟨_, _, rfl⟩, fun j u hj => ⟨⟨g, 0 + j, none⟩, cur, e, (0, 0), by simp only [elemPtr, Addr.add_lit], rfl, by simp [Hp.put], ?_⟩⟩
    rw [← htake] at hj
    rw [List.getElem?_take] at hj
    split at hj
    · simpa using hj
    · simp at hj
theorem SH.freezeBlk {w : World} {H : Hp} {O : List Res} (hs : SH w H O) {i b : Nat} {o : Obj} (hi : O[i]? = some (.blk b o)) :
    ∃ H', H.le H' ∧ SH w H' (O.eraseIdx i) ∧ H'.at_ b = some o := by
  obtain ⟨h1, h2⟩ := hs.publish hi (b := b) rfl (hs.ok i _ hi)
  exact ⟨_, h1, h2, by simp [Hp.put]⟩

section
variable {P : Program} {T : TypeId} {E : Operand → Option Value} {H : Hp} {O : List Res}

theorem OpT.of_run {op : Op} {v : Value} (h : ∀ (a : Act) (w : World) (o : Oper), o.op = op → o.type = T → (∀ x u, E x = some u → a.eval x = u) → SH w H O → (execOp a.eval o).run P w = .ok (.value v) w) : OpT P op T E H O v := by
  intro a w o ho hT he hs
  simp [Oper.quietAt, h a w o ho hT he hs, Oper.quietUpon]

theorem OpT.move {x : Operand} {v : Value} (hx : E x = some v) : OpT P (.move x) T E H O v := .of_run fun a w o ho _ he _ => by simp [execOp, ho, he x v hx]
theorem OpT.assign {x : Operand} {v : Value} (hx : E x = some v) : OpT P (.assign x) T E H O v := .of_run fun a w o ho _ he _ => by simp [execOp, ho, he x v hx]
theorem OpT.pickT {c x y : Operand} {v : Value} (hc : E c = some (.bool true)) (hx : E x = some v) : OpT P (.pick c x y) T E H O v := .of_run fun a w o ho _ he _ => by simp [execOp, ho, he x v hx, he c _ hc, asBool]
theorem OpT.pickF {c x y : Operand} {v : Value} (hc : E c = some (.bool false)) (hy : E y = some v) : OpT P (.pick c x y) T E H O v := .of_run fun a w o ho _ he _ => by simp [execOp, ho, he y v hy, he c _ hc, asBool]

section ints
variable {k : IntKind} {x y : Operand} {m n : Int} {Tx Ty : TypeId}
theorem OpT.addW (hx : E x = some (.int k m)) (hy : E y = some (.int k n)) : OpT P (.binOp .add Tx x y Ty) T E H O (.int k (k.wrap (m + n))) := .of_run fun a w o ho _ he _ => by
  simp [execOp, ho, he x _ hx, he y _ hy, eqGuard, binOp, Op.intArith]
theorem OpT.subW (hx : E x = some (.int k m)) (hy : E y = some (.int k n)) : OpT P (.binOp .sub Tx x y Ty) T E H O (.int k (k.wrap (m - n))) := .of_run fun a w o ho _ he _ => by
  simp [execOp, ho, he x _ hx, he y _ hy, eqGuard, binOp, Op.intArith]
theorem OpT.mulW (hx : E x = some (.int k m)) (hy : E y = some (.int k n)) : OpT P (.binOp .mul Tx x y Ty) T E H O (.int k (k.wrap (m * n))) := .of_run fun a w o ho _ he _ => by
  simp [execOp, ho, he x _ hx, he y _ hy, eqGuard, binOp, Op.intArith]
theorem wrap_fits {k : IntKind} {n : Int} (h : k.min ≤ n ∧ n ≤ k.max) : k.wrap n = n := by
  cases k <;> simp [IntKind.min, IntKind.max, IntKind.signed, IntKind.bits] at h <;> simp [IntKind.wrap, IntKind.signed, IntKind.bits] <;> omega
theorem fits64 {n : Int} (h : -9223372036854775808 ≤ n ∧ n ≤ 9223372036854775807) : IntKind.i64.min ≤ n ∧ n ≤ IntKind.i64.max := by
  simpa [IntKind.min, IntKind.max, IntKind.signed, IntKind.bits] using h
theorem fitsU8 {n : Int} (h : 0 ≤ n ∧ n ≤ 255) : IntKind.u8.min ≤ n ∧ n ≤ IntKind.u8.max := by
  simpa [IntKind.min, IntKind.max, IntKind.signed, IntKind.bits] using h
theorem fitsU64 {n : Int} (h : 0 ≤ n ∧ n ≤ 18446744073709551615) : IntKind.u64.min ≤ n ∧ n ≤ IntKind.u64.max := by
  simpa [IntKind.min, IntKind.max, IntKind.signed, IntKind.bits] using h
theorem OpT.add (hx : E x = some (.int k m)) (hy : E y = some (.int k n)) (h : k.min ≤ m + n ∧ m + n ≤ k.max) : OpT P (.binOp .add Tx x y Ty) T E H O (.int k (m + n)) := by
  have := OpT.addW (P := P) (T := T) (H := H) (O := O) (Tx := Tx) (Ty := Ty) hx hy; rwa [wrap_fits h] at this
theorem OpT.sub (hx : E x = some (.int k m)) (hy : E y = some (.int k n)) (h : k.min ≤ m - n ∧ m - n ≤ k.max) : OpT P (.binOp .sub Tx x y Ty) T E H O (.int k (m - n)) := by
  have := OpT.subW (P := P) (T := T) (H := H) (O := O) (Tx := Tx) (Ty := Ty) hx hy; rwa [wrap_fits h] at this
theorem OpT.mul (hx : E x = some (.int k m)) (hy : E y = some (.int k n)) (h : k.min ≤ m * n ∧ m * n ≤ k.max) : OpT P (.binOp .mul Tx x y Ty) T E H O (.int k (m * n)) := by
  have := OpT.mulW (P := P) (T := T) (H := H) (O := O) (Tx := Tx) (Ty := Ty) hx hy; rwa [wrap_fits h] at this
theorem OpT.quo (hx : E x = some (.int k m)) (hy : E y = some (.int k n)) (h0 : 0 ≤ m) (h1 : 0 < n) (h : m ≤ k.max) : OpT P (.binOp .quo Tx x y Ty) T E H O (.int k (m / n)) := .of_run fun a w o ho _ he _ => by
  have hn : n ≠ 0 := by omega
  have h2 : m.tdiv n = m / n := Int.tdiv_eq_ediv_of_nonneg h0
  have h3 : 0 ≤ m / n := Int.ediv_nonneg h0 (by omega)
  have h4 : m / n ≤ m := Int.ediv_le_self _ h0
  have hmin : k.min ≤ 0 := by cases k <;> simp [IntKind.min, IntKind.signed, IntKind.bits]
  simp [execOp, ho, he x _ hx, he y _ hy, eqGuard, binOp, Op.intDiv, hn, h2, wrap_fits (k := k) (n := m / n) ⟨by omega, by omega⟩]
theorem OpT.rem (hx : E x = some (.int k m)) (hy : E y = some (.int k n)) (h0 : 0 ≤ m) (h1 : n ≠ 0) : OpT P (.binOp .rem Tx x y Ty) T E H O (.int k (m % n)) := .of_run fun a w o ho _ he _ => by
  have h2 : m.tmod n = m % n := Int.tmod_eq_emod_of_nonneg h0
  simp [execOp, ho, he x _ hx, he y _ hy, eqGuard, binOp, Op.intDiv, h1, h2]
theorem OpT.eql (hx : E x = some (.int k m)) (hy : E y = some (.int k n)) : OpT P (.binOp .eql Tx x y Ty) T E H O (.bool (decide (m = n))) := .of_run fun a w o ho _ he _ => by
  simp [execOp, ho, he x _ hx, he y _ hy, eqGuard, binOp, Op.intCmp]
  rw [Bool.eq_iff_iff]; simp
theorem OpT.neq (hx : E x = some (.int k m)) (hy : E y = some (.int k n)) : OpT P (.binOp .neq Tx x y Ty) T E H O (.bool (decide (m ≠ n))) := .of_run fun a w o ho _ he _ => by
  simp [execOp, ho, he x _ hx, he y _ hy, eqGuard, binOp, Op.intCmp]
  rw [Bool.eq_iff_iff]; simp
theorem OpT.lss (hx : E x = some (.int k m)) (hy : E y = some (.int k n)) : OpT P (.binOp .lss Tx x y Ty) T E H O (.bool (decide (m < n))) := .of_run fun a w o ho _ he _ => by
  simp [execOp, ho, he x _ hx, he y _ hy, eqGuard, binOp, Op.intCmp]
theorem OpT.leq (hx : E x = some (.int k m)) (hy : E y = some (.int k n)) : OpT P (.binOp .leq Tx x y Ty) T E H O (.bool (decide (m ≤ n))) := .of_run fun a w o ho _ he _ => by
  simp [execOp, ho, he x _ hx, he y _ hy, eqGuard, binOp, Op.intCmp]
theorem OpT.gtr (hx : E x = some (.int k m)) (hy : E y = some (.int k n)) : OpT P (.binOp .gtr Tx x y Ty) T E H O (.bool (decide (n < m))) := .of_run fun a w o ho _ he _ => by
  simp [execOp, ho, he x _ hx, he y _ hy, eqGuard, binOp, Op.intCmp]
theorem OpT.geq (hx : E x = some (.int k m)) (hy : E y = some (.int k n)) : OpT P (.binOp .geq Tx x y Ty) T E H O (.bool (decide (n ≤ m))) := .of_run fun a w o ho _ he _ => by
  simp [execOp, ho, he x _ hx, he y _ hy, eqGuard, binOp, Op.intCmp]
theorem OpT.convW {s d : TypeId} {ds : TypeDesc} {k' : IntKind} (hs : P.underlying s = some ds) (hd : P.underlying d = some (.int k')) (hx : E x = some (.int k m)) : OpT P (.convert s d x) T E H O (.int k' (k'.wrap m)) := .of_run fun a w o ho _ he _ => by
  simp [execOp, ho, he x _ hx, convert, sem_under hs, sem_under hd, Conv.intToInt]
theorem OpT.conv {s d : TypeId} {ds : TypeDesc} {k' : IntKind} (hs : P.underlying s = some ds) (hd : P.underlying d = some (.int k')) (hx : E x = some (.int k m)) (h : k'.min ≤ m ∧ m ≤ k'.max) : OpT P (.convert s d x) T E H O (.int k' m) := by
  have := OpT.convW (P := P) (T := T) (H := H) (O := O) hs hd hx; rwa [wrap_fits h] at this
end ints

/- Words. -/
section words
variable {x y : Operand} {Tx Ty : TypeId}
def w64 (a : BitVec 64) : Value := .int .u64 a.toNat
theorem wrap64n (a : BitVec 64) : IntKind.u64.wrap (a.toNat : Int) = a.toNat := wrap_fits (fitsU64 ⟨by omega, by have := a.isLt; omega⟩)
theorem ofInt64 (a : BitVec 64) : BitVec.ofInt 64 (a.toNat : Int) = a := by simp
theorem intBits_or (a b : BitVec 64) : Op.intBits .or .u64 a.toNat b.toNat = pure (w64 (a ||| b)) := by
  show (pure (.int .u64 (IntKind.u64.wrap ((BitVec.ofInt 64 (a.toNat : Int) ||| BitVec.ofInt 64 (b.toNat : Int)).toNat : Int))) : Sem Value) = _
  rw [ofInt64, ofInt64, wrap64n]; rfl
theorem intBits_and (a b : BitVec 64) : Op.intBits .and .u64 a.toNat b.toNat = pure (w64 (a &&& b)) := by
  show (pure (.int .u64 (IntKind.u64.wrap ((BitVec.ofInt 64 (a.toNat : Int) &&& BitVec.ofInt 64 (b.toNat : Int)).toNat : Int))) : Sem Value) = _
  rw [ofInt64, ofInt64, wrap64n]; rfl
theorem unary_xor (a : BitVec 64) : Op.unary .xor (w64 a) = pure (w64 (~~~a)) := by
  show (pure (.int .u64 (IntKind.u64.wrap ((BitVec.ofInt 64 18446744073709551615 ^^^ BitVec.ofInt 64 (a.toNat : Int)).toNat : Int))) : Sem Value) = _
  rw [ofInt64, show BitVec.ofInt 64 18446744073709551615 = BitVec.allOnes 64 from by decide, BitVec.allOnes_xor, wrap64n]; rfl
theorem OpT.orW {a b : BitVec 64} (hx : E x = some (w64 a)) (hy : E y = some (w64 b)) : OpT P (.binOp .or Tx x y Ty) T E H O (w64 (a ||| b)) := .of_run fun ac w o ho _ he _ => by
  have := intBits_or a b
  simp only [w64] at *
  simp [execOp, ho, he x _ hx, he y _ hy, eqGuard, binOp, this]
theorem OpT.andW {a b : BitVec 64} (hx : E x = some (w64 a)) (hy : E y = some (w64 b)) : OpT P (.binOp .and Tx x y Ty) T E H O (w64 (a &&& b)) := .of_run fun ac w o ho _ he _ => by
  have := intBits_and a b
  simp only [w64] at *
  simp [execOp, ho, he x _ hx, he y _ hy, eqGuard, binOp, this]
theorem OpT.notW {a : BitVec 64} (hx : E x = some (w64 a)) : OpT P (.unOp .xor Tx x) T E H O (w64 (~~~a)) := .of_run fun ac w o ho _ he _ => by
  have := unary_xor a
  simp [execOp, ho, he x _ hx, this]
theorem shift_shl (a : BitVec 64) (k : IntKind) (n : Nat) : Op.shift .shl .u64 a.toNat k n = pure (w64 (a <<< n)) := by
  have hneg : ¬ ((n : Int) < 0) := by omega
  have key : ∀ j : Nat, IntKind.u64.wrap ((a.toNat : Int) * 2 ^ j) = ((a.toNat * 2 ^ j % 2 ^ 64 : Nat) : Int) := fun j => by
    simp [IntKind.wrap, IntKind.signed, IntKind.bits]
  unfold Op.shift
  rw [if_neg hneg]
  show (pure (.int .u64 (IntKind.u64.wrap ((a.toNat : Int) * 2 ^ (min n 64)))) : Sem Value) = _
  rw [key, w64, BitVec.toNat_shiftLeft, Nat.shiftLeft_eq]
  by_cases h : n ≤ 64
  · rw [Nat.min_eq_left h]
  · rw [Nat.min_eq_right (by omega)]
    have h1 : a.toNat * 2 ^ n % 2 ^ 64 = 0 := by
      rw [show n = 64 + (n - 64) by omega, Nat.pow_add, ← Nat.mul_assoc, Nat.mul_right_comm, Nat.mul_mod_left]
    rw [h1, Nat.mul_mod_left]
theorem shift_shr (a : BitVec 64) (k : IntKind) (n : Nat) : Op.shift .shr .u64 a.toNat k n = pure (w64 (a >>> n)) := by
  have hneg : ¬ ((n : Int) < 0) := by omega
  have key : ∀ j : Nat, (a.toNat : Int).fdiv (2 ^ j) = ((a.toNat / 2 ^ j : Nat) : Int) := fun j => by
    rw [Int.fdiv_eq_ediv_of_nonneg _ (Int.pow_nonneg (by decide))]
    simp
  unfold Op.shift
  rw [if_neg hneg]
  show (pure (.int .u64 ((a.toNat : Int).fdiv (2 ^ (min n 64)))) : Sem Value) = _
  rw [key, w64, BitVec.toNat_ushiftRight, Nat.shiftRight_eq_div_pow]
  by_cases h : n ≤ 64
  · rw [Nat.min_eq_left h]
  · rw [Nat.min_eq_right (by omega)]
    have h1 : a.toNat / 2 ^ n = 0 := Nat.div_eq_of_lt (Nat.lt_of_lt_of_le a.isLt (Nat.pow_le_pow_right (by decide) (by omega)))
    rw [h1, Nat.div_eq_of_lt a.isLt]
theorem OpT.shlW {k : IntKind} {a : BitVec 64} {n : Nat} (hx : E x = some (w64 a)) (hy : E y = some (.int k (n : Int))) : OpT P (.binOp .shl Tx x y Ty) T E H O (w64 (a <<< n)) := .of_run fun ac w o ho _ he _ => by
  have := shift_shl a k n
  simp only [w64] at *
  simp [execOp, ho, he x _ hx, he y _ hy, eqGuard, binOp, this]
theorem OpT.shrW {k : IntKind} {a : BitVec 64} {n : Nat} (hx : E x = some (w64 a)) (hy : E y = some (.int k (n : Int))) : OpT P (.binOp .shr Tx x y Ty) T E H O (w64 (a >>> n)) := .of_run fun ac w o ho _ he _ => by
  have := shift_shr a k n
  simp only [w64] at *
  simp [execOp, ho, he x _ hx, he y _ hy, eqGuard, binOp, this]
end words

theorem OpT.not {x : Operand} {Tx : TypeId} {b : Bool} (hx : E x = some (.bool b)) : OpT P (.unOp .not Tx x) T E H O (.bool (!b)) := .of_run fun ac w o ho _ he _ => by
  simp [execOp, ho, he x _ hx, Op.unary]
theorem run_equalB {w : World} {Tx : TypeId} {a b : Bool} (ht : P.underlying Tx = some .bool) : (Op.equal Tx (.bool a) (.bool b)).run P w = .ok (a == b) w := by
  have h : ∀ d, (Op.equalIn (d + 1) Tx (.bool a) (.bool b)).run P w = .ok (a == b) w := fun d => by simp [Op.equalIn, sem_under ht]
  unfold Op.equal Op.maxDepth
  exact h 9999
theorem OpT.eqB {x y : Operand} {Tx Ty : TypeId} {a b : Bool} (ht : P.underlying Tx = some .bool) (hx : E x = some (.bool a)) (hy : E y = some (.bool b)) : OpT P (.binOp .eql Tx x y Ty) T E H O (.bool (a == b)) := .of_run fun ac w o ho _ he _ => by
  have := run_equalB (w := w) (a := a) (b := b) ht
  simp [execOp, ho, he x _ hx, he y _ hy, eqGuard, binOp, this]
theorem OpT.neB {x y : Operand} {Tx Ty : TypeId} {a b : Bool} (ht : P.underlying Tx = some .bool) (hx : E x = some (.bool a)) (hy : E y = some (.bool b)) : OpT P (.binOp .neq Tx x y Ty) T E H O (.bool (!(a == b))) := .of_run fun ac w o ho _ he _ => by
  have := run_equalB (w := w) (a := a) (b := b) ht
  simp [execOp, ho, he x _ hx, he y _ hy, eqGuard, binOp, this]

theorem OpT.extract {x : Operand} {i : Nat} {vs : Array Value} {v : Value} (hx : E x = some (.tuple vs)) (hi : vs[i]? = some v) : OpT P (.extract x i) T E H O v := .of_run fun ac w o ho _ he _ => by
  simp [execOp, ho, he x _ hx, Instr.extract, hi]

theorem OpT.len {x : Operand} {t e : TypeId} {v : Value} {n : Nat} (ht : P.underlying t = some (.slice e)) (hx : E x = some v) (hl : SlLen v n) : OpT P (.call { callee := .builtin .len, args := #[x], argTypes := #[t] }) T E H O (.int .i64 n) := .of_run fun ac w o ho _ he _ => by
  rcases hl with ⟨rfl, rfl⟩ | ⟨a, cap, rfl⟩ <;> simp [execOp, ho, he x _ hx, resolve, invoke, builtin, Builtin.len_, sem_under ht, goInt]
theorem OpT.lenStr {x : Operand} {t : TypeId} {s : ByteArray} (ht : P.underlying t = some .string) (hx : E x = some (.string s)) : OpT P (.call { callee := .builtin .len, args := #[x], argTypes := #[t] }) T E H O (.int .i64 s.size) := .of_run fun ac w o ho _ he _ => by
  simp [execOp, ho, he x _ hx, resolve, invoke, builtin, Builtin.len_, sem_under ht, goInt]
theorem OpT.lenImm {x : Operand} {t e : TypeId} {v : Value} {size n : Nat} {xs : List Value} (ht : P.underlying t = some (.slice e)) (hx : E x = some v) (hl : Sl H v size n xs) : OpT P (.call { callee := .builtin .len, args := #[x], argTypes := #[t] }) T E H O (.int .i64 n) := OpT.len ht hx hl.sl
theorem OpT.lenRow {x : Operand} {t e e' : TypeId} {v : Value} {i size n : Nat} {xs : List Value} (ht : P.underlying t = some (.slice e)) (hx : E x = some v) (hi : O[i]? = some (.row v e' size n xs)) : OpT P (.call { callee := .builtin .len, args := #[x], argTypes := #[t] }) T E H O (.int .i64 n) := fun a w o ho hT he hs => OpT.len (H := H) (O := O) ht hx (hs.rowLen hi).1 a w o ho hT he hs

/- Addresses. -/
theorem OpT.ixArr {x y : Operand} {t e : TypeId} {len B off size bytes off' : Nat} {z : Value} {k : IntKind} {i : Int} (ht : P.underlying t = some (.array len e)) (hsz : TI P e size bytes z) (hx : E x = some (ptr B off)) (hy : E y = some (.int k i))
    (h : 0 ≤ i ∧ i < len) (ho' : off + i.toNat * size = off') : OpT P (.indexAddr t x y) T E H O (ptr B off') := .of_run fun ac w o ho _ he _ => by
  simp only [ptr] at *
  subst ho'
  simp [execOp, ho, he x _ hx, he y _ hy, Instr.indexAt, asIntOf, sem_under ht, Instr.sureAddr, h, hsz.sizeOf, Addr.add]
theorem OpT.ixSl {x y : Operand} {t e : TypeId} {n size bytes : Nat} {z v : Value} {k : IntKind} {i : Int} (ht : P.underlying t = some (.slice e)) (hsz : TI P e size bytes z) (hx : E x = some v) (hl : SlLen v n) (hy : E y = some (.int k i))
    (h : 0 ≤ i ∧ i < n) : OpT P (.indexAddr t x y) T E H O (elemPtr v (i.toNat * size)) := .of_run fun ac w o ho _ he _ => by
  rcases hl with ⟨rfl, rfl⟩ | ⟨a, cap, rfl⟩
  · omega
  · simp [execOp, ho, he x _ hx, he y _ hy, Instr.indexAt, asIntOf, sem_under ht, h, hsz.sizeOf, elemPtr]
theorem OpT.ixImm {x y : Operand} {t e : TypeId} {n size bytes : Nat} {z v : Value} {k : IntKind} {i : Int} {xs : List Value} {s : Nat} (ht : P.underlying t = some (.slice e)) (hsz : TI P e size bytes z) (hx : E x = some v) (hl : Sl H v s n xs) (hy : E y = some (.int k i))
    (h : 0 ≤ i ∧ i < n) : OpT P (.indexAddr t x y) T E H O (elemPtr v (i.toNat * size)) := OpT.ixSl ht hsz hx hl.sl hy h
theorem OpT.ixRow {x y : Operand} {t e e' : TypeId} {n size bytes : Nat} {z v : Value} {k : IntKind} {i : Int} {xs : List Value} {s j : Nat} (ht : P.underlying t = some (.slice e)) (hsz : TI P e size bytes z) (hx : E x = some v) (hj : O[j]? = some (.row v e' s n xs)) (hy : E y = some (.int k i))
    (h : 0 ≤ i ∧ i < n) : OpT P (.indexAddr t x y) T E H O (elemPtr v (i.toNat * size)) := fun a w o ho hT he hs => OpT.ixSl (H := H) (O := O) ht hsz hx (hs.rowLen hj).1 hy h a w o ho hT he hs

/- Loads. -/
theorem run_loadCells {P : Program} {w : World} {a : Addr} : ∀ {vs : List Value} {i : Nat} {acc : Array Value}, (∀ j u, vs[j]? = some u → w.cell? (a.add (i + j)) = some u) →
    (loadCellsFrom a i vs.length acc).run P w = .ok (acc ++ vs.toArray) w
  | [], i, acc, _ => by simp [loadCellsFrom]
  | v :: vs, i, acc, h => by
    have h0 := h 0 v rfl
    simp only [Nat.add_zero] at h0
    have ih := run_loadCells (P := P) (w := w) (a := a) (vs := vs) (i := i + 1) (acc := acc.push v) (fun j u hj => by
      have := h (j + 1) u (by simpa using hj)
      rwa [show i + (j + 1) = i + 1 + j by omega] at this)
    simp only [List.length_cons, loadCellsFrom, Sem.run_bind, run_load, h0, Result.andThen_ok, ih]
    simp
theorem run_loadVar_one {P : Program} {w : World} {t : TypeId} {d : TypeDesc} {a : Addr} {v : Value} (ht : P.underlying t = some d) (hd : aggB d = false) (h : w.cell? a = some v) : (loadVar t a).run P w = .ok v w := by
  simp [loadVar, run_isAgg ht, hd, h]
theorem run_loadVar_agg {P : Program} {w : World} {t : TypeId} {d : TypeDesc} {a : Addr} {vs : List Value} {bytes : Nat} {z : Value} (ht : P.underlying t = some d) (hd : aggB d = true) (hsz : TI P t vs.length bytes z) (h : ∀ j u, vs[j]? = some u → w.cell? (a.add j) = some u) : (loadVar t a).run P w = .ok (.agg vs.toArray) w := by
  have := run_loadCells (P := P) (w := w) (a := a) (vs := vs) (i := 0) (acc := #[]) (fun j u hj => by simpa using h j u hj)
  simp [loadVar, run_isAgg ht, hd, hsz.sizeOf, loadCells, this]

theorem OpT.ldBlk {x : Operand} {t : TypeId} {d : TypeDesc} {B off i : Nat} {cs : Array Value} {t' : TypeId} {fr : Nat × Nat} {v : Value} (ht : P.underlying t = some d) (hd : aggB d = false) (hx : E x = some (ptr B off)) (hi : O[i]? = some (.blk B (.cells cs t' fr))) (hv : cs[off]? = some v) :
    OpT P (.load t x) T E H O v := .of_run fun ac w o ho _ he hs => by
  simp only [ptr] at hx
  simp [execOp, ho, he x _ hx, Instr.loadAt, Instr.sureAddr, run_loadVar_one ht hd (hs.blkCell hi hv)]
theorem OpT.ldBlkA {x : Operand} {t : TypeId} {d : TypeDesc} {B off i bytes : Nat} {z : Value} {cs : Array Value} {t' : TypeId} {fr : Nat × Nat} {vs : List Value} (ht : P.underlying t = some d) (hd : aggB d = true) (hsz : TI P t vs.length bytes z) (hx : E x = some (ptr B off)) (hi : O[i]? = some (.blk B (.cells cs t' fr)))
    (hv : ∀ j u, vs[j]? = some u → cs[off + j]? = some u) : OpT P (.load t x) T E H O (.agg vs.toArray) := .of_run fun ac w o ho _ he hs => by
  simp only [ptr] at hx
  have := run_loadVar_agg (P := P) (w := w) (a := ⟨B, off, none⟩) ht hd hsz (fun j u hj => by rw [Addr.add_lit]; exact hs.blkCell hi (hv j u hj))
  simp [execOp, ho, he x _ hx, Instr.loadAt, Instr.sureAddr, this]
/- the whole of a block -/
theorem OpT.ldBlkW {x : Operand} {t : TypeId} {d : TypeDesc} {B i bytes size : Nat} {z : Value} {cs : Array Value} {t' : TypeId} {fr : Nat × Nat} (ht : P.underlying t = some d) (hd : aggB d = true) (hsz : TI P t size bytes z) (hcs : cs.size = size) (hx : E x = some (ptr B 0)) (hi : O[i]? = some (.blk B (.cells cs t' fr))) :
    OpT P (.load t x) T E H O (.agg cs) := by
  have := OpT.ldBlkA (T := T) (H := H) (vs := cs.toList) ht hd (by simpa [hcs] using hsz) hx hi (fun j u hj => by simpa using hj)
  simpa using this
theorem HCells.cells {H : Hp} {w : World} {O : List Res} (hs : SH w H O) {v : Value} {k : Nat} {vs : List Value} (h0 : vs ≠ []) (h : ∀ j u, vs[j]? = some u → HCell H (elemPtr v (k + j)) u) :
    ∃ a : Addr, elemPtr v k = .pointer (some a) ∧ ∀ j u, vs[j]? = some u → w.cell? (a.add j) = some u := by
  cases v with
  | slice b n c =>
    cases b with
    | none =>
      cases vs with
      | nil => exact absurd rfl h0
      | cons y ys =>
        obtain ⟨a, h1, _⟩ := (h 0 y rfl).cell hs
        simp [elemPtr, undef] at h1
    | some b =>
      refine ⟨b.add k, rfl, fun j u hj => ?_⟩
      obtain ⟨a, h1, h2⟩ := (h j u hj).cell hs
      simp only [elemPtr, Value.pointer.injEq, Option.some.injEq] at h1
      rw [← h1] at h2
      rw [addr_add_add]; exact h2
  | _ =>
    cases vs with
    | nil => exact absurd rfl h0
    | cons y ys =>
      obtain ⟨a, h1, _⟩ := (h 0 y rfl).cell hs
      simp [elemPtr, undef] at h1
theorem OpT.ldImm {x : Operand} {t : TypeId} {d : TypeDesc} {v u : Value} {k size n : Nat} {xs : List Value} (ht : P.underlying t = some d) (hd : aggB d = false) (hx : E x = some (elemPtr v k)) (hl : Sl H v size n xs) (hu : xs[k]? = some u) :
    OpT P (.load t x) T E H O u := .of_run fun ac w o ho _ he hs => by
  obtain ⟨a, h1, h2⟩ := (hl.cells k u hu).cell hs
  rw [h1] at hx
  simp [execOp, ho, he x _ hx, Instr.loadAt, Instr.sureAddr, run_loadVar_one ht hd h2]
theorem OpT.ldImmA {x : Operand} {t : TypeId} {d : TypeDesc} {v : Value} {k size n bytes : Nat} {z : Value} {xs vs : List Value} (ht : P.underlying t = some d) (hd : aggB d = true) (hsz : TI P t vs.length bytes z) (h0 : vs ≠ []) (hx : E x = some (elemPtr v k)) (hl : Sl H v size n xs) (hu : ∀ j u, vs[j]? = some u → xs[k + j]? = some u) :
    OpT P (.load t x) T E H O (.agg vs.toArray) := .of_run fun ac w o ho _ he hs => by
  obtain ⟨a, h1, h2⟩ := HCells.cells hs (v := v) (k := k) h0 (fun j u hj => hl.cells _ u (hu j u hj))
  rw [h1] at hx
  simp [execOp, ho, he x _ hx, Instr.loadAt, Instr.sureAddr, run_loadVar_agg (w := w) ht hd hsz h2]
theorem OpT.ldRow {x : Operand} {t e : TypeId} {d : TypeDesc} {v u : Value} {i k size n : Nat} {xs : List Value} (ht : P.underlying t = some d) (hd : aggB d = false) (hx : E x = some (elemPtr v k)) (hi : O[i]? = some (.row v e size n xs)) (hu : xs[k]? = some u) :
    OpT P (.load t x) T E H O u := .of_run fun ac w o ho _ he hs => by
  obtain ⟨a, h1, _, _, h2, _⟩ := hs.rowCell hi hu
  rw [h1] at hx
  simp [execOp, ho, he x _ hx, Instr.loadAt, Instr.sureAddr, run_loadVar_one ht hd h2]
theorem OpT.ldRowA {x : Operand} {t e : TypeId} {d : TypeDesc} {v : Value} {i k size n bytes : Nat} {z : Value} {xs vs : List Value} (ht : P.underlying t = some d) (hd : aggB d = true) (hsz : TI P t vs.length bytes z) (h0 : vs ≠ []) (hx : E x = some (elemPtr v k)) (hi : O[i]? = some (.row v e size n xs)) (hu : ∀ j u, vs[j]? = some u → xs[k + j]? = some u) :
    OpT P (.load t x) T E H O (.agg vs.toArray) := .of_run fun ac w o ho _ he hs => by
  have h := hs.ok i _ hi
  simp only [Res.ok] at h
  rcases h.2 with ⟨rfl, rfl⟩ | ⟨g, cap, cur, rfl, _, hg, _, _, _, htake⟩
  · have hxs : xs = [] := List.eq_nil_of_length_eq_zero (by simpa using h.1)
    subst hxs
    cases vs with
    | nil => exact absurd rfl h0
    | cons y ys => have := hu 0 y rfl; simp at this
  · have h2 : ∀ j u, vs[j]? = some u → w.cell? ((Addr.add ⟨g, 0, none⟩ k).add j) = some u := fun j u hj => by
      have := h.cells (g := g) rfl (k + j) u (hu j u hj)
      rw [addr_add_add]; exact this
    simp only [elemPtr] at hx
    simp [execOp, ho, he x _ hx, Instr.loadAt, Instr.sureAddr, run_loadVar_agg (w := w) ht hd hsz h2]
end
end Go.GK
