/- Operations on what holds data. -/
import Derived.Test.YtjmbmodmepdmjaaDoorKitDen
import Derived.WalkLawsBesides
namespace Go.GK
abbrev F64 (n : Int) : Prop := -9223372036854775808 ≤ n ∧ n ≤ 9223372036854775807
abbrev F8 (n : Int) : Prop := 0 ≤ n ∧ n ≤ 255
/- as many as a list may have -/
abbrev capN : Nat := 1099511627776
theorem ones_nil : ∀ u ∈ ([] : List Value), u.oneCell' = true := fun u h => by cases h
theorem ones_cons {v : Value} {l : List Value} (h : v.oneCell' = true) (k : ∀ u ∈ l, u.oneCell' = true) : ∀ u ∈ v :: l, u.oneCell' = true := fun u hu => by
  rcases List.mem_cons.1 hu with rfl | hu
  · exact h
  · exact k u hu
theorem onesA {l : List Value} (h : ∀ u ∈ l, u.oneCell' = true) : ∀ u ∈ l.toArray, u.oneCell' = true := fun u hu => h u (by simpa using hu)
section
variable {P : Program} {Q : Exit → Act → World → Prop} {n : Nat} {L L' : List (Nat × Value)} {H : Hp} {O : List Res}
theorem SH.permK {w : World} (ks : List Nat) (k : Nat) (hk : (ks.all fun q => Nat.blt q k) = true) (hn : nodupB ks = true) (hl : (O.take k).length = k) (h : SH w H O) : SH w H (ks.filterMap (O[·]?) ++ O.drop k) :=
  SH.permO ks k hk hn (by rw [List.length_take] at hl; omega) h
theorem At.permK {e : Exit} (ks : List Nat) (k : Nat) (hk : (ks.all fun q => Nat.blt q k) = true) (hn : nodupB ks = true) (hl : (O.take k).length = k) (h : At Q e n L H (ks.filterMap (O[·]?) ++ O.drop k)) : At Q e n L H O := fun a w hf hs => h a w hf (hs.permK ks k hk hn hl)
theorem Seg.permK {ops : Array Oper} {rest : List Oper} (ks : List Nat) (k : Nat) (hk : (ks.all fun q => Nat.blt q k) = true) (hn : nodupB ks = true) (hl : (O.take k).length = k) (h : Seg P ops Q rest n L H (ks.filterMap (O[·]?) ++ O.drop k)) : Seg P ops Q rest n L H O := fun a w hf hs => h a w hf (hs.permK ks k hk hn hl)
theorem Wp.permK {c : Code} (ks : List Nat) (k : Nat) (hk : (ks.all fun q => Nat.blt q k) = true) (hn : nodupB ks = true) (hl : (O.take k).length = k) (h : Wp P c Q n L H (ks.filterMap (O[·]?) ++ O.drop k)) : Wp P c Q n L H O := fun a w hf hs => h a w hf (hs.permK ks k hk hn hl)
theorem At.nilRow {e' : Exit} (e : TypeId) (size : Nat) (k : At Q e' n L H (.row (.slice none 0 0) e size 0 [] :: O)) : At Q e' n L H O := fun a w hf hs => k a w hf (hs.nilRow e size)
theorem Wp.joinT {x y : Code} {Q2 : Exit → Act → World → Prop} (J : List (Nat × Value) → Hp → List Res → Prop) (hx : Wp P x (Exit.then (JoinE J n H) Q2) n L H O) (hy : ∀ L' H' O', H.le H' → J L' H' O' → Wp P y Q n L' H' O') : Wp P x (Exit.then (y.wp P Q) Q2) n L H O := fun a w hf hs =>
  wp_mono (hx a w hf hs) fun e a' w' q => by
    cases e with
    | normal =>
      obtain ⟨L', H', O', g1, g2, g3, g4⟩ := q
      exact hy L' H' O' g1 g2 a' w' g3 g4
    | _ => exact q
end

section
variable {P : Program} {T : TypeId} {E : Operand → Option Value} {H : Hp} {O : List Res} {x y : Operand}
theorem OpT.nilCheck {b off : Nat} (hx : E x = some (ptr b off)) : OpT P (.nilCheck x) T E H O (ptr b off) := .of_run fun a w o ho _ he _ => by
  simp only [ptr] at hx
  simp [execOp, ho, he x _ hx, ptr]
/- strings -/
theorem OpT.lenS {t : TypeId} {s : Str} (ht : P.underlying t = some .string) (hx : E x = some (sv s)) : OpT P (.call { callee := .builtin .len, args := #[x], argTypes := #[t] }) T E H O (.int .i64 ((s.length : Nat) : Int)) := by
  have := OpT.lenStr (P := P) (T := T) (H := H) (O := O) ht hx
  exact this
def idxS (s : Str) (i : Int) : Option Int := if 0 ≤ i then (s[i.toNat]?).map (fun b => (b.toNat : Int)) else none
theorem idxS_bd {s : Str} {i x : Int} (h : idxS s i = some x) : (0 ≤ i ∧ i < (s.length : Nat)) ∧ 0 ≤ x ∧ x ≤ 255 := by
  unfold idxS at h
  split at h
  · cases hb : s[i.toNat]? with
    | none => rw [hb] at h; cases h
    | some b =>
      rw [hb] at h
      simp at h
      have := (List.getElem?_eq_some_iff.1 hb).1
      have := b.toNat_lt
      omega
  · cases h
theorem OpT.byteS {t : TypeId} {s : Str} {k : IntKind} {i z : Int} (ht : P.underlying t = some .string) (hx : E x = some (sv s)) (hy : E y = some (.int k i)) (h : idxS s i = some z) : OpT P (.index t x y) T E H O (.int .u8 z) := by
  unfold idxS at h
  split at h
  · rename_i h0
    cases hb : s[i.toNat]? with
    | none => rw [hb] at h; cases h
    | some b =>
      rw [hb] at h
      simp at h
      subst h
      exact OpT.byteOf ht hx hy h0 (by
        have hlt := (List.getElem?_eq_some_iff.1 hb).1
        show ByteArray.mk (Array.mk s) |>.data[i.toNat]? = some b
        simpa using hb)
  · cases h
theorem sv_inj {a b : Str} (h : sv a = sv b) : a = b := by
  simp only [sv, Value.string.injEq, ByteArray.mk.injEq, Array.mk.injEq] at h; exact h
theorem toList_sv (a : Str) : (ByteArray.mk (Array.mk a)).toList = a := by rw [ByteArray.toList_eq]
theorem OpT.eqStr {t Ty : TypeId} {a b : Str} (ht : P.underlying t = some .string) (hx : E x = some (sv a)) (hy : E y = some (sv b)) : OpT P (.binOp .eql t x y Ty) T E H O (.bool (decide (a = b))) := .of_run fun ac w o ho _ he _ => by
  have h : (a == b) = decide (a = b) := by rw [Bool.eq_iff_iff]; simp
  simp only [sv] at *
  simp [execOp, ho, he x _ hx, he y _ hy, eqGuard, binOp, Op.stringOp, toList_sv, h]
theorem OpT.neStr {t Ty : TypeId} {a b : Str} (ht : P.underlying t = some .string) (hx : E x = some (sv a)) (hy : E y = some (sv b)) : OpT P (.binOp .neq t x y Ty) T E H O (.bool (!decide (a = b))) := .of_run fun ac w o ho _ he _ => by
  have h : (a == b) = decide (a = b) := by rw [Bool.eq_iff_iff]; simp
  simp only [sv] at *
  simp [execOp, ho, he x _ hx, he y _ hy, eqGuard, binOp, Op.stringOp, toList_sv, bne, h]
theorem OpT.ltStr {t Ty : TypeId} {a b : Str} (hx : E x = some (sv a)) (hy : E y = some (sv b)) : OpT P (.binOp .lss t x y Ty) T E H O (.bool (Op.bytesLess a b)) := .of_run fun ac w o ho _ he _ => by
  simp only [sv] at *
  simp [execOp, ho, he x _ hx, he y _ hy, eqGuard, binOp, Op.stringOp, toList_sv]
theorem OpT.catStr {t Ty : TypeId} {a b : Str} (hx : E x = some (sv a)) (hy : E y = some (sv b)) (h : a.length + b.length ≤ capN) : OpT P (.binOp .add t x y Ty) T E H O (sv (a ++ b)) := .of_run fun ac w o ho _ he _ => by
  have h1 : ¬ (((ByteArray.mk (Array.mk a)).size + (ByteArray.mk (Array.mk b)).size : Nat) : Int) > IntKind.i64.max := by
    have e1 : (ByteArray.mk (Array.mk a)).size = a.length := rfl
    have e2 : (ByteArray.mk (Array.mk b)).size = b.length := rfl
    rw [e1, e2]
    simp [IntKind.max, IntKind.signed, IntKind.bits, capN] at *
    omega
  have h2 : ByteArray.mk (Array.mk a) ++ ByteArray.mk (Array.mk b) = ByteArray.mk (Array.mk (a ++ b)) := by
    apply ByteArray.ext
    rw [ByteArray.data_append]
    simp
  simp only [sv] at *
  simp only [execOp, ho, he x _ hx, he y _ hy, eqGuard, binOp, Op.stringOp, if_neg h1, h2]
  simp
/- parts of a block -/
theorem OpT.ldBlkX {t : TypeId} {d : TypeDesc} {B off i bytes : Nat} {z : Value} {cs : Array Value} {t' : TypeId} {fr : Nat × Nat} {vs : List Value} (ht : P.underlying t = some d) (hd : aggB d = true) (hsz : TI P t vs.length bytes z) (hx : E x = some (ptr B off)) (hi : O[i]? = some (.blk B (.cells cs t' fr)))
    (hv : (cs.toList.drop off).take vs.length = vs) : OpT P (.load t x) T E H O (.agg vs.toArray) :=
  OpT.ldBlkA ht hd hsz hx hi fun j u hj => by
    have hlt := (List.getElem?_eq_some_iff.1 hj).1
    have : ((cs.toList.drop off).take vs.length)[j]? = some u := by rw [hv]; exact hj
    rw [List.getElem?_take] at this
    simp [hlt] at this
    simpa using this
end
section
variable {P : Program} {Q : Exit → Act → World → Prop} {n : Nat} {L : List (Nat × Value)} {H : Hp} {O : List Res} {ops : Array Oper} {rest : List Oper} {T : TypeId}
variable {α : Type} {c : Cd α}
theorem LayL.repl {z : α} {v : Value} (h : c.Lay H z [v]) : ∀ m, LayL c H (List.replicate m z) (List.replicate m v)
  | 0 => rfl
  | m + 1 => ⟨[v], List.replicate m v, by simp [List.replicate_succ], h, LayL.repl h m⟩
theorem Seg.stD {l : List α} {xs : List Value} {i : Int} {x0 : α} {pos : String} {af : Array Edge} {px py : Operand} {t e : TypeId} {v u z : Value} {bytes sz : Nat} {cs vs : List Value} (q off : Nat) (y : α) (hL : LayL c H l xs) (hg : idx l i = some x0)
    (hcs : cs = (xs.drop (i.toNat * c.sz)).take c.sz) (hx : ev L px = some (elemPtr v (i.toNat * c.sz + off))) (hy : ev L py = some u) (hv : u.cells.toList = vs) (hsz : TI P t sz bytes z) (hs : vs.length = sz) (h0 : Nat.blt 0 sz = true)
    (h1 : ∀ u ∈ vs, u.oneCell' = true) (hi : O[q]? = some (.row v e c.sz l.length xs)) (hlay : c.Lay H y (spl cs off vs)) (hoff : Nat.ble (off + vs.length) c.sz = true)
    (kk : ∀ xs', LayL c H (l.set i.toNat y) xs' → Seg P ops Q rest n L H (O.set q (.row v e c.sz (l.set i.toNat y).length xs'))) :
    Seg P ops Q ({ dst := none, op := .store t px py, type := T, pos, after := af, guard := none } :: rest) n L H O := by
  obtain ⟨⟨hi0, hi1⟩, hget⟩ := idx_some hg
  have hlen := hL.len
  have hcl : cs.length = c.sz := by
    obtain ⟨cs', g1, _, g3⟩ := hL.get hget
    rw [hcs, ← g3]; exact c.len g1
  have hoff' := Nat.le_of_ble_eq_true hoff
  have hb : i.toNat * c.sz + c.sz ≤ l.length * c.sz := by rw [← Nat.succ_mul]; exact Nat.mul_le_mul_right _ (by omega)
  refine Seg.stRow (i := q) hx hy hv hsz hs (by simpa using h0) h1 hi (by omega) ?_
  have := kk _ (hL.part hget hcs hcl (by omega) hlay)
  rwa [List.length_set] at this
theorem Seg.makeD {d : Tmp} {pos : String} {af : Array Edge} {pl pc : Operand} {t e : TypeId} {bytes : Nat} {zv : Value} {kl kc : IntKind} {m : Nat} {z : α} (ht : P.underlying t = some (.slice e)) (hz : TI P e c.sz bytes zv) (hl : ev L pl = some (.int kl (m : Int))) (hc : ev L pc = some (.int kc (m : Int)))
    (hm : m ≤ capN) (hlay : c.Lay H z zv.cells.toList) (hd : Nat.blt d n = true) (hb : Nat.ble bytes 256 = true) (h0 : Nat.blt 0 c.sz = true)
    (k : ∀ v xs, LayL c H (List.replicate m z) xs → Seg P ops Q rest n ((d, v) :: L) H (.row v e c.sz (List.replicate m z).length xs :: O)) :
    Seg P ops Q ({ dst := some d, op := .makeSlice t pl pc, type := T, pos, after := af, guard := none } :: rest) n L H O := by
  have hb' := Nat.le_of_ble_eq_true hb
  have hbm : bytes * m ≤ 256 * 1099511627776 := Nat.mul_le_mul hb' hm
  refine Seg.make (m := m) ht hz hl hc (by omega) (by simp only [capN] at hm; omega) hd fun v => ?_
  have := k v _ (LayL.rep hlay (by simpa using h0) m)
  rwa [List.length_replicate] at this
theorem Seg.buildD1 {d : Tmp} {pos : String} {af : Array Edge} {t e : TypeId} {bytes : Nat} {z v : Value} {cs : List Value} {x : Operand} {y : α} (ht : P.underlying t = some (.slice e)) (hz : TI P e c.sz bytes z)
    (hlen : Nat.ble c.sz 16777216 = true) (h0 : Nat.blt 0 c.sz = true) (hx : ev L x = some v) (hc : v.cells.toList = cs) (hlay : c.Lay H y cs) (hd : Nat.blt d n = true)
    (k : ∀ v' xs, LayL c H [y] xs → Seg P ops Q rest n ((d, v') :: L) H (.row v' e c.sz [y].length xs :: O)) :
    Seg P ops Q ({ dst := some d, op := .buildSlice t 1 #[(0, x)], type := T, pos, after := af, guard := none } :: rest) n L H O := by
  subst hc
  refine Seg.buildSl1 (cs := v.cells) ht hz hlen h0 hx rfl ?_ hd fun v' => k v' _ (LayL.sing hlay)
  rw [← c.len hlay]; simp
theorem Seg.buildDN {d : Tmp} {pos : String} {af : Array Edge} {t e : TypeId} {l : List α} {bytes : Nat} {z : Value} {zs cs : Array Value} {ps : List (Nat × Operand)} {vs : List (Nat × Value)} {len : Nat} (ht : P.underlying t = some (.slice e)) (hz : TI P e c.sz bytes z) (hzc : z.cells = zs)
    (hlen : Nat.ble (len * c.sz) 16777216 = true) (h0 : Nat.blt 0 (len * c.sz) = true) (hps : evp (ev L) ps = some vs) (hf : Instr.fill (fun i => some (i * c.sz, c.sz)) ((Array.range (len * c.sz)).map (zs[· % zs.size]!)) vs = some cs) (hll : l.length = len) (hlay : LayL c H l cs.toList) (hd : Nat.blt d n = true)
    (k : ∀ v' xs, LayL c H l xs → Seg P ops Q rest n ((d, v') :: L) H (.row v' e c.sz l.length xs :: O)) :
    Seg P ops Q ({ dst := some d, op := .buildSlice t len ps.toArray, type := T, pos, after := af, guard := none } :: rest) n L H O := by
  refine Seg.buildSl ht hz hzc hlen h0 hps hf ?_ hd fun v' => ?_
  · have := hlay.len; rw [hll] at this; simpa using this
  · have := k v' _ hlay; rwa [hll] at this
theorem Seg.appD {d : Tmp} {pos : String} {af : Array Edge} {s x : Operand} {t e e2 : TypeId} {bytes : Nat} {z v y : Value} {l l2 : List α} {xs ys : List Value} (i j : Nat) (hL : LayL c H l xs) (hL2 : LayL c H l2 ys) (ht : P.underlying t = some (.slice e)) (hz : TI P e c.sz bytes z) (hzs : z.cells.size = c.sz) (h0 : Nat.blt 0 c.sz = true)
    (hs : ev L s = some v) (hx : ev L x = some y) (hi : O[i]? = some (.row v e c.sz l.length xs)) (hj : O[j]? = some (.row y e2 c.sz l2.length ys)) (hb : Nat.ble bytes 64 = true) (hl : l.length + l2.length ≤ capN) (hd : Nat.blt d n = true)
    (k : ∀ v' xs', LayL c H (l ++ l2) xs' → Seg P ops Q rest n ((d, v') :: L) H (O.set i (.row v' e c.sz (l ++ l2).length xs'))) :
    Seg P ops Q ({ dst := some d, op := .call { callee := .builtin .append, args := #[s, x], argTypes := #[t, t] }, type := T, pos, after := af, guard := none } :: rest) n L H O := by
  have hb' := Nat.le_of_ble_eq_true hb
  have hbm : (l.length + l2.length) * bytes ≤ 1099511627776 * 64 := Nat.mul_le_mul hl hb'
  refine Seg.append ht hz hzs (by simpa using h0) hs hx hi (fun w hs => hs.srcRow hj) hL2.one (by omega) (by simp only [capN] at hl; omega) hd fun v' => ?_
  have := k v' _ (hL.app hL2)
  rwa [List.length_append] at this
theorem Seg.appF {d : Tmp} {pos : String} {af : Array Edge} {s x : Operand} {t e : TypeId} {bytes : Nat} {z v y : Value} {l l2 : List α} {xs : List Value} (i : Nat) (hL : LayL c H l xs) (hL2 : SlD c H l2 y) (ht : P.underlying t = some (.slice e)) (hz : TI P e c.sz bytes z) (hzs : z.cells.size = c.sz) (h0 : Nat.blt 0 c.sz = true)
    (hs : ev L s = some v) (hx : ev L x = some y) (hi : O[i]? = some (.row v e c.sz l.length xs)) (hb : Nat.ble bytes 64 = true) (hl : l.length + l2.length ≤ capN) (hd : Nat.blt d n = true)
    (k : ∀ v' xs', LayL c H (l ++ l2) xs' → Seg P ops Q rest n ((d, v') :: L) H (O.set i (.row v' e c.sz (l ++ l2).length xs'))) :
    Seg P ops Q ({ dst := some d, op := .call { callee := .builtin .append, args := #[s, x], argTypes := #[t, t] }, type := T, pos, after := af, guard := none } :: rest) n L H O := by
  have hb' := Nat.le_of_ble_eq_true hb
  have hbm : (l.length + l2.length) * bytes ≤ 1099511627776 * 64 := Nat.mul_le_mul hl hb'
  obtain ⟨⟨ys, g1, g2⟩, _⟩ := hL2
  refine Seg.append ht hz hzs (by simpa using h0) hs hx hi (fun w hs => hs.srcImm g1) g2.one (by omega) (by simp only [capN] at hl; omega) hd fun v' => ?_
  have := k v' _ (hL.app g2)
  rwa [List.length_append] at this
end
end Go.GK
namespace Go.GK
section
variable {P : Program} {Q : Exit → Act → World → Prop} {n : Nat} {L : List (Nat × Value)} {H : Hp} {O : List Res} {ops : Array Oper} {rest : List Oper} {T : TypeId}
variable {α : Type} {c : Cd α}
theorem szRep (n : Nat) (v : Value) : (List.replicate n v).toArray.size = n := by rw [List.size_toArray, List.length_replicate]
theorem SH.rowOne {w : World} (hs : SH w H O) {i size m : Nat} {v : Value} {e : TypeId} {xs : List Value} (hi : O[i]? = some (.row v e size m xs)) : v.oneCell' = true := by
  rcases (hs.rowLen hi).1 with ⟨rfl, _⟩ | ⟨a, cap, rfl⟩ <;> rfl
theorem Seg.rowOne {i size m : Nat} {v : Value} {e : TypeId} {xs : List Value} (hi : O[i]? = some (.row v e size m xs)) (k : v.oneCell' = true → Seg P ops Q rest n L H O) : Seg P ops Q rest n L H O := fun a w hf hs => k (hs.rowOne hi) a w hf hs
theorem Wp.rowOne {c : Code} {i size m : Nat} {v : Value} {e : TypeId} {xs : List Value} (hi : O[i]? = some (.row v e size m xs)) (k : v.oneCell' = true → Wp P c Q n L H O) : Wp P c Q n L H O := fun a w hf hs => k (hs.rowOne hi) a w hf hs
theorem OpS.withOne {op : Op} {E : Operand → Option Value} {R : Value → Hp → List Res → Prop} (r : Nat) (h : OpS P op T E H O R) (hr : ∀ v H' O', R v H' O' → ∃ e size m xs, O'[r]? = some (.row v e size m xs)) : OpS P op T E H O (fun v H' O' => R v H' O' ∧ v.oneCell' = true) :=
  fun a w o next Q h1 h2 h3 h4 h5 => h a w o next Q h1 h2 h3 h4 fun v w' H' O' k1 k2 k3 => by
    obtain ⟨e, size, m, xs, hi⟩ := hr v H' O' k2
    exact h5 v w' H' O' k1 ⟨k2, k3.rowOne hi⟩ k3
theorem LayL.lenA {l : List α} {cs : Array Value} {k : Nat} (h : LayL c H l cs.toList) (hs : cs.size = k) : k = l.length * c.sz := by
  have := h.len; simp at this; omega
theorem Seg.stA {l : List α} {cs : Array Value} {k B : Nat} {pos : String} {af : Array Edge} {px py : Operand} {t e : TypeId} {u z : Value} {bytes : Nat} (q : Nat) (y : α) (i : Int) (hL : LayL c H l cs.toList) (hsz : cs.size = k) (hg : 0 ≤ i ∧ i < (l.length : Nat))
    (hx : ev L px = some (ptr B (i.toNat * 1))) (hy : ev L py = some u) (hu : u.oneCell' = true) (hti : TI P t 1 bytes z) (hi : O[q]? = some (.blk B (.cells cs e (0, 0)))) (hlay : c.Lay H y [u])
    (kk : ∀ cs', (LayL c H (l.set i.toNat y) cs'.toList ∧ cs'.size = k) → Seg P ops Q rest n L H (O.set q (.blk B (.cells cs' e (0, 0))))) :
    Seg P ops Q ({ dst := none, op := .store t px py, type := T, pos, after := af, guard := none } :: rest) n L H O := by
  have h1 : c.sz = 1 := by rw [← c.len hlay]; rfl
  have hlen := hL.len
  rw [h1] at hlen
  simp only [Nat.mul_one] at hx
  have hlt : i.toNat < cs.size := by simp at hlen; omega
  refine Seg.stBlk1 (i := q) hx hy hu hti hi hlt (kk _ ⟨?_, by simp [hsz]⟩)
  have h2 := hL.set (i := i.toNat) (by omega) hlay
  rw [h1, Nat.mul_one, spl_one _ _ _ (by simpa using hlt)] at h2
  simpa using h2
end
/- where a struct's fields lie, closed -/
def placesOf (P : Program) (t : TypeId) : Option (List (Nat × Nat)) :=
  match P.underlying t with
  | some (.struct fs) => fs.toList.mapM fun f => (P.info? f.type).map fun i => (f.offset, i.size)
  | _ => none
theorem run_places {P : Program} : ∀ (l : List Field) (ps : List (Nat × Nat)), (l.mapM fun f => (P.info? f.type).map fun i => (f.offset, i.size)) = some ps →
    ∀ w, (l.mapM fun f => do pure (f.offset, ← Go.sizeOf f.type) : Sem (List (Nat × Nat))).run P w = .ok ps w
  | [], ps, h, w => by simp at h; subst h; simp
  | f :: l, ps, h, w => by
    rw [List.mapM_cons] at h
    cases hi : P.info? f.type with
    | none => simp [hi] at h
    | some i =>
      cases hl : (l.mapM fun f => (P.info? f.type).map fun i => (f.offset, i.size)) with
      | none => simp [hi, hl] at h
      | some qs =>
        simp [hi, hl] at h
        subst h
        have ih := run_places l qs hl w
        have hsz : (Go.sizeOf f.type).run P w = .ok i.size w := by simp [Go.sizeOf, typeInfo, hi]
        rw [List.mapM_cons]
        simp only [Sem.run_bind, hsz, Result.andThen_ok, Sem.run_pure, ih]
def fillC (place : Nat → Option (Nat × Nat)) (cells : Array Value) : List (Nat × Array Value) → Option (Array Value)
  | [] => some cells
  | (i, v) :: rest =>
    match place i with
    | none => none
    | some (off, size) =>
      if v.size ≠ size || off + v.size > cells.size then none
      else fillC place (v.zipIdx.foldl (fun cs (c, j) => cs.setIfInBounds (off + j) c) cells) rest
theorem fill_eq (place : Nat → Option (Nat × Nat)) : ∀ (vs : List (Nat × Value)) (cells : Array Value), Instr.fill place cells vs = fillC place cells (vs.map fun p => (p.1, p.2.cells))
  | [], _ => rfl
  | (i, v) :: rest, cells => by
    simp only [Instr.fill, List.map_cons, fillC]
    cases place i with
    | none => rfl
    | some q =>
      obtain ⟨off, size⟩ := q
      simp only
      split
      · rfl
      · exact fill_eq place rest _
theorem cells1 {v : Value} (h : v.oneCell' = true) : v.cells = #[v] := by cases v <;> simp_all [Value.cells, Value.oneCell']
theorem cellsL {v : Value} (h : v.oneCell' = true) : v.cells.toList = [v] := by rw [cells1 h]
abbrev VC (vs : List (Nat × Value)) (vcs : List (Nat × Array Value)) : Prop := vs.map (fun p => (p.1, p.2.cells)) = vcs
theorem vc_nil : VC [] [] := rfl
theorem vc_cons {i : Nat} {v : Value} {cs : Array Value} {vs : List (Nat × Value)} {vcs : List (Nat × Array Value)} (h : v.cells = cs) (k : VC vs vcs) : VC ((i, v) :: vs) ((i, cs) :: vcs) := by
  unfold VC at *; rw [List.map_cons, k, h]
section
variable {P : Program} {T : TypeId} {E : Operand → Option Value} {H : Hp} {O : List Res}
theorem OpT.buildS {t : TypeId} {size bytes : Nat} {z : Value} {zs cs : Array Value} {ps : List (Nat × Operand)} {vs : List (Nat × Value)} {places : List (Nat × Nat)} (hp : placesOf P t = some places) (hz : TI P t size bytes z) (hzc : z.cells = zs)
    {vcs : List (Nat × Array Value)} (hps : evp E ps = some vs) (hv : VC vs vcs) (hf' : fillC (places[·]?) zs vcs = some cs) : OpT P (.build t ps.toArray) T E H O (.agg cs) := by
  have hf : Instr.fill (places[·]?) zs vs = some cs := by rw [fill_eq, hv]; exact hf'
  unfold placesOf at hp
  split at hp
  · rename_i fs hu
    refine OpT.build (places := places.toArray) hu hz hzc (fun w => ?_) hps (by simpa using hf)
    have h := run_places fs.toList places hp w
    rw [Array.mapM_eq_mapM_toList]
    show ((List.mapM (fun f : Field => (do pure (f.offset, ← Go.sizeOf f.type) : Sem (Nat × Nat))) fs.toList) >>= fun l => pure l.toArray : Sem (Array (Nat × Nat))).run P w = _
    rw [Sem.run_bind, h]
    simp
  · cases hp
theorem OpT.buildA2 {t e : TypeId} {len size bytes esize ebytes : Nat} {z ez : Value} {zs cs : Array Value} {ps : List (Nat × Operand)} {vs : List (Nat × Value)} {vcs : List (Nat × Array Value)} (ht : P.underlying t = some (.array len e)) (hz : TI P t size bytes z) (hze : TI P e esize ebytes ez) (hzc : z.cells = zs)
    (hps : evp E ps = some vs) (hv : VC vs vcs) (hf : fillC (fun i => some (i * esize, esize)) zs vcs = some cs) : OpT P (.build t ps.toArray) T E H O (.agg cs) :=
  OpT.buildA ht hz hze hzc hps (by rw [fill_eq, hv]; exact hf)
end
section
variable {P : Program} {Q : Exit → Act → World → Prop} {n : Nat} {L : List (Nat × Value)} {H : Hp} {O : List Res} {ops : Array Oper} {rest : List Oper} {T : TypeId}
variable {α : Type} {c : Cd α}
theorem Seg.buildDN2 {d : Tmp} {pos : String} {af : Array Edge} {t e : TypeId} {l : List α} {bytes : Nat} {z : Value} {zs cs : Array Value} {ps : List (Nat × Operand)} {vs : List (Nat × Value)} {vcs : List (Nat × Array Value)} {len : Nat} (ht : P.underlying t = some (.slice e)) (hz : TI P e c.sz bytes z) (hzc : z.cells = zs)
    (hlen : Nat.ble (len * c.sz) 16777216 = true) (h0 : Nat.blt 0 (len * c.sz) = true) (hps : evp (ev L) ps = some vs) (hv : VC vs vcs) (hf : fillC (fun i => some (i * c.sz, c.sz)) ((Array.range (len * c.sz)).map (zs[· % zs.size]!)) vcs = some cs) (hll : l.length = len) (hlay : LayL c H l cs.toList) (hd : Nat.blt d n = true)
    (k : ∀ v' xs, LayL c H l xs → Seg P ops Q rest n ((d, v') :: L) H (.row v' e c.sz l.length xs :: O)) :
    Seg P ops Q ({ dst := some d, op := .buildSlice t len ps.toArray, type := T, pos, after := af, guard := none } :: rest) n L H O :=
  Seg.buildDN ht hz hzc hlen h0 hps (by rw [fill_eq, hv]; exact hf) hll hlay hd k
end
end Go.GK
