/- Single words of a set of bytes. -/
import Derived.Test.YtjmbmodmepdmjaaDoorKitNet
namespace Go.GK
theorem wbits0 (a b c d : BitVec 64) : word (bitsOf a b c d) 0 = a := by
  apply BitVec.eq_of_getLsbD_eq; intro j hj; rw [word_bit]; simp [hj, bitsOf]
theorem wbits1 (a b c d : BitVec 64) : word (bitsOf a b c d) 1 = b := by
  apply BitVec.eq_of_getLsbD_eq; intro j hj; rw [word_bit]
  simp only [hj, decide_true, Bool.true_and, bitsOf]
  rw [if_neg (by omega), if_pos (by omega), show 64 * 1 + j - 64 = j by omega]
theorem wbits2 (a b c d : BitVec 64) : word (bitsOf a b c d) 2 = c := by
  apply BitVec.eq_of_getLsbD_eq; intro j hj; rw [word_bit]
  simp only [hj, decide_true, Bool.true_and, bitsOf]
  rw [if_neg (by omega), if_neg (by omega), if_pos (by omega), show 64 * 2 + j - 128 = j by omega]
theorem wbits3 (a b c d : BitVec 64) : word (bitsOf a b c d) 3 = d := by
  apply BitVec.eq_of_getLsbD_eq; intro j hj; rw [word_bit]
  simp only [hj, decide_true, Bool.true_and, bitsOf]
  rw [if_neg (by omega), if_neg (by omega), if_neg (by omega), show 64 * 3 + j - 192 = j by omega]
section
variable {P : Program} {T : TypeId} {E : Operand → Option Value} {H : Hp} {O : List Res} {x y : Operand} {Tx Ty : TypeId}
theorem OpT.shlI {k : IntKind} {a : BitVec 64} {e : Int} (hx : E x = some (w64 a)) (hy : E y = some (.int k e)) (h0 : 0 ≤ e) : OpT P (.binOp .shl Tx x y Ty) T E H O (w64 (a <<< e.toNat)) :=
  OpT.shlW (n := e.toNat) hx (by rw [hy, Int.toNat_of_nonneg h0])
theorem OpT.shrI {k : IntKind} {a : BitVec 64} {e : Int} (hx : E x = some (w64 a)) (hy : E y = some (.int k e)) (h0 : 0 ≤ e) : OpT P (.binOp .shr Tx x y Ty) T E H O (w64 (a >>> e.toNat)) :=
  OpT.shrW (n := e.toNat) hx (by rw [hy, Int.toNat_of_nonneg h0])
theorem intAdd_w (a b : BitVec 64) : IntKind.u64.wrap ((a.toNat : Int) + (b.toNat : Int)) = ((a + b).toNat : Int) := by
  simp [IntKind.wrap, IntKind.signed, IntKind.bits, BitVec.toNat_add]
theorem OpT.addBv {a b : BitVec 64} (hx : E x = some (w64 a)) (hy : E y = some (w64 b)) : OpT P (.binOp .add Tx x y Ty) T E H O (w64 (a + b)) := by
  have h := OpT.addW (P := P) (T := T) (H := H) (O := O) (Tx := Tx) (Ty := Ty) (k := .u64) (m := (a.toNat : Int)) (n := (b.toNat : Int)) hx hy
  rwa [intAdd_w] at h
end

theorem layRx_mkB {H : Hp} {k : Int} {a b c d : BitVec 64} {l : List Rx} {v : Value} (h : SlD cRx H l v) : cRx.Lay H (.mk k (bitsOf a b c d) l) [.int .i64 k, w64 a, w64 b, w64 c, w64 d, v] := by
  have := layRx_mk (k := k) (p := bitsOf a b c d) h
  rwa [wbits0, wbits1, wbits2, wbits3] at this
section
variable {P : Program} {T : TypeId} {E : Operand → Option Value} {H : Hp} {O : List Res} {x : Operand}
theorem OpT.field1 {s i off ft : Nat} {d : TypeDesc} {cs : Array Value} {v : Value} (hF : Fld P s i off ft) (ht : P.underlying ft = some d) (hd : aggB d = false) (hx : E x = some (.agg cs)) (hv : cs[off]? = some v) : OpT P (.field s x i) T E H O v := .of_run fun ac w o ho _ he _ => by
  obtain ⟨fs, f, h1, h2, h3, h4, _⟩ := hF.ex
  subst h3; subst h4
  simp [execOp, ho, he x _ hx, Instr.field, sem_under h1, h2, part, run_isAgg ht, hd, hv, asAgg]
end
/- A slice that is built and at once comes to rest. -/
section
variable {P : Program} {T : TypeId} {E : Operand → Option Value} {H : Hp} {O : List Res} {α : Type} {c : Cd α}
theorem OpS.restF {op : Op} {e : TypeId} {l : List α} {xs : List Value} (h : OpS P op T E H (.emp :: O) (fun v H' O' => H' = H ∧ O' = .row v e c.sz l.length xs :: O)) (hL : LayL c H l xs) : OpS P op T E H O (fun v H' O' => O = O' ∧ SlD c H' l v) :=
  fun a w o next Q ho hT he hw k => h a w o next Q ho hT he (hw.push (World.grownBy.refl w none) trivial (fun b hb => by cases hb)) fun v w' H' O' hle hp hs => by
    obtain ⟨rfl, rfl⟩ := hp
    have hb := hs.rowLe (i := 0) rfl
    obtain ⟨H2, g1, g2, g3⟩ := hs.freeze (i := 0) rfl
    exact k v w' H2 _ (hle.trans g1) ⟨rfl, SlD.of g3 rfl (hL.mono g1) hb⟩ g2
theorem OpS.buildF2 {t e : TypeId} {len bytes : Nat} {z : Value} {zs cs : Array Value} {ps : List (Nat × Operand)} {vs : List (Nat × Value)} {vcs : List (Nat × Array Value)} {l : List α} (ht : P.underlying t = some (.slice e)) (hz : TI P e c.sz bytes z) (hzc : z.cells = zs)
    (hlen : Nat.ble (len * c.sz) 16777216 = true) (h0 : Nat.blt 0 (len * c.sz) = true) (hps : evp E ps = some vs) (hv : VC vs vcs) (hf : fillC (fun i => some (i * c.sz, c.sz)) ((Array.range (len * c.sz)).map (zs[· % zs.size]!)) vcs = some cs) (hcs : cs.size = len * c.sz) (hll : len = l.length) (hL : LayL c H l cs.toList) :
    OpS P (.buildSlice t len ps.toArray) T E H O (fun v H' O' => O = O' ∧ SlD c H' l v) := by
  subst hll
  exact OpS.restF ((OpS.buildR2 (ρ := fun _ => undef) (i := 0) 0 ht hz hzc hlen h0 hps hv hf hcs rfl).mono (by rintro v H' O' ⟨h1, h2, _⟩; exact ⟨h1, h2⟩)) hL
theorem OpS.buildF1 {t e : TypeId} {bytes : Nat} {z v : Value} {cs : List Value} {x : Operand} {y : α} (ht : P.underlying t = some (.slice e)) (hz : TI P e c.sz bytes z) (hlen : Nat.ble c.sz 16777216 = true) (h0 : Nat.blt 0 c.sz = true) (hx : E x = some v) (hc : v.cells.toList = cs) (hcs : cs.length = c.sz) (hL : LayL c H [y] cs) :
    OpS P (.buildSlice t 1 #[(0, x)]) T E H O (fun v H' O' => O = O' ∧ SlD c H' [y] v) :=
  OpS.restF ((OpS.buildR1 (ρ := fun _ => undef) (i := 0) 0 ht hz hlen h0 hx hc hcs rfl).mono (by rintro v H' O' ⟨h1, h2, _⟩; exact ⟨h1, h2⟩)) hL
end
end Go.GK
