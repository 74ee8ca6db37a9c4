/- Operations that make or change memory; calls; how a function is entered and left. -/
import Derived.Test.YtjmbmodmepdmjaaDoorKitOps
namespace Go.GK

theorem grownBy_setRow (w : World) (g : Nat) (cs : Array Value) : w.grownBy (w.setRow g cs) (some g) :=
  ⟨rfl, rfl, rfl, by simp, fun k _ hk => setRow_other w g k cs (fun e => hk (by rw [e]))⟩

/- What lies in a row from 'off' on is turned into 'vs'. -/
def spl (xs : List Value) (off : Nat) (vs : List Value) : List Value := xs.take off ++ vs ++ xs.drop (off + vs.length)
theorem spl_one (xs : List Value) (off : Nat) (v : Value) (h : off < xs.length) : spl xs off [v] = xs.set off v := by
  unfold spl
  rw [List.set_eq_take_append_cons_drop]
  simp [h]
theorem spl_whole (xs vs : List Value) (h : xs.length = vs.length) : spl xs 0 vs = vs := by
  unfold spl; simp [h]
theorem spl_length (xs : List Value) (off : Nat) (vs : List Value) (h : off + vs.length ≤ xs.length) : (spl xs off vs).length = xs.length := by
  unfold spl; simp; omega
theorem spl_take (xs : List Value) (off m : Nat) (vs : List Value) (h : off + vs.length ≤ m) (h2 : m ≤ xs.length) : (spl xs off vs).take m = spl (xs.take m) off vs := by
  unfold spl
  have h1 : (xs.take off ++ vs).length = off + vs.length := by simp; omega
  rw [List.take_append, h1, List.take_of_length_le (by omega), List.take_take, Nat.min_eq_left (by omega), List.drop_take]

theorem storeVar_at {P : Program} {w : World} {t : TypeId} {v : Value} {g off bytes : Nat} {z : Value} {cur : Array Value} {e : TypeId} (hsz : TI P t v.cells.size bytes z) (hg : w.heap[g]? = some (.cells cur e (0, 0))) (hfit : off + v.cells.size ≤ cur.size)
    (h1 : ∀ u ∈ v.cells, u.oneCell' = true) : (storeVar t ⟨g, off, none⟩ v).run P w = .ok () (w.setRow g (spl cur.toList off v.cells.toList).toArray) := by
  have := run_storeCells_at (P := P) g off e v.cells.toList 0 cur w hg (by simpa using hfit) (fun u hu => h1 u (by simpa using hu))
  simp only [Nat.add_zero] at this
  simp [storeVar, hsz.sizeOf, this, spl]

section
variable {P : Program} {Q : Exit → Act → World → Prop} {n : Nat} {L : List (Nat × Value)} {H : Hp} {O : List Res} {ops : Array Oper} {rest : List Oper}
variable {T : TypeId} {E : Operand → Option Value}

theorem OpS.mono {op : Op} {R R' : Value → Hp → List Res → Prop} (h : OpS P op T E H O R) (hr : ∀ v H' O', R v H' O' → R' v H' O') : OpS P op T E H O R' :=
  fun a w o next Q h1 h2 h3 h4 h5 => h a w o next Q h1 h2 h3 h4 fun v w' H' O' g1 g2 g3 => h5 v w' H' O' g1 (hr _ _ _ g2) g3

theorem OpS.of_run {op : Op} {R : Value → Hp → List Res → Prop} (h : ∀ (a : Act) (w : World) (o : Oper), o.op = op → o.type = T → (∀ x u, E x = some u → a.eval x = u) → SH w H O →
    ∃ v w' H' O', (execOp a.eval o).run P w = .ok (.value v) w' ∧ H.le H' ∧ R v H' O' ∧ SH w' H' O') : OpS P op T E H O R := by
  intro a w o next Q h1 h2 h3 h4 h5
  obtain ⟨v, w', H', O', g1, g2, g3, g4⟩ := h a w o h1 h2 h3 h4
  unfold Oper.wp
  rw [g1]
  exact h5 v w' H' O' g2 g3 g4
theorem OpS.of_skip {op : Op} {R : Value → Hp → List Res → Prop} (h : ∀ (a : Act) (w : World) (o : Oper), o.op = op → o.type = T → (∀ x u, E x = some u → a.eval x = u) → SH w H O →
    ∃ w' H' O', (execOp a.eval o).run P w = .ok .skip w' ∧ H.le H' ∧ R undef H' O' ∧ SH w' H' O') : OpS P op T E H O R := by
  intro a w o next Q h1 h2 h3 h4 h5
  obtain ⟨w', H', O', g1, g2, g3, g4⟩ := h a w o h1 h2 h3 h4
  unfold Oper.wp
  rw [g1]
  exact h5 undef w' H' O' g2 g3 g4

/- New memory. -/
theorem Seg.alloc {d : Tmp} {pos : String} {af : Array Edge} {t : TypeId} {size bytes : Nat} {z : Value} {cs : Array Value} (hz : TI P t size bytes z) (hc : z.cells = cs) (hd : Nat.blt d n = true)
    (k : ∀ B, Seg P ops Q rest n ((d, ptr B 0) :: L) H (.blk B (.cells cs t (0, 0)) :: O)) :
    Seg P ops Q ({ dst := some d, op := .alloc t, type := T, pos, after := af, guard := none } :: rest) n L H O := by
  refine Seg.opS (R := fun v H' O' => ∃ B, v = ptr B 0 ∧ H' = H ∧ O' = .blk B (.cells cs t (0, 0)) :: O) (.of_run fun a w o ho _ he hs => ?_) hd ?_
  · refine ⟨_, _, H, _, ?_, Hp.le.refl H, ⟨w.heap.size, rfl, rfl, rfl⟩, hs.alloc _⟩
    subst hc
    simp [execOp, ho, Instr.alloc, hz.zeroValue, newVar, newRow, ptr]
  · rintro v H' O' _ ⟨B, rfl, rfl, rfl⟩
    exact k B
theorem Seg.box {d : Tmp} {pos : String} {af : Array Edge} {t : TypeId} {x : Operand} {v : Value} {cs : Array Value} (hx : ev L x = some v) (hc : v.cells = cs) (hd : Nat.blt d n = true)
    (k : ∀ B, Seg P ops Q rest n ((d, ptr B 0) :: L) H (.blk B (.cells cs t (0, 0)) :: O)) :
    Seg P ops Q ({ dst := some d, op := .box t x, type := T, pos, after := af, guard := none } :: rest) n L H O := by
  refine Seg.opS (R := fun v H' O' => ∃ B, v = ptr B 0 ∧ H' = H ∧ O' = .blk B (.cells cs t (0, 0)) :: O) (.of_run fun a w o ho _ he hs => ?_) hd ?_
  · refine ⟨_, _, H, _, ?_, Hp.le.refl H, ⟨w.heap.size, rfl, rfl, rfl⟩, hs.alloc _⟩
    subst hc
    simp [execOp, ho, he x v hx, Instr.box, newVar, newRow, ptr]
  · rintro v H' O' _ ⟨B, rfl, rfl, rfl⟩
    exact k B

/- Stores. -/
theorem OpS.stBlk {x y : Operand} {t : TypeId} {v z : Value} {i B off bytes size : Nat} {cs : Array Value} {e : TypeId} {vs : List Value} (hx : E x = some (ptr B off)) (hy : E y = some v) (hv : v.cells.toList = vs) (hsz : TI P t size bytes z) (hs : vs.length = size)
    (h1 : ∀ u ∈ vs, u.oneCell' = true) (hi : O[i]? = some (.blk B (.cells cs e (0, 0)))) (hfit : off + vs.length ≤ cs.size) :
    OpS P (.store t x y) T E H O (fun _ H' O' => H' = H ∧ O' = O.set i (.blk B (.cells (spl cs.toList off vs).toArray e (0, 0)))) := .of_skip fun a w o ho _ he hw => by
  have hg := hw.ok i _ hi
  simp only [Res.ok] at hg
  have hsize : v.cells.size = vs.length := by rw [← hv]; simp
  have hst := storeVar_at (P := P) (w := w) (t := t) (v := v) (g := B) (off := off) (e := e) (by rw [hsize, hs]; exact hsz) hg (by omega) (fun u hu => h1 u (by rw [← hv]; simpa using hu))
  simp only [ptr] at hx
  rw [hv] at hst
  refine ⟨_, H, _, ?_, Hp.le.refl H, ⟨rfl, rfl⟩, hw.set hi (grownBy_setRow w B _) (setRow_heap w B cs _ e _ hg) (fun b hb => .inl hb)⟩
  simp [execOp, ho, he x _ hx, he y _ hy, Instr.storeAt, Instr.sureAddr, hst]

theorem Seg.stBlk {pos : String} {af : Array Edge} {x y : Operand} {t : TypeId} {v z : Value} {i B off bytes size : Nat} {cs cs' : Array Value} {e : TypeId} {vs : List Value} (hx : ev L x = some (ptr B off)) (hy : ev L y = some v) (hv : v.cells.toList = vs) (hsz : TI P t size bytes z) (hs : vs.length = size)
    (h1 : ∀ u ∈ vs, u.oneCell' = true) (hi : O[i]? = some (.blk B (.cells cs e (0, 0)))) (hfit : off + vs.length ≤ cs.size) (hcs : (spl cs.toList off vs).toArray = cs')
    (k : Seg P ops Q rest n L H (O.set i (.blk B (.cells cs' e (0, 0))))) :
    Seg P ops Q ({ dst := none, op := .store t x y, type := T, pos, after := af, guard := none } :: rest) n L H O :=
  Seg.opS0 (OpS.stBlk hx hy hv hsz hs h1 hi hfit) (by rintro v H' O' _ ⟨rfl, rfl⟩; subst hcs; exact k)
/- the whole of a block -/
theorem Seg.stBlkW {pos : String} {af : Array Edge} {x y : Operand} {t : TypeId} {z : Value} {i B bytes size : Nat} {cs cs' : Array Value} {e : TypeId} (hx : ev L x = some (ptr B 0)) (hy : ev L y = some (.agg cs')) (hsz : TI P t size bytes z) (hs : cs'.size = size) (hs' : cs.size = size)
    (h1 : ∀ u ∈ cs', u.oneCell' = true) (hi : O[i]? = some (.blk B (.cells cs e (0, 0))))
    (k : Seg P ops Q rest n L H (O.set i (.blk B (.cells cs' e (0, 0))))) :
    Seg P ops Q ({ dst := none, op := .store t x y, type := T, pos, after := af, guard := none } :: rest) n L H O :=
  Seg.stBlk hx hy rfl hsz (by simpa [Value.cells] using hs) (fun u hu => h1 u (by simpa [Value.cells] using hu)) hi (by simp [Value.cells, hs, hs']) (by rw [spl_whole _ _ (by simp [Value.cells, hs, hs'])]; simp [Value.cells]) k
/- one cell -/
theorem Seg.stBlk1 {pos : String} {af : Array Edge} {x y : Operand} {t : TypeId} {v z : Value} {i B off bytes : Nat} {cs : Array Value} {e : TypeId} (hx : ev L x = some (ptr B off)) (hy : ev L y = some v) (hv : v.oneCell' = true) (hsz : TI P t 1 bytes z)
    (hi : O[i]? = some (.blk B (.cells cs e (0, 0)))) (hfit : off < cs.size)
    (k : Seg P ops Q rest n L H (O.set i (.blk B (.cells (cs.setIfInBounds off v) e (0, 0))))) :
    Seg P ops Q ({ dst := none, op := .store t x y, type := T, pos, after := af, guard := none } :: rest) n L H O := by
  have hc : v.cells.toList = [v] := by cases v <;> simp_all [Value.cells, Value.oneCell']
  refine Seg.stBlk hx hy hc hsz rfl (fun u hu => by simp at hu; subst hu; exact hv) hi (by simp; omega) ?_ k
  rw [spl_one _ _ _ (by simpa using hfit)]
  rw [← Array.toList_setIfInBounds]

theorem OpS.stRow {x y : Operand} {t : TypeId} {v u z : Value} {i m size k bytes sz : Nat} {xs : List Value} {e : TypeId} {vs : List Value} (hx : E x = some (elemPtr v k)) (hy : E y = some u) (hv : u.cells.toList = vs) (hsz : TI P t sz bytes z) (hs : vs.length = sz) (h0 : 0 < sz)
    (h1 : ∀ u ∈ vs, u.oneCell' = true) (hi : O[i]? = some (.row v e size m xs)) (hfit : k + vs.length ≤ xs.length) :
    OpS P (.store t x y) T E H O (fun _ H' O' => H' = H ∧ O' = O.set i (.row v e size m (spl xs k vs))) := .of_skip fun a w o ho _ he hw => by
  have hok := hw.ok i _ hi
  simp only [Res.ok] at hok
  rcases hok.2 with ⟨rfl, rfl⟩ | ⟨g, cap, cur, rfl, hb, hg, hn, hm, hcs, htake⟩
  · have : xs = [] := List.eq_nil_of_length_eq_zero (by simpa using hok.1)
    subst this; simp at hfit; simp [hfit] at hs; omega
  · have hsize : u.cells.size = vs.length := by rw [← hv]; simp
    have hmn : m * size ≤ cur.size := by rw [hcs]; exact Nat.mul_le_mul_right _ hn
    have hfit' : k + vs.length ≤ m * size := by rw [← hok.1]; exact hfit
    have hst := storeVar_at (P := P) (w := w) (t := t) (v := u) (g := g) (off := k) (e := e) (by rw [hsize, hs]; exact hsz) hg (by omega) (fun u hu => h1 u (by rw [← hv]; simpa using hu))
    rw [hv] at hst
    simp only [elemPtr, Addr.add_lit, Nat.zero_add] at hx
    refine ⟨_, H, _, ?_, Hp.le.refl H, ⟨rfl, rfl⟩, hw.set hi (grownBy_setRow w g (spl cur.toList k vs).toArray) (r' := .row (.slice (some ⟨g, 0, none⟩) m cap) e size m (spl xs k vs)) ?_ (fun b hb => .inl hb)⟩
    · simp [execOp, ho, he x _ hx, he y _ hy, Instr.storeAt, Instr.sureAddr, hst]
    · refine ⟨by rw [spl_length _ _ _ hfit]; exact hok.1, .inr ⟨g, cap, _, rfl, hb, setRow_heap w g cur _ e _ hg, hn, hm, ?_, ?_⟩⟩
      · simp only [List.size_toArray]; rw [spl_length _ _ _ (by simp; omega)]; simpa using hcs
      · show (spl cur.toList k vs).take (m * size) = _
        rw [spl_take _ _ _ _ hfit' (by simpa using hmn), htake]
theorem Seg.stRow {pos : String} {af : Array Edge} {x y : Operand} {t : TypeId} {v u z : Value} {i m size k bytes sz : Nat} {xs : List Value} {e : TypeId} {vs : List Value} (hx : ev L x = some (elemPtr v k)) (hy : ev L y = some u) (hv : u.cells.toList = vs) (hsz : TI P t sz bytes z) (hs : vs.length = sz) (h0 : 0 < sz)
    (h1 : ∀ u ∈ vs, u.oneCell' = true) (hi : O[i]? = some (.row v e size m xs)) (hfit : k + vs.length ≤ xs.length)
    (kk : Seg P ops Q rest n L H (O.set i (.row v e size m (spl xs k vs)))) :
    Seg P ops Q ({ dst := none, op := .store t x y, type := T, pos, after := af, guard := none } :: rest) n L H O :=
  Seg.opS0 (OpS.stRow hx hy hv hsz hs h0 h1 hi hfit) (by rintro v H' O' _ ⟨rfl, rfl⟩; exact kk)
theorem Seg.stRow1 {pos : String} {af : Array Edge} {x y : Operand} {t : TypeId} {v u z : Value} {i m size k bytes : Nat} {xs : List Value} {e : TypeId} (hx : ev L x = some (elemPtr v k)) (hy : ev L y = some u) (hv : u.oneCell' = true) (hsz : TI P t 1 bytes z)
    (hi : O[i]? = some (.row v e size m xs)) (hfit : k < xs.length)
    (kk : Seg P ops Q rest n L H (O.set i (.row v e size m (xs.set k u)))) :
    Seg P ops Q ({ dst := none, op := .store t x y, type := T, pos, after := af, guard := none } :: rest) n L H O := by
  have hc : u.cells.toList = [u] := by cases u <;> simp_all [Value.cells, Value.oneCell']
  refine Seg.stRow hx hy hc hsz rfl (by decide) (fun w hu => by simp at hu; subst hu; exact hv) hi (by simp; omega) ?_
  rw [spl_one _ _ _ hfit]; exact kk

/- Resources given up, dropped, put in another order. -/
theorem Seg.freeze {i m size : Nat} {v : Value} {e : TypeId} {xs : List Value} (hi : O[i]? = some (.row v e size m xs)) (k : ∀ H', H.le H' → Sl H' v size m xs → Seg P ops Q rest n L H' (O.eraseIdx i)) : Seg P ops Q rest n L H O := fun a w hf hs => by
  obtain ⟨H', h1, h2, h3⟩ := hs.freeze hi
  exact k H' h1 h3 a w hf h2
theorem Seg.drop {i : Nat} (k : Seg P ops Q rest n L H (O.eraseIdx i)) : Seg P ops Q rest n L H O := fun a w hf hs => k a w hf (hs.drop i)
theorem At.freeze {e' : Exit} {i m size : Nat} {v : Value} {e : TypeId} {xs : List Value} (hi : O[i]? = some (.row v e size m xs)) (k : ∀ H', H.le H' → Sl H' v size m xs → At Q e' n L H' (O.eraseIdx i)) : At Q e' n L H O := fun a w hf hs => by
  obtain ⟨H', h1, h2, h3⟩ := hs.freeze hi
  exact k H' h1 h3 a w hf h2
theorem At.drop {e' : Exit} {i : Nat} (k : At Q e' n L H (O.eraseIdx i)) : At Q e' n L H O := fun a w hf hs => k a w hf (hs.drop i)
theorem At.suffix {e' : Exit} {O1 O2 : List Res} (k : At Q e' n L H O2) : At Q e' n L H (O1 ++ O2) := fun a w hf hs =>
  k a w hf (hs.pick (fun i => O1.length + i) (fun i r hr => by rw [List.getElem?_append_right (by omega)]; simpa using hr) (fun i j _ _ h => by omega))
theorem Wp.freeze {c : Code} {i m size : Nat} {v : Value} {e : TypeId} {xs : List Value} (hi : O[i]? = some (.row v e size m xs)) (k : ∀ H', H.le H' → Sl H' v size m xs → Wp P c Q n L H' (O.eraseIdx i)) : Wp P c Q n L H O := fun a w hf hs => by
  obtain ⟨H', h1, h2, h3⟩ := hs.freeze hi
  exact k H' h1 h3 a w hf h2
theorem Wp.drop {c : Code} {i : Nat} (k : Wp P c Q n L H (O.eraseIdx i)) : Wp P c Q n L H O := fun a w hf hs => k a w hf (hs.drop i)
/- A nil slice is a row. -/
theorem SH.nilRow {w : World} (hs : SH w H O) (e : TypeId) (size : Nat) : SH w H (.row (.slice none 0 0) e size 0 [] :: O) :=
  hs.push (World.grownBy.refl w none) (World.ownsRow_nil w 0 e size) (fun b hb => by simp [Res.block, Value.ownBlock] at hb)
theorem Wp.nilRow {c : Code} (e : TypeId) (size : Nat) (k : Wp P c Q n L H (.row (.slice none 0 0) e size 0 [] :: O)) : Wp P c Q n L H O := fun a w hf hs => k a w hf (hs.nilRow e size)
theorem Seg.nilRow (e : TypeId) (size : Nat) (k : Seg P ops Q rest n L H (.row (.slice none 0 0) e size 0 [] :: O)) : Seg P ops Q rest n L H O := fun a w hf hs => k a w hf (hs.nilRow e size)

/- A slice literal. -/
def evp (E : Operand → Option Value) : List (Nat × Operand) → Option (List (Nat × Value))
  | [] => some []
  | (i, x) :: r => match E x, evp E r with
    | some v, some vs => some ((i, v) :: vs)
    | _, _ => none
theorem evp_spec {E : Operand → Option Value} {a : Act} (he : ∀ x u, E x = some u → a.eval x = u) : ∀ {ps : List (Nat × Operand)} {vs : List (Nat × Value)}, evp E ps = some vs → ps.map (fun p => (p.1, a.eval p.2)) = vs
  | [], vs, h => by simpa [evp] using h
  | (i, x) :: r, vs, h => by
    simp only [evp] at h
    cases h1 : E x with
    | none => simp [h1] at h
    | some v =>
      cases h2 : evp E r with
      | none => simp [h1, h2] at h
      | some us =>
        simp [h1, h2] at h
        subst h
        simp [he x v h1]
        have := evp_spec he h2
        simpa using this
theorem OpT.build {t : TypeId} {size bytes : Nat} {z : Value} {fs : Array Field} {zs cs : Array Value} {ps : List (Nat × Operand)} {vs : List (Nat × Value)} {places : Array (Nat × Nat)} (ht : P.underlying t = some (.struct fs)) (hz : TI P t size bytes z) (hzc : z.cells = zs)
    (hp : ∀ w, (fs.mapM fun f => do pure (f.offset, ← Go.sizeOf f.type) : Sem (Array (Nat × Nat))).run P w = .ok places w) (hps : evp E ps = some vs) (hf : Instr.fill (places[·]?) zs vs = some cs) : OpT P (.build t ps.toArray) T E H O (.agg cs) := .of_run fun a w o ho _ he _ => by
  have h1 : (ps.toArray.map fun (i, x) => (i, a.eval x)).toList = vs := by simpa using evp_spec he hps
  simp only [execOp, ho, Instr.build, Sem.run_bind, hz.zeroValue, Result.andThen_ok, sem_under ht, hzc]
  rw [hp w]
  simp only [Result.andThen_ok, h1, hf]
  rfl
theorem OpT.buildA {t e : TypeId} {len size bytes esize ebytes : Nat} {z ez : Value} {zs cs : Array Value} {ps : List (Nat × Operand)} {vs : List (Nat × Value)} (ht : P.underlying t = some (.array len e)) (hz : TI P t size bytes z) (hze : TI P e esize ebytes ez) (hzc : z.cells = zs)
    (hps : evp E ps = some vs) (hf : Instr.fill (fun i => some (i * esize, esize)) zs vs = some cs) : OpT P (.build t ps.toArray) T E H O (.agg cs) := .of_run fun a w o ho _ he _ => by
  have h1 : (ps.toArray.map fun (i, x) => (i, a.eval x)).toList = vs := by simpa using evp_spec he hps
  simp only [execOp, ho, Instr.build, Sem.run_bind, hz.zeroValue, Result.andThen_ok, sem_under ht, hzc, hze.sizeOf, h1, hf]
  rfl
theorem Seg.buildSl {d : Tmp} {pos : String} {af : Array Edge} {t e : TypeId} {len size bytes : Nat} {z : Value} {zs cs : Array Value} {ps : List (Nat × Operand)} {vs : List (Nat × Value)} (ht : P.underlying t = some (.slice e)) (hz : TI P e size bytes z) (hzc : z.cells = zs)
    (hlen : Nat.ble (len * size) 16777216 = true) (h0 : Nat.blt 0 (len * size) = true) (hps : evp (ev L) ps = some vs) (hf : Instr.fill (fun i => some (i * size, size)) ((Array.range (len * size)).map (zs[· % zs.size]!)) vs = some cs) (hcs : cs.size = len * size) (hd : Nat.blt d n = true)
    (k : ∀ v, Seg P ops Q rest n ((d, v) :: L) H (.row v e size len cs.toList :: O)) :
    Seg P ops Q ({ dst := some d, op := .buildSlice t len ps.toArray, type := T, pos, after := af, guard := none } :: rest) n L H O := by
  refine Seg.opS (R := fun v H' O' => H' = H ∧ O' = .row v e size len cs.toList :: O) (.of_run fun a w o ho _ he hs => ?_) hd ?_
  · have h1 : (ps.toArray.map fun (i, x) => (i, a.eval x)).toList = vs := by simpa using evp_spec he hps
    have hlen' : ¬ len * size > 2 ^ 24 := by have := Nat.le_of_ble_eq_true hlen; omega
    have h0' : ¬ len * size = 0 := by simp at h0; omega
    refine ⟨.slice (some ⟨w.heap.size, 0, none⟩) len len, w.alloc (.cells cs e), H, _, ?_, Hp.le.refl H, ⟨rfl, rfl⟩, hs.push (World.grownBy_alloc w _ none) ?_ (fun b hb => by simp [Res.block, Value.ownBlock] at hb; omega)⟩
    · simp only [execOp, ho, Instr.buildSlice, Sem.run_bind, sem_under ht, Result.andThen_ok, hz.sizeOf, if_neg hlen', if_neg h0', hz.zeroValue, hzc, Sem.run_pure, h1, hf]
      simp [newRow]
    · refine ⟨by simpa using hcs, .inr ⟨w.heap.size, len, cs, rfl, Nat.zero_le _, heap_alloc_new w _, Nat.le_refl _, ?_, hcs, ?_⟩⟩
      · have h2 := Nat.le_of_ble_eq_true hlen
        have h3 : len ≤ len * size := Nat.le_mul_of_pos_right _ (Nat.pos_of_ne_zero fun h => by subst h; simp at h0')
        simp only [maxLen]; omega
      · rw [List.take_of_length_le]; simp [hcs]
  · rintro v H' O' _ ⟨rfl, rfl⟩
    exact k v

theorem foldl_set (l : List Value) : ∀ (k : Nat) (acc : Array Value) (i : Nat), ((l.zipIdx k).foldl (fun cs (p : Value × Nat) => cs.setIfInBounds p.2 p.1) acc)[i]? = if k ≤ i ∧ i < k + l.length ∧ i < acc.size then l[i - k]? else acc[i]? := by
  induction l with
  | nil => intro k acc i; simp; intro h1 h2; omega
  | cons v l ih =>
    intro k acc i
    rw [List.zipIdx_cons, List.foldl_cons, ih (k + 1) (acc.setIfInBounds k v) i]
    simp only [Array.size_setIfInBounds, Array.getElem?_setIfInBounds, List.length_cons]
    by_cases h1 : k = i
    · subst h1
      by_cases h2 : k < acc.size
      · have e1 : ¬ (k + 1 ≤ k) := by omega
        have e2 : k < k + (l.length + 1) := by omega
        simp [e1, h2, e2]
      · have e1 : ¬ (k + 1 ≤ k) := by omega
        simp [e1, h2]
    · by_cases h2 : k ≤ i
      · have e1 : k + 1 ≤ i := by omega
        have e3 : (i < k + 1 + l.length) ↔ (i < k + (l.length + 1)) := by omega
        have e4 : i - k = (i - (k + 1)) + 1 := by omega
        simp only [e1, h2, true_and, e3, h1, if_false, e4, List.getElem?_cons_succ]
      · have e1 : ¬ (k + 1 ≤ i) := by omega
        simp [e1, h2, h1]
theorem fill_one {size : Nat} {zs : Array Value} {v : Value} (hz : zs.size = size) (hv : v.cells.size = size) : Instr.fill (fun i => some (i * size, size)) zs [(0, v)] = some v.cells := by
  have hc : ¬ (v.cells.size ≠ size ∨ 0 * size + v.cells.size > zs.size) := by rw [hv, hz]; simp
  have h2 : (v.cells.size ≠ size || decide (0 * size + v.cells.size > zs.size)) = false := by simp [hv, hz]
  simp only [Instr.fill, h2]
  simp only [Bool.false_eq_true, if_false, Option.some.injEq]
  apply Array.ext_getElem?
  intro i
  have h3 := foldl_set v.cells.toList 0 zs i
  have h4 : (v.cells.zipIdx.foldl (fun cs (x : Value × Nat) => match x with | (c, j) => cs.setIfInBounds (0 * size + j) c) zs) = ((v.cells.toList.zipIdx 0).foldl (fun cs (p : Value × Nat) => cs.setIfInBounds p.2 p.1) zs) := by
    rw [← Array.foldl_toList, Array.toList_zipIdx]
    simp
  rw [h4, h3]
  simp only [Nat.zero_le, true_and, Nat.zero_add, Array.length_toList, hv, hz, Nat.sub_zero, and_self]
  split
  · simp
  · rw [Array.getElem?_eq_none (by omega), Array.getElem?_eq_none (by omega)]
theorem Seg.buildSl1 {d : Tmp} {pos : String} {af : Array Edge} {t e : TypeId} {size bytes : Nat} {z v : Value} {cs : Array Value} {x : Operand} (ht : P.underlying t = some (.slice e)) (hz : TI P e size bytes z)
    (hlen : Nat.ble size 16777216 = true) (h0 : Nat.blt 0 size = true) (hx : ev L x = some v) (hc : v.cells = cs) (hcs : cs.size = size) (hd : Nat.blt d n = true)
    (k : ∀ v', Seg P ops Q rest n ((d, v') :: L) H (.row v' e size 1 cs.toList :: O)) :
    Seg P ops Q ({ dst := some d, op := .buildSlice t 1 #[(0, x)], type := T, pos, after := af, guard := none } :: rest) n L H O := by
  refine Seg.buildSl (zs := z.cells) (cs := cs) (vs := [(0, v)]) (ps := [(0, x)]) ht hz rfl (by simpa using hlen) (by simpa using h0) (by simp [evp, hx]) ?_ (by simpa using hcs) hd k
  rw [← hc]
  exact fill_one (by simp) (by rw [hc, hcs])

/- Appending. -/
def Src (w : World) (x : Value) (size m : Nat) (news : List Value) : Prop :=
  news.length = m * size ∧ ((x = .slice none 0 0 ∧ m = 0) ∨ ∃ ad c, x = .slice (some ad) m c ∧ ∀ j u, news[j]? = some u → w.cell? (ad.add j) = some u)
theorem SH.srcRow {w : World} (hs : SH w H O) {i m size : Nat} {v : Value} {e : TypeId} {xs : List Value} (hi : O[i]? = some (.row v e size m xs)) : Src w v size m xs := by
  have h := hs.ok i _ hi
  simp only [Res.ok] at h
  refine ⟨h.1, ?_⟩
  rcases h.2 with ⟨rfl, rfl⟩ | ⟨g, cap, cur, rfl, _⟩
  · exact .inl ⟨rfl, rfl⟩
  · exact .inr ⟨_, _, rfl, h.cells (g := g) rfl⟩
theorem SH.srcImm {w : World} (hs : SH w H O) {m size : Nat} {v : Value} {xs : List Value} (hl : Sl H v size m xs) : Src w v size m xs := by
  refine ⟨hl.len, ?_⟩
  rcases hl.sl with ⟨rfl, rfl⟩ | ⟨a, cap, rfl⟩
  · exact .inl ⟨rfl, rfl⟩
  · refine .inr ⟨_, _, rfl, fun j u hj => ?_⟩
    obtain ⟨a', h1, h2⟩ := (hl.cells j u hj).cell hs
    simp only [elemPtr, Value.pointer.injEq, Option.some.injEq] at h1
    rw [h1]; exact h2
theorem OpS.append {s x : Operand} {t e : TypeId} {size bytes : Nat} {z : Value} {v y : Value} {i m m' : Nat} {xs news : List Value} (ht : P.underlying t = some (.slice e)) (hz : TI P e size bytes z) (hzs : z.cells.size = size) (h0 : 0 < size) (hs : E s = some v) (hx : E x = some y)
    (hi : O[i]? = some (.row v e size m xs)) (hsrc : ∀ w, SH w H O → Src w y size m' news) (h1 : ∀ u ∈ news, u.oneCell' = true) (hb : (m + m') * bytes ≤ 140737488355328) (hl : m + m' ≤ 140737488355328) :
    OpS P (.call { callee := .builtin .append, args := #[s, x], argTypes := #[t, t] }) T E H O (fun v' H' O' => H' = H ∧ O' = O.set i (.row v' e size (m + m') (xs ++ news))) := by
  intro a w o next Q ho hT he hw k
  have hown := hw.ok i _ hi
  simp only [Res.ok] at hown
  obtain ⟨ii, hii, g1, g2, g3⟩ := hz.ex
  have key : ∀ v' w', w'.ownsRow 0 e size v' (m + m') (xs ++ news) → w.grownBy w' v.ownBlock → (v'.ownBlock = v.ownBlock ∨ ∀ b, v'.ownBlock = some b → w.heap.size ≤ b) → next (a.put o.dst v') w' := fun v' w' k1 k2 k3 =>
    k v' w' H _ (Hp.le.refl H) ⟨rfl, rfl⟩ (hw.set hi k2 k1 (fun b hb => by
      rcases k3 with k3 | k3
      · left; rw [Res.block] at hb ⊢; rw [← k3]; exact hb
      · exact .inr (k3 b hb)))
  obtain ⟨hlen, hsrc⟩ := hsrc w hw
  rcases hsrc with ⟨rfl, rfl⟩ | ⟨ad, c, rfl, hcells⟩
  · have hn : news = [] := List.eq_nil_of_length_eq_zero (by simpa using hlen)
    subst hn
    have hrun := run_append_owned_none (P := P) (w := w) 0 t o.type e ii size ht hii v m xs hown
    unfold Oper.wp
    simp [execOp, ho, resolve, invoke, builtin, he s _ hs, he x _ hx, hrun, Result.andThen]
    exact key v w (by simpa using hown) (World.grownBy.refl _ _) (.inl rfl)
  · obtain ⟨v', w', hr, k1, k2, k3⟩ := run_append_own (P := P) w 0 t o.type e ii z size bytes ht hii g3 g1 g2 hzs h0 v m xs hown ad m' c news hlen hcells h1 (by simp only [maxLen]; omega) hb (Nat.zero_le _)
    unfold Oper.wp
    simp [execOp, ho, resolve, invoke, builtin, he s _ hs, he x _ hx, hr, Result.andThen]
    refine key v' w' k1 k2 ?_
    subst g1
    rcases hown.2 with ⟨rfl, rfl⟩ | ⟨g, cap, cur, rfl, _, hg, hnc, _, hcs, htake⟩
    · right
      have hx0 : xs = [] := List.eq_nil_of_length_eq_zero (by simpa using hown.1)
      subst hx0
      obtain ⟨v2, w2, hr2, q1, _, _⟩ := run_append_own (P := P) w w.heap.size t o.type e ii z ii.size bytes ht hii g3 rfl g2 hzs h0 (.slice none 0 0) 0 [] (World.ownsRow_nil w _ e _) ad m' c news hlen hcells h1 (by simp only [maxLen]; omega) hb (Nat.le_refl _)
      rw [hr] at hr2
      injection hr2 with e1 e2
      subst e1; subst e2
      exact fun b hb => (World.ownsRow.lt q1 b hb).1
    · by_cases hroom : m + m' ≤ cap
      · left
        have hfit : m * ii.size + news.length ≤ cur.size := by rw [hlen, hcs, ← Nat.add_mul]; exact Nat.mul_le_mul_right _ hroom
        have hr2 := run_append_room (P := P) w t o.type e ii ht hii g m cap cur hg ad m' c news hlen hcells h1 hroom hfit
        rw [hr] at hr2
        injection hr2 with e1 e2
        rw [e1]; rfl
      · right
        have hr2 := run_append_grow (P := P) w t o.type e ii z ht hii g3 ⟨g, 0, none⟩ m cap xs hown.1 (hown.cells (g := g) rfl) ad m' c news hlen hcells (by omega) (by omega) (growslice_fits (by omega) (by rw [g2]; exact hb))
        rw [hr] at hr2
        injection hr2 with e1 e2
        intro b hb
        rw [e1] at hb
        simp [Value.ownBlock] at hb
        omega
theorem Seg.append {d : Tmp} {pos : String} {af : Array Edge} {s x : Operand} {t e : TypeId} {size bytes : Nat} {z : Value} {v y : Value} {i m m' : Nat} {xs news : List Value} (ht : P.underlying t = some (.slice e)) (hz : TI P e size bytes z) (hzs : z.cells.size = size) (h0 : 0 < size) (hs : ev L s = some v) (hx : ev L x = some y)
    (hi : O[i]? = some (.row v e size m xs)) (hsrc : ∀ w, SH w H O → Src w y size m' news) (h1 : ∀ u ∈ news, u.oneCell' = true) (hb : (m + m') * bytes ≤ 140737488355328) (hl : m + m' ≤ 140737488355328) (hd : Nat.blt d n = true)
    (k : ∀ v', Seg P ops Q rest n ((d, v') :: L) H (O.set i (.row v' e size (m + m') (xs ++ news)))) :
    Seg P ops Q ({ dst := some d, op := .call { callee := .builtin .append, args := #[s, x], argTypes := #[t, t] }, type := T, pos, after := af, guard := none } :: rest) n L H O :=
  Seg.opS (OpS.append ht hz hzs h0 hs hx hi hsrc h1 hb hl) hd (by rintro v' H' O' _ ⟨rfl, rfl⟩; exact k v')

/- make([]T, m) -/
theorem madeCells_one (z : Value) (hz : z.cells.size = 1) (m : Nat) : (madeCells z.cells (m * 1)).toList = List.replicate m z.cells[0]! := by
  apply List.ext_getElem
  · simp [madeCells]
  · intro i h1 h2
    simp [madeCells, hz, Nat.mod_one]
theorem Seg.make {d : Tmp} {pos : String} {af : Array Edge} {l c : Operand} {t e : TypeId} {size bytes : Nat} {z : Value} {kl kc : IntKind} {m : Nat} (ht : P.underlying t = some (.slice e)) (hz : TI P e size bytes z) (hl : ev L l = some (.int kl (m : Int))) (hc : ev L c = some (.int kc (m : Int)))
    (hb : bytes * m ≤ 281474976710656) (hm : m ≤ 140737488355328) (hd : Nat.blt d n = true)
    (k : ∀ v, Seg P ops Q rest n ((d, v) :: L) H (.row v e size m (madeCells z.cells (m * size)).toList :: O)) :
    Seg P ops Q ({ dst := some d, op := .makeSlice t l c, type := T, pos, after := af, guard := none } :: rest) n L H O := by
  refine Seg.opS (R := fun v H' O' => H' = H ∧ O' = .row v e size m (madeCells z.cells (m * size)).toList :: O) (.of_run fun a w o ho _ he hs => ?_) hd ?_
  · obtain ⟨i, hi, g1, g2, g3⟩ := hz.ex
    obtain ⟨w', hr, k1, k2⟩ := run_make_full (P := P) (w := w) 0 t e i z size ht hi g3 g1 kl kc m (by rw [g2]; exact hb) (by simp only [maxLen]; omega) (Nat.zero_le _)
    refine ⟨_, w', H, _, ?_, Hp.le.refl H, ⟨rfl, rfl⟩, hs.push k2 k1 (fun b hb => by simp [Res.block, Value.ownBlock] at hb; omega)⟩
    simp [execOp, ho, he l _ hl, he c _ hc, hr]
  · rintro v H' O' _ ⟨rfl, rfl⟩
    exact k v

/- Calls. -/
structure Ent (P : Program) (f : FuncId) : Prop where
  ex : ∃ fn, P.funcs[f]? = some fn ∧ (fn.name == "runtime.NumGoroutine") = false ∧ fn.body.isNone = false
theorem Ent.run {f : FuncId} (h : Ent P f) (args : Array Value) (w : World) : (callFunc f args).run P w = .ok (.enter f args) w := by
  obtain ⟨fn, h1, h2, h3⟩ := h.ex
  have h2' : ¬ fn.name = "runtime.NumGoroutine" := by simpa using h2
  have h3' : ¬ fn.body = none := fun h => by simp [h] at h3
  simp [callFunc, h1, h2', h3']
def evlE (E : Operand → Option Value) : List Operand → Option (List Value)
  | [] => some []
  | x :: xs => match E x, evlE E xs with
    | some v, some vs => some (v :: vs)
    | _, _ => none
theorem evlE_spec {a : Act} (he : ∀ x u, E x = some u → a.eval x = u) : ∀ {xs : List Operand} {vs : List Value}, evlE E xs = some vs → xs.map a.eval = vs
  | [], vs, hx => by simpa [evlE] using hx
  | x :: xs, vs, hx => by
    simp only [evlE] at hx
    cases h1 : E x with
    | none => simp [h1] at hx
    | some v =>
      cases h2 : evlE E xs with
      | none => simp [h1, h2] at hx
      | some us =>
        simp [h1, h2] at hx
        subst hx
        simp [he x v h1, evlE_spec he h2]

def Ret (H : Hp) (R : Value → Hp → List Res → Prop) (e : Ending) (w' : World) : Prop := ∃ v H' O', e = .returned v ∧ H.le H' ∧ SH w' H' O' ∧ R v H' O'
def Tri (P : Program) (f : FuncId) (args : List Value) (H : Hp) (O : List Res) (R : Value → Hp → List Res → Prop) : Prop :=
  ∀ w, SH w H O → Calls P f args.toArray w (Ret H R)
/- It returns one value, and what stays and what is owned are as they were. -/
def TriV (P : Program) (f : FuncId) (args : List Value) (H : Hp) (O : List Res) (v : Value) : Prop :=
  ∀ w, SH w H O → Calls P f args.toArray w fun e w' => e = .returned v ∧ SH w' H O

theorem Tri.mono {f : FuncId} {args : List Value} {R R' : Value → Hp → List Res → Prop} (h : Tri P f args H O R) (hr : ∀ v H' O', H.le H' → R v H' O' → R' v H' O') : Tri P f args H O R' := fun w hs =>
  (h w hs).mono fun _ _ ⟨v, H', O', h1, h2, h3, h4⟩ => ⟨v, H', O', h1, h2, h3, hr _ _ _ h2 h4⟩
theorem TriV.tri {f : FuncId} {args : List Value} {v : Value} (h : TriV P f args H O v) : Tri P f args H O (fun v' H' O' => v' = v ∧ H' = H ∧ O' = O) := fun w hs =>
  (h w hs).mono fun _ _ ⟨h1, h2⟩ => ⟨v, H, O, h1, Hp.le.refl H, h2, rfl, rfl, rfl⟩
theorem Tri.val {f : FuncId} {args : List Value} {v : Value} (h : Tri P f args H O (fun v' H' O' => v' = v ∧ H' = H ∧ O' = O)) : TriV P f args H O v := fun w hs =>
  (h w hs).mono fun _ _ ⟨v', H', O', h1, h2, h3, h4, h5, h6⟩ => by subst h4 h5 h6; exact ⟨h1, h3⟩

theorem OpT.call {f : FuncId} {args : List Operand} {vs : List Value} {tys : Array TypeId} {v : Value} (hent : Ent P f) (ha : evlE E args = some vs) (ht : TriV P f vs H O v) : OpT P (.call { callee := .value (.func f), args := args.toArray, argTypes := tys }) T E H O v := fun a w o ho _ he hs => by
  have hr : (execOp a.eval o).run P w = .ok (.enter f vs.toArray) w := by
    simp [execOp, ho, resolve, Deferred.ofValue, Act.eval, invoke, evlE_spec he ha, hent.run]
  simp only [Oper.quietAt, hr, Oper.quietUpon, true_and]
  exact ht w hs
theorem OpS.call {f : FuncId} {args : List Operand} {vs : List Value} {tys : Array TypeId} {R : Value → Hp → List Res → Prop} (hent : Ent P f) (ha : evlE E args = some vs) (ht : Tri P f vs H O R) : OpS P (.call { callee := .value (.func f), args := args.toArray, argTypes := tys }) T E H O R := fun a w o next Q ho _ he hs k => by
  have hr : (execOp a.eval o).run P w = .ok (.enter f vs.toArray) w := by
    simp [execOp, ho, resolve, Deferred.ofValue, Act.eval, invoke, evlE_spec he ha, hent.run]
  unfold Oper.wp
  rw [hr]
  refine (ht w hs).mono ?_
  rintro e w' ⟨v, H', O', rfl, h2, h3, h4⟩
  exact k v w' H' O' h2 h4 h3
theorem OpP.call {f : FuncId} {args : List Operand} {vs : List Value} {tys : Array TypeId} {S : SP} (hent : Ent P f) (ha : evlE E args = some vs) (ht : Tri P f vs H O (fun v H' O' => O' = O ∧ S H' v)) : OpP P Hp.le (.call { callee := .value (.func f), args := args.toArray, argTypes := tys }) T E H O S := fun a w o next Q ho hT he hs k =>
  OpS.call (T := T) hent ha ht a w o next Q ho hT he hs fun v w' H' O' h1 h2 h3 => by
    obtain ⟨rfl, h2⟩ := h2
    exact k v w' H' h1 h2 h3

/- A function is entered and left. -/
def argL : Nat → List Value → List (Nat × Value)
  | _, [] => []
  | i, v :: vs => (i, v) :: argL (i + 1) vs
theorem argL_spec : ∀ (vs : List Value) (i t : Nat) (v : Value), lk (argL i vs) t = some v → i ≤ t ∧ vs[t - i]? = some v
  | [], _, _, _, h => by simp [argL, lk] at h
  | u :: us, i, t, v, h => by
    simp only [argL, lk] at h
    cases hb : Nat.beq i t with
    | true =>
      rw [hb] at h
      have := Nat.eq_of_beq_eq_true hb
      subst this
      simp at h; subst h
      exact ⟨Nat.le_refl _, by simp⟩
    | false =>
      rw [hb] at h
      have ne := Nat.ne_of_beq_eq_false hb
      obtain ⟨h1, h2⟩ := argL_spec us (i + 1) t v h
      refine ⟨by omega, ?_⟩
      rw [show t - i = (t - (i + 1)) + 1 by omega]
      simpa using h2
theorem Fr.enter (vs : List Value) (n : Nat) (h : Nat.ble vs.length n = true) : Fr { tmps := vs.toArray ++ Array.replicate (n - vs.toArray.size) undef, defers := [] } n (argL 0 vs) := by
  have h' := Nat.le_of_ble_eq_true h
  refine ⟨rfl, by simp; omega, fun t v hv => ?_⟩
  obtain ⟨_, h2⟩ := argL_spec vs 0 t v hv
  simp at h2
  have hlt : t < vs.length := (List.getElem?_eq_some_iff.1 h2).1
  have h3 : vs[t] = v := by rw [List.getElem?_eq_getElem hlt] at h2; exact Option.some.inj h2
  simp [Array.getElem?_append, hlt, h3]
theorem wp_of {f : FuncId} {fn : Func} {c : Code} {vs : List Value} {X : Ending → World → Prop} (hf : P.funcs[f]? = some fn) (hb : fn.body = some c) (hn : fn.ntmps = n) (ha : Nat.ble vs.length n = true)
    (h : Wp P c (bodyPost P fn X) n (argL 0 vs) H O) {w : World} (hs : SH w H O) : Calls P f vs.toArray w X := by
  subst hn
  exact calls_of_wp hf hb (h _ w (Fr.enter vs _ ha) hs)
theorem Tri.of {f : FuncId} {fn : Func} {c : Code} {vs : List Value} {R : Value → Hp → List Res → Prop} (hf : P.funcs[f]? = some fn) (hb : fn.body = some c) (hn : fn.ntmps = n) (ha : Nat.ble vs.length n = true)
    (h : Wp P c (bodyPost P fn (Ret H R)) n (argL 0 vs) H O) : Tri P f vs H O R := fun _ hs => wp_of hf hb hn ha h hs

/- What a result reads. -/
def rvS (tmps : Array Value) (r : ResultVar) : Sem Value := match r with
  | .tmp t => pure (tmps.getD t undef)
  | .cell ad t => do loadVar t (← asAddr (tmps.getD ad undef))
theorem results_eq (fn : Func) (tmps : Array Value) : results fn tmps = (do let vs ← fn.results.mapM (rvS tmps); pure (if h : vs.size = 1 then vs[0] else .tuple vs)) := by
  have : (fun r => match r with
    | .tmp t => (pure (tmps.getD t undef) : Sem Value)
    | .cell ad t => do loadVar t (← asAddr (tmps.getD ad undef))) = rvS tmps := by funext r; cases r <;> rfl
  unfold results
  rw [← this]
  rfl
def RV (P : Program) (n : Nat) (L : List (Nat × Value)) (H : Hp) (O : List Res) (r : ResultVar) (v : Value) : Prop :=
  ∀ a w, Fr a n L → SH w H O → (rvS a.tmps r).run P w = .ok v w
theorem RV.tmp {t : Tmp} {v : Value} (h : lk L t = some v) : RV P n L H O (.tmp t) v := fun a w hf _ => by
  have := hf.get t v h
  simp only [rvS, this, Sem.run_pure]
theorem RV.cellA {ad : Tmp} {t t' : TypeId} {d : TypeDesc} {B i bytes size : Nat} {z : Value} {cs : Array Value} {fr : Nat × Nat} (h : lk L ad = some (ptr B 0)) (ht : P.underlying t = some d) (hd : aggB d = true) (hsz : TI P t size bytes z) (hcs : cs.size = size) (hi : O[i]? = some (.blk B (.cells cs t' fr))) : RV P n L H O (.cell ad t) (.agg cs) := fun a w hf hs => by
  have hg := hf.get ad _ h
  have := run_loadVar_agg (P := P) (w := w) (a := ⟨B, 0, none⟩) (vs := cs.toList) ht hd (by simpa [hcs] using hsz) (fun j u hj => by
    rw [Addr.add_lit]; exact hs.blkCell hi (by simpa using hj))
  simp only [rvS, hg, ptr]
  simpa [asAddr] using this
theorem RV.cell1 {ad : Tmp} {t t' : TypeId} {d : TypeDesc} {B i : Nat} {cs : Array Value} {fr : Nat × Nat} {v : Value} (h : lk L ad = some (ptr B 0)) (ht : P.underlying t = some d) (hd : aggB d = false) (hi : O[i]? = some (.blk B (.cells cs t' fr))) (hv : cs[0]? = some v) : RV P n L H O (.cell ad t) v := fun a w hf hs => by
  have hg := hf.get ad _ h
  have := run_loadVar_one (P := P) (w := w) (a := ⟨B, 0, none⟩) ht hd (hs.blkCell hi hv)
  simp only [rvS, hg, ptr]
  simpa [asAddr] using this
theorem At.res0 {fn : Func} {X : Ending → World → Prop} (hr : fn.results = #[]) (k : ∀ w, SH w H O → X (.returned (.tuple #[])) w) : At (bodyPost P fn X) .ret n L H O := fun a w hf hs => ⟨hf.defers, _, by simp [results, hr], k w hs⟩
theorem At.res0n {fn : Func} {X : Ending → World → Prop} (hr : fn.results = #[]) (k : ∀ w, SH w H O → X (.returned (.tuple #[])) w) : At (bodyPost P fn X) .normal n L H O := fun a w hf hs => ⟨hf.defers, _, by simp [results, hr], k w hs⟩
theorem At.res1 {fn : Func} {X : Ending → World → Prop} {r : ResultVar} {v : Value} (hr : fn.results = #[r]) (hv : RV P n L H O r v) (k : ∀ w, SH w H O → X (.returned v) w) : At (bodyPost P fn X) .ret n L H O := fun a w hf hs => by
  refine ⟨hf.defers, v, ?_, k w hs⟩
  have h1 := hv a w hf hs
  rw [results_eq, hr]
  simp [h1]
theorem At.res2 {fn : Func} {X : Ending → World → Prop} {r s : ResultVar} {v u : Value} (hr : fn.results = #[r, s]) (hv : RV P n L H O r v) (hu : RV P n L H O s u) (k : ∀ w, SH w H O → X (.returned (.tuple #[v, u])) w) : At (bodyPost P fn X) .ret n L H O := fun a w hf hs => by
  refine ⟨hf.defers, _, ?_, k w hs⟩
  have h1 := hv a w hf hs
  have h2 := hu a w hf hs
  rw [results_eq, hr]
  simp [h1, h2]
theorem At.res3 {fn : Func} {X : Ending → World → Prop} {r s t : ResultVar} {v u y : Value} (hr : fn.results = #[r, s, t]) (hv : RV P n L H O r v) (hu : RV P n L H O s u) (hy : RV P n L H O t y) (k : ∀ w, SH w H O → X (.returned (.tuple #[v, u, y])) w) : At (bodyPost P fn X) .ret n L H O := fun a w hf hs => by
  refine ⟨hf.defers, _, ?_, k w hs⟩
  have h1 := hv a w hf hs
  have h2 := hu a w hf hs
  have h3 := hy a w hf hs
  rw [results_eq, hr]
  simp [h1, h2, h3]
/- the triple's own end -/
theorem Ret.mk {H0 : Hp} {R : Value → Hp → List Res → Prop} {v : Value} (hle : H0.le H) (hr : R v H O) : ∀ w, SH w H O → Ret H0 R (.returned v) w := fun _ hs => ⟨v, H, O, rfl, hle, hs, hr⟩
end

theorem SH.weaken {w : World} {H H' : Hp} {O : List Res} (h : SH w H' O) (hle : H.le H') : SH w H O where
  imm b o hb := h.imm b o (hle.1 b o hb)
  os := h.os.trans hle.2.1
  output := h.output.trans hle.2.2.1
  tape := h.tape.trans hle.2.2.2
  ok := h.ok
  dis i r b hi hb := by
    have := h.dis i r b hi hb
    cases he : H.at_ b with
    | none => rfl
    | some o => rw [hle.1 b o he] at this; cases this
  nd := h.nd
theorem SH.dropN {w : World} {H : Hp} {O : List Res} (h : SH w H O) (k : Nat) : SH w H (O.drop k) :=
  h.pick (fun i => k + i) (fun i r hr => by simpa using hr) (fun i j _ _ h => by omega)
theorem one_of {cs : Array Value} (h : cs.all Value.oneCell' = true) : ∀ u ∈ cs, u.oneCell' = true := fun u hu => Array.all_eq_true_iff_forall_mem.1 h u hu
theorem lei64 {n : Int} (h : n ≤ 9223372036854775807) : n ≤ IntKind.i64.max := by simpa [IntKind.max, IntKind.signed, IntKind.bits] using h
theorem leu8 {n : Int} (h : n ≤ 255) : n ≤ IntKind.u8.max := by simpa [IntKind.max, IntKind.signed, IntKind.bits] using h
theorem leu64 {n : Int} (h : n ≤ 18446744073709551615) : n ≤ IntKind.u64.max := by simpa [IntKind.max, IntKind.signed, IntKind.bits] using h
section
variable {P : Program} {T : TypeId} {E : Operand → Option Value} {H : Hp} {O : List Res}
theorem OpT.eqW {x y : Operand} {Tx Ty : TypeId} {a b : BitVec 64} (hx : E x = some (w64 a)) (hy : E y = some (w64 b)) : OpT P (.binOp .eql Tx x y Ty) T E H O (.bool (decide (a = b))) := by
  have := OpT.eql (P := P) (T := T) (H := H) (O := O) (Tx := Tx) (Ty := Ty) hx hy
  have e : decide ((a.toNat : Int) = (b.toNat : Int)) = decide (a = b) := by
    apply decide_eq_decide.2
    rw [Int.ofNat_inj]
    exact ⟨fun h => BitVec.eq_of_toNat_eq h, fun h => by rw [h]⟩
  rwa [e] at this
theorem OpT.neW {x y : Operand} {Tx Ty : TypeId} {a b : BitVec 64} (hx : E x = some (w64 a)) (hy : E y = some (w64 b)) : OpT P (.binOp .neq Tx x y Ty) T E H O (.bool (decide (a ≠ b))) := by
  have := OpT.neq (P := P) (T := T) (H := H) (O := O) (Tx := Tx) (Ty := Ty) hx hy
  have e : decide ((a.toNat : Int) ≠ (b.toNat : Int)) = decide (a ≠ b) := by
    apply decide_eq_decide.2
    rw [Ne, Int.ofNat_inj]
    exact ⟨fun h h' => h (by rw [h']), fun h h' => h (BitVec.eq_of_toNat_eq h')⟩
  rwa [e] at this
theorem OpT.remW {x y : Operand} {Tx Ty : TypeId} {a b : BitVec 64} (hx : E x = some (w64 a)) (hy : E y = some (w64 b)) (h0 : b ≠ 0#64) : OpT P (.binOp .rem Tx x y Ty) T E H O (w64 (a % b)) := by
  have hb : (b.toNat : Int) ≠ 0 := fun h => h0 (BitVec.eq_of_toNat_eq (by simpa using h))
  have := OpT.rem (P := P) (T := T) (H := H) (O := O) (Tx := Tx) (Ty := Ty) hx hy (by omega) hb
  have e : ((a.toNat : Int) % (b.toNat : Int)) = ((a % b).toNat : Int) := by rw [BitVec.toNat_umod]; simp
  rw [e] at this
  exact this
theorem OpT.cast {op : Op} {v v' : Value} (k : OpT P op T E H O v) (h : v = v') : OpT P op T E H O v' := h ▸ k
theorem OpT.asB {op : Op} {b c : Bool} (k : OpT P op T E H O (.bool b)) (h : b = c) : OpT P op T E H O (.bool c) := h ▸ k
theorem Seg.split {ops : Array Oper} {Q : Exit → Act → World → Prop} {rest : List Oper} {n : Nat} {L : List (Nat × Value)} {t : Nat} {b : Bool} (hb : lk L t = some (.bool b)) (hT : b = true → Seg P ops Q rest n ((t, .bool true) :: L) H O) (hF : b = false → Seg P ops Q rest n ((t, .bool false) :: L) H O) : Seg P ops Q rest n L H O := fun a w hf hs => by
  have hg := hf.get t _ hb
  cases b with
  | true => exact hT rfl a w (hf.add hg) hs
  | false => exact hF rfl a w (hf.add hg) hs
/- the address of a part of an element -/
theorem SlLen.some {v : Value} {n : Nat} (h : SlLen v n) (h0 : 0 < n) : ∃ a cap, v = .slice (Option.some a) n cap := by
  rcases h with ⟨_, rfl⟩ | h
  · omega
  · exact h
theorem OpT.ixArrE {x y : Operand} {t e : TypeId} {len n j size bytes : Nat} {z v : Value} {k : IntKind} {i : Int} (ht : P.underlying t = some (.array len e)) (hsz : TI P e size bytes z) (hx : E x = some (elemPtr v j)) (hl : SlLen v n) (h0 : 0 < n) (hy : E y = some (.int k i))
    (h : 0 ≤ i ∧ i < len) : OpT P (.indexAddr t x y) T E H O (elemPtr v (j + i.toNat * size)) := .of_run fun ac w o ho _ he _ => by
  obtain ⟨a, cap, rfl⟩ := hl.some h0
  simp only [elemPtr] at *
  simp [execOp, ho, he x _ hx, he y _ hy, Instr.indexAt, asIntOf, sem_under ht, Instr.sureAddr, h, hsz.sizeOf, addr_add_add]
theorem OpT.ixArrImm {x y : Operand} {t e : TypeId} {len n j size bytes s : Nat} {z v : Value} {k : IntKind} {i : Int} {xs : List Value} (ht : P.underlying t = some (.array len e)) (hsz : TI P e size bytes z) (hx : E x = some (elemPtr v j)) (hl : Sl H v s n xs) (h0 : 0 < n) (hy : E y = some (.int k i))
    (h : 0 ≤ i ∧ i < len) : OpT P (.indexAddr t x y) T E H O (elemPtr v (j + i.toNat * size)) := OpT.ixArrE ht hsz hx hl.sl h0 hy h
theorem OpT.ixArrRow {x y : Operand} {t e e' : TypeId} {len n j size bytes s q : Nat} {z v : Value} {k : IntKind} {i : Int} {xs : List Value} (ht : P.underlying t = some (.array len e)) (hsz : TI P e size bytes z) (hx : E x = some (elemPtr v j)) (hq : O[q]? = some (.row v e' s n xs)) (h0 : 0 < n) (hy : E y = some (.int k i))
    (h : 0 ≤ i ∧ i < len) : OpT P (.indexAddr t x y) T E H O (elemPtr v (j + i.toNat * size)) := fun a w o ho hT he hs => OpT.ixArrE (H := H) (O := O) ht hsz hx (hs.rowLen hq).1 h0 hy h a w o ho hT he hs
/- a slot of which only something is known is moved -/
theorem SegL.moveS {G : Hp → Hp → Prop} {ops : Array Oper} {Z : Act → World → Prop} {rest : List Oper} {n : Nat} {LL : List (Nat × SV)} {d t : Tmp} {T : TypeId} {pos : String} {af : Array Edge} {S : SP} (hrefl : ∀ H, G H H) (hS : Grows G S) (hx : lks LL t = some (.sat S)) (hd : Nat.blt d n = true)
    (k : SegL P G ops Z rest n ((d, .sat S) :: LL) H O) : SegL P G ops Z ({ dst := some d, op := .move (.tmp t), type := T, pos, after := af, guard := none } :: rest) n LL H O := by
  refine SegL.opV hS (fun H' E' g _ h2 => ?_) hd k
  obtain ⟨v, hv, hE⟩ := h2 t S (by simp [looks, Oper.looksAt, Op.operands]) hx
  intro a w o next Q ho hT he hs kk
  exact Oper.wp_of_quietAt (OpT.move (P := P) (T := T) (H := H') (O := O) hE a w o ho hT he hs) hs fun w' hw' => kk v w' H' (hrefl H') hv hw'
theorem SegL.assignS {G : Hp → Hp → Prop} {ops : Array Oper} {Z : Act → World → Prop} {rest : List Oper} {n : Nat} {LL : List (Nat × SV)} {d t : Tmp} {T : TypeId} {pos : String} {af : Array Edge} {S : SP} (hrefl : ∀ H, G H H) (hS : Grows G S) (hx : lks LL t = some (.sat S)) (hd : Nat.blt d n = true)
    (k : SegL P G ops Z rest n ((d, .sat S) :: LL) H O) : SegL P G ops Z ({ dst := some d, op := .assign (.tmp t), type := T, pos, after := af, guard := none } :: rest) n LL H O := by
  refine SegL.opV hS (fun H' E' g _ h2 => ?_) hd k
  obtain ⟨v, hv, hE⟩ := h2 t S (by simp [looks, Oper.looksAt, Op.operands]) hx
  intro a w o next Q ho hT he hs kk
  exact Oper.wp_of_quietAt (OpT.assign (P := P) (T := T) (H := H') (O := O) hE a w o ho hT he hs) hs fun w' hw' => kk v w' H' (hrefl H') hv hw'
/- cells of encoded lists -/
theorem flat_len {α : Type} (enc : α → List Value) (s : Nat) (hs : ∀ x, (enc x).length = s) : ∀ l : List α, (l.flatMap enc).length = l.length * s
  | [] => by simp
  | x :: l => by simp [hs x, flat_len enc s hs l, Nat.add_mul, Nat.add_comm]
theorem flat_get {α : Type} (enc : α → List Value) (s : Nat) (hs : ∀ x, (enc x).length = s) : ∀ (l : List α) (i j : Nat) (x : α), l[i]? = some x → j < s → (l.flatMap enc)[i * s + j]? = (enc x)[j]?
  | [], i, j, x, h, _ => by simp at h
  | y :: l, 0, j, x, h, hj => by
    simp at h; subst h
    simp only [List.flatMap_cons, Nat.zero_mul, Nat.zero_add]
    rw [List.getElem?_append_left (by rw [hs]; exact hj)]
  | y :: l, i + 1, j, x, h, hj => by
    simp only [List.flatMap_cons]
    rw [List.getElem?_append_right (by rw [hs, Nat.add_mul]; omega), hs, show (i + 1) * s + j - s = i * s + j by rw [Nat.add_mul]; omega]
    exact flat_get enc s hs l i j x (by simpa using h) hj
theorem row_eq {v : Value} {e : TypeId} {s n n' : Nat} {xs xs' : List Value} (h : n = n') (h' : xs = xs') : Res.row v e s n xs = Res.row v e s n' xs' := by rw [h, h']
theorem Seg.own {ops : Array Oper} {Q : Exit → Act → World → Prop} {rest : List Oper} {n : Nat} {L : List (Nat × Value)} {O' : List Res} (k : Seg P ops Q rest n L H O) (h : O' = O) : Seg P ops Q rest n L H O' := h ▸ k
theorem one_ofL {cs : List Value} (h : cs.all Value.oneCell' = true) : ∀ u ∈ cs, u.oneCell' = true := fun u hu => List.all_eq_true.1 h u hu
theorem lk_int {L : List (Nat × Value)} {t : Nat} {ik : IntKind} {a b : Int} (h : lk L t = some (.int ik a)) (e : a = b) : lk L t = some (.int ik b) := e ▸ h
theorem lk_eq {L : List (Nat × Value)} {t : Nat} {a b : Value} (h : lk L t = some a) (e : a = b) : lk L t = some b := e ▸ h
theorem Wp.own {c : Code} {Q : Exit → Act → World → Prop} {n : Nat} {L : List (Nat × Value)} {O' : List Res} (k : Wp P c Q n L H O) (h : O' = O) : Wp P c Q n L H O' := h ▸ k
theorem At.own {e : Exit} {Q : Exit → Act → World → Prop} {n : Nat} {L : List (Nat × Value)} {O' : List Res} (k : At Q e n L H O) (h : O' = O) : At Q e n L H O' := h ▸ k
theorem OpT.indexA {x y : Operand} {t e : TypeId} {d : TypeDesc} {len size bytes : Nat} {z : Value} {k : IntKind} {i : Int} {cs : Array Value} (ht : P.underlying t = some (.array len e)) (he : P.underlying e = some d) (hd : aggB d = true) (hz : TI P e size bytes z) (hx : E x = some (.agg cs)) (hy : E y = some (.int k i)) (h : 0 ≤ i ∧ i < len) :
    OpT P (.index t x y) T E H O (.agg (cs.extract (i.toNat * size) (i.toNat * size + size))) := .of_run fun ac w o ho _ he' _ => by
  simp [execOp, ho, he' x _ hx, he' y _ hy, Instr.index, asIntOf, sem_under ht, h, hz.sizeOf, part, run_isAgg he, hd]
end
end Go.GK
