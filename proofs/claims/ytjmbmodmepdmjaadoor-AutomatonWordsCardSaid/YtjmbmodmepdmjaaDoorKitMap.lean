/- Maps that a call makes: as lists of pairs. -/
import Derived.Test.YtjmbmodmepdmjaaDoorKitDraw
import Derived.Maps.OwnOps
import Derived.Maps.OwnSet
import Derived.Carry
namespace Go.GK
open Go.Maps
def fmGet {κ β : Type} [DecidableEq κ] : List (κ × β) → κ → Option β
  | [], _ => none
  | (k, v) :: m, x => if k = x then some v else fmGet m x
def fmSet {κ β : Type} [DecidableEq κ] : List (κ × β) → κ → β → List (κ × β)
  | [], _, _ => []
  | (k, v) :: m, x, y => if k = x then (k, y) :: m else (k, v) :: fmSet m x y
def fmPut {κ β : Type} [DecidableEq κ] (m : List (κ × β)) (x : κ) (y : β) : List (κ × β) := match fmGet m x with
  | some _ => fmSet m x y
  | none => m ++ [(x, y)]
section
variable {κ β : Type} [DecidableEq κ]
theorem fmSet_len (m : List (κ × β)) (x : κ) (y : β) : (fmSet m x y).length = m.length := by
  induction m with
  | nil => rfl
  | cons p m ih => obtain ⟨k, v⟩ := p; simp only [fmSet]; split <;> simp [ih]
theorem fmGet_set (m : List (κ × β)) (x z : κ) (y : β) : fmGet (fmSet m x y) z = if z = x then (fmGet m x).map (fun _ => y) else fmGet m z := by
  induction m with
  | nil => simp [fmGet, fmSet]
  | cons p m ih =>
    obtain ⟨k, v⟩ := p
    simp only [fmSet]
    by_cases h : k = x
    · subst h
      by_cases hz : z = k
      · subst hz; simp [fmGet]
      · have : ¬ k = z := fun e => hz e.symm
        simp [fmGet, hz, this]
    · rw [if_neg h]
      simp only [fmGet]
      by_cases hz : z = x
      · subst hz; simp [h, ih]
      · by_cases hk : k = z
        · subst hk; simp [hz]
        · simp [hk, ih, hz]
theorem fmGet_app (m : List (κ × β)) (x z : κ) (y : β) (h : fmGet m x = none) : fmGet (m ++ [(x, y)]) z = if z = x then some y else fmGet m z := by
  induction m with
  | nil =>
    by_cases hz : z = x
    · subst hz; simp [fmGet]
    · have : ¬ x = z := fun e => hz e.symm
      simp [fmGet, hz, this]
  | cons p m ih =>
    obtain ⟨k, v⟩ := p
    simp only [fmGet] at h
    split at h
    · cases h
    · rename_i hk
      simp only [List.cons_append, fmGet]
      by_cases hz : z = x
      · subst hz; simp [hk, ih h]
      · by_cases hkz : k = z
        · subst hkz; simp [hz]
        · simp [hkz, ih h, hz]
theorem fmGet_put (m : List (κ × β)) (x z : κ) (y : β) : fmGet (fmPut m x y) z = if z = x then some y else fmGet m z := by
  unfold fmPut
  cases h : fmGet m x with
  | none => exact fmGet_app m x z y h
  | some v => rw [fmGet_set, h]; rfl
theorem fmPut_len (m : List (κ × β)) (x : κ) (y : β) : (fmPut m x y).length = if (fmGet m x).isSome then m.length else m.length + 1 := by
  unfold fmPut
  cases h : fmGet m x with
  | none => simp
  | some v => simp [fmSet_len]
end
/- keys, elements -/
structure MKey (P : Program) (kt : TypeId) (κ : Type) where
  val : κ → Value
  lit : κ → Lit
  ok : κ → Prop
  keyed : Keyed P kt
  of : ∀ k, ok k → keyOf P kt (val k) = some (lit k)
  key : ∀ k, WideAt.IsKeyLit (lit k)
  inj : ∀ k k', lit k = lit k' → k = k'
structure MElem (P : Program) (et : TypeId) (β : Type) where
  val : β → Value
  dat : β → DataW Unit
  ok : β → Prop
  of : ∀ b, ok b → plainElem P et (val b) = some (dat b, [])
  inv : ∀ v b ps, plainElem P et v = some (dat b, ps) → v = val b
  one : ∀ b, (val b).oneCell' = true
theorem wf64 {n : Int} (h : F64 n) : (Lit.int .i64 n).wf = true := by
  simp only [F64] at h
  simp [Lit.wf, IntKind.min, IntKind.max, IntKind.signed, IntKind.bits]
  omega
def mkI {P : Program} {kt : TypeId} (h : P.underlying kt = some (.int .i64)) : MKey P kt Int where
  val n := .int .i64 n
  lit n := .int .i64 n
  ok n := F64 n
  keyed := int_keyed h
  of k hk := keyOf_int_mk h (wf64 hk)
  key _ := trivial
  inj _ _ h := by injection h
def mkS {P : Program} {kt : TypeId} (h : P.underlying kt = some .string) : MKey P kt Str where
  val s := sv s
  lit s := .string s
  ok s := s.length ≤ capN
  keyed := string_keyed h
  of k hk := by
    have := Go.WideMaps.keyOf_string_mk (s := ⟨⟨k⟩⟩) h (by
      show k.length ≤ maxLen
      simp only [capN, maxLen] at *; omega)
    exact this
  key _ := trivial
  inj _ _ h := by injection h
def meI {P : Program} {et : TypeId} (h : P.underlying et = some (.int .i64)) : MElem P et Int where
  val n := .int .i64 n
  dat n := .lit (.int .i64 n)
  ok n := F64 n
  of b hb := plainElem_int h (wf64 hb)
  inv v b ps hv := by
    obtain ⟨a, rfl, h2, _⟩ := plainElem_int_inv h hv
    simp only [Prod.mk.injEq, DataW.lit.injEq, Lit.int.injEq, true_and] at h2
    rw [h2.1]
  one _ := rfl
def meB {P : Program} {et : TypeId} (h : P.underlying et = some .bool) : MElem P et Bool where
  val b := .bool b
  dat b := .lit (.bool b)
  ok _ := True
  of b _ := plainElem_bool h b
  inv v b ps hv := by
    unfold plainElem at hv
    rw [h] at hv
    cases v <;> simp at hv
    rw [hv.1]
  one _ := rfl

section
variable {P : Program} {kt et : TypeId} {κ β : Type} [DecidableEq κ]
def MapOk (K : MKey P kt κ) (E : MElem P et β) (b : Nat) (m : List (κ × β)) (w : World) : Prop :=
  ∃ D : DataW Unit, w.ownsMap P kt (plainElem P et) b m.length D ∧ Maps.size D = m.length ∧ (∀ k, Maps.has D (K.lit k) = (fmGet m k).isSome) ∧ ∀ k x, fmGet m k = some x → ∀ z, D.atKey (K.lit k) z = E.dat x
def mapR (K : MKey P kt κ) (E : MElem P et β) (b : Nat) (m : List (κ × β)) : Res :=
  .own b (MapOk K E b m) (fun _ ⟨_, h, _⟩ => h.lt) (fun _ _ _ ⟨D, h, h2⟩ hg hne => ⟨D, h.kept hg (fun e => hne e.symm), h2⟩)
end
section
variable {P : Program} {kt et : TypeId} {κ β : Type} [DecidableEq κ] {K : MKey P kt κ} {M : MElem P et β}
variable {T : TypeId} {E : Operand → Option Value} {H : Hp} {O : List Res} {t : TypeId}
theorem OpT.lookup {x y : Operand} {b i bytes : Nat} {m : List (κ × β)} {k : κ} {z : β} (ht : P.underlying t = some (.map kt et)) (hz : TI P et 1 bytes (M.val z)) (hzo : M.ok z) (hx : E x = some (.map (some b))) (hy : E y = some (K.val k)) (hk : K.ok k) (hi : O[i]? = some (mapR K M b m)) :
    OpT P (.lookup t x y false) T E H O (M.val ((fmGet m k).getD z)) := .of_run fun ac w o ho _ he hs => by
  obtain ⟨D, h1, h2, h3, h4⟩ : MapOk K M b m w := hs.ok i _ hi
  obtain ⟨v, ps, hrun, hv⟩ := h1.lookup K.keyed ht hz.zeroValue (M.of z hzo) (K.of k hk)
  have e : v = M.val ((fmGet m k).getD z) := by
    refine M.inv v _ ps ?_
    rw [hv]
    cases hg : fmGet m k with
    | none =>
      have := h3 k; rw [hg] at this
      rw [Maps.atKey_of_not_has this]; rfl
    | some u => rw [h4 k u hg]; rfl
  subst e
  simp [execOp, ho, he x _ hx, he y _ hy, hrun]
theorem OpT.lookupOk {x y : Operand} {b i bytes : Nat} {m : List (κ × β)} {k : κ} {z : β} (ht : P.underlying t = some (.map kt et)) (hz : TI P et 1 bytes (M.val z)) (hzo : M.ok z) (hx : E x = some (.map (some b))) (hy : E y = some (K.val k)) (hk : K.ok k) (hi : O[i]? = some (mapR K M b m)) :
    OpT P (.lookup t x y true) T E H O (.tuple #[M.val ((fmGet m k).getD z), .bool (fmGet m k).isSome]) := .of_run fun ac w o ho _ he hs => by
  obtain ⟨D, h1, h2, h3, h4⟩ : MapOk K M b m w := hs.ok i _ hi
  obtain ⟨v, ps, hrun, hv⟩ := h1.look_ok K.keyed ht hz.zeroValue (M.of z hzo) (K.of k hk)
  have e : v = M.val ((fmGet m k).getD z) := by
    refine M.inv v _ ps ?_
    rw [hv]
    cases hg : fmGet m k with
    | none =>
      have := h3 k; rw [hg] at this
      rw [Maps.atKey_of_not_has this]; rfl
    | some u => rw [h4 k u hg]; rfl
  subst e
  rw [h3 k] at hrun
  simp [execOp, ho, he x _ hx, he y _ hy, hrun]
theorem OpT.lenMap {x : Operand} {b i : Nat} {m : List (κ × β)} (ht : P.underlying t = some (.map kt et)) (hx : E x = some (.map (some b))) (hi : O[i]? = some (mapR K M b m)) :
    OpT P (.call { callee := .builtin .len, args := #[x], argTypes := #[t] }) T E H O (.int .i64 ((m.length : Nat) : Int)) := .of_run fun ac w o ho _ he hs => by
  obtain ⟨D, h1, h2, h3, h4⟩ : MapOk K M b m w := hs.ok i _ hi
  have := h1.len ht o.type
  rw [h2] at this
  simp [execOp, ho, he x _ hx, resolve, invoke, builtin, this]
theorem MapOk.store {w : World} {b : Nat} {m : List (κ × β)} (h : MapOk K M b m w) (ht : P.underlying t = some (.map kt et)) {k : κ} {v : β} (hk : K.ok k) (hv : M.ok v) (hn : m.length ≤ capN) :
    ∃ w', (Instr.mapUpdate t (.map (some b)) (K.val k) (M.val v)).run P w = .ok () w' ∧ MapOk K M b (fmPut m k v) w' ∧ w.grownBy w' (some b) := by
  obtain ⟨D, h1, h2, h3, h4⟩ := h
  obtain ⟨w', g1, g2, g3⟩ := h1.update K.keyed ht (by simp only [capN, maxLen] at *; omega) (K.of k hk) (M.of v hv)
  have hsz : Maps.size (D.put (K.lit k) (M.dat v)) = (fmPut m k v).length := by
    rw [Maps.size_put (h1.tidy K.keyed), h3 k, h2, fmPut_len]
  refine ⟨w', g1, ⟨_, ?_, hsz, fun k' => ?_, fun k' x hx z => ?_⟩, g3⟩
  · obtain ⟨es, clock, q1, q2, q3, q4⟩ := g2
    refine ⟨es, clock, q1, q2, ?_, q4⟩
    have : Maps.size (D.put (K.lit k) (M.dat v)) = es.size := by rw [q4]; exact Go.length_read es
    rw [← hsz, this]; exact Nat.le_refl _
  · rw [fmGet_put]
    by_cases e : k' = k
    · subst e; rw [if_pos rfl, Maps.has_put_same h1.isMap (K.key _)]; rfl
    · rw [if_neg e, Maps.has_put_other (fun x => e (K.inj _ _ x)), h3]
  · rw [fmGet_put] at hx
    by_cases e : k' = k
    · subst e; rw [if_pos rfl] at hx; injection hx with hx; subst hx
      exact Maps.atKey_put_same h1.isMap (K.key _) _ _
    · rw [if_neg e] at hx
      rw [Maps.atKey_put_other (fun x => e (K.inj _ _ x))]
      exact h4 k' x hx z
theorem OpS.mapUpdate {x y u : Operand} {b i : Nat} {m : List (κ × β)} {k : κ} {v : β} (ht : P.underlying t = some (.map kt et)) (hx : E x = some (.map (some b))) (hy : E y = some (K.val k)) (hu : E u = some (M.val v)) (hk : K.ok k) (hv : M.ok v) (hn : m.length ≤ capN) (hi : O[i]? = some (mapR K M b m)) :
    OpS P (.mapUpdate t x y u) T E H O (fun _ H' O' => H' = H ∧ O' = O.set i (mapR K M b (fmPut m k v))) := .of_skip fun a w o ho _ he hs => by
  obtain ⟨w', g1, g2, g3⟩ := MapOk.store (hs.ok i _ hi) ht hk hv hn
  refine ⟨w', H, _, ?_, Hp.le.refl H, ⟨rfl, rfl⟩, hs.set hi g3 g2 (fun c hc => .inl hc)⟩
  simp [execOp, ho, he x _ hx, he y _ hy, he u _ hu, g1]
theorem OpS.insert {x y u : Operand} {b i : Nat} {m : List (κ × β)} {k : κ} {v : β} (ht : P.underlying t = some (.map kt et)) (hx : E x = some (.map (some b))) (hy : E y = some (K.val k)) (hu : E u = some (M.val v)) (hk : K.ok k) (hv : M.ok v) (hn : m.length ≤ capN) (hi : O[i]? = some (mapR K M b m)) :
    OpS P (.insert t x y u) T E H O (fun _ H' O' => H' = H ∧ O' = O.set i (mapR K M b (fmPut m k v))) := .of_skip fun a w o ho _ he hs => by
  obtain ⟨w', g1, g2, g3⟩ := MapOk.store (hs.ok i _ hi) ht hk hv hn
  refine ⟨w', H, _, ?_, Hp.le.refl H, ⟨rfl, rfl⟩, hs.set hi g3 g2 (fun c hc => .inl hc)⟩
  simp [execOp, ho, he x _ hx, he y _ hy, he u _ hu, g1]
theorem OpS.makeMap (K : MKey P kt κ) (M : MElem P et β) : OpS P (.makeMap t none) T E H O (fun v H' O' => ∃ B, v = .map (some B) ∧ H' = H ∧ O' = mapR K M B [] :: O) := .of_run fun a w o ho _ he hs => by
  refine ⟨.map (some w.heap.size), w.alloc (.map #[] 0), H, mapR K M w.heap.size [] :: O, ?_, Hp.le.refl H, ⟨_, rfl, rfl, rfl⟩, hs.push (World.grownBy_alloc w _ none) ?_ (fun b hb => by simp only [mapR, Res.block, Option.some.injEq] at hb; omega)⟩
  · simp [execOp, ho, Go.RowKit.run_makeMap]
  · exact ⟨.map [], World.ownsMap_made w P kt _, rfl, fun k => rfl, fun k x h => by cases h⟩
end
section
variable {P : Program} {kt et : TypeId} {κ β : Type} [DecidableEq κ]
variable {Q : Exit → Act → World → Prop} {n : Nat} {L : List (Nat × Value)} {H : Hp} {O : List Res} {ops : Array Oper} {rest : List Oper} {T t : TypeId}
theorem Seg.makeMap {d : Tmp} {pos : String} {af : Array Edge} (K : MKey P kt κ) (M : MElem P et β) (hd : Nat.blt d n = true) (k : ∀ B, Seg P ops Q rest n ((d, .map (some B)) :: L) H (mapR K M B [] :: O)) :
    Seg P ops Q ({ dst := some d, op := .makeMap t none, type := T, pos, after := af, guard := none } :: rest) n L H O :=
  Seg.opS (OpS.makeMap K M) hd (by rintro v H' O' _ ⟨B, rfl, rfl, rfl⟩; exact k B)
theorem Seg.mapUpdate {pos : String} {af : Array Edge} {K : MKey P kt κ} {M : MElem P et β} {x y u : Operand} {b : Nat} {m : List (κ × β)} {k : κ} {v : β} (i : Nat) (ht : P.underlying t = some (.map kt et)) (hx : ev L x = some (.map (some b))) (hy : ev L y = some (K.val k)) (hu : ev L u = some (M.val v)) (hk : K.ok k) (hv : M.ok v) (hn : m.length ≤ capN) (hi : O[i]? = some (mapR K M b m))
    (kk : Seg P ops Q rest n L H (O.set i (mapR K M b (fmPut m k v)))) :
    Seg P ops Q ({ dst := none, op := .mapUpdate t x y u, type := T, pos, after := af, guard := none } :: rest) n L H O :=
  Seg.opS0 (OpS.mapUpdate ht hx hy hu hk hv hn hi) (by rintro v H' O' _ ⟨rfl, rfl⟩; exact kk)
theorem Seg.insert {pos : String} {af : Array Edge} {K : MKey P kt κ} {M : MElem P et β} {x y u : Operand} {b : Nat} {m : List (κ × β)} {k : κ} {v : β} (i : Nat) (ht : P.underlying t = some (.map kt et)) (hx : ev L x = some (.map (some b))) (hy : ev L y = some (K.val k)) (hu : ev L u = some (M.val v)) (hk : K.ok k) (hv : M.ok v) (hn : m.length ≤ capN) (hi : O[i]? = some (mapR K M b m))
    (kk : Seg P ops Q rest n L H (O.set i (mapR K M b (fmPut m k v)))) :
    Seg P ops Q ({ dst := none, op := .insert t x y u, type := T, pos, after := af, guard := none } :: rest) n L H O :=
  Seg.opS0 (OpS.insert ht hx hy hu hk hv hn hi) (by rintro v H' O' _ ⟨rfl, rfl⟩; exact kk)
end
/- function values -/
section
variable {P : Program} {T : TypeId} {E : Operand → Option Value} {H : Hp} {O : List Res}
theorem OpT.makeFunc {fn : Fn} {fs cs : List Operand} {vf vc : List Value} (hf : evlE E fs = some vf) (hc : evlE E cs = some vc) : OpT P (.makeFunc fn fs.toArray cs.toArray) T E H O (.func fn vf.toArray vc.toArray) := .of_run fun a w o ho _ he _ => by
  have h1 := evlE_spec (a := a) he hf
  have h2 := evlE_spec (a := a) he hc
  simp [execOp, ho, Instr.makeFunc, h1, h2]
theorem OpT.callC {x : Operand} {f : FuncId} {first : List Value} {args : List Operand} {vs : List Value} {tys : Array TypeId} {v : Value} (hent : Ent P f) (hx : E x = some (.func (.func f) first.toArray #[])) (ha : evlE E args = some vs) (ht : TriV P f (first ++ vs) H O v) : OpT P (.call { callee := .value x, args := args.toArray, argTypes := tys }) T E H O v := fun a w o ho _ he hs => by
  have hr : (execOp a.eval o).run P w = .ok (.enter f (first ++ vs).toArray) w := by
    have := hent.run (first ++ vs).toArray w
    simp [execOp, ho, resolve, Deferred.ofValue, he x _ hx, invoke, evlE_spec he ha] at this ⊢
    rw [this]
  simp only [Oper.quietAt, hr, Oper.quietUpon, true_and]
  exact ht w hs
theorem OpS.callC {x : Operand} {f : FuncId} {first : List Value} {args : List Operand} {vs : List Value} {tys : Array TypeId} {R : Value → Hp → List Res → Prop} (hent : Ent P f) (hx : E x = some (.func (.func f) first.toArray #[])) (ha : evlE E args = some vs) (ht : Tri P f (first ++ vs) H O R) : OpS P (.call { callee := .value x, args := args.toArray, argTypes := tys }) T E H O R := fun a w o next Q ho _ he hs k => by
  have hr : (execOp a.eval o).run P w = .ok (.enter f (first ++ vs).toArray) w := by
    have := hent.run (first ++ vs).toArray w
    simp [execOp, ho, resolve, Deferred.ofValue, he x _ hx, invoke, evlE_spec he ha] at this ⊢
    rw [this]
  unfold Oper.wp
  rw [hr]
  refine (ht w hs).mono ?_
  rintro e w' ⟨v, H', O', rfl, h2, h3, h4⟩
  exact k v w' H' O' h2 h4 h3
end
end Go.GK
