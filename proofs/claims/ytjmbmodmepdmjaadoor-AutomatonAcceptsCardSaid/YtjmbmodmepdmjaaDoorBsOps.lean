/- Comparing sets of bytes, and arrays of whole numbers, as the program does. -/
import Derived.Test.YtjmbmodmepdmjaaDoorBs
import Derived.ChangeKeysEq
namespace Go.GK
section
variable {P : Program}
theorem run_eqItems_ints {d : Nat} {e : TypeId} {k : IntKind} (he : P.underlying e = some (.int k)) (h1 : P.cellsOf e = 1) (w : World) (xs ys : List Int) : ∀ (is : List Nat), (∀ i ∈ is, i < xs.length ∧ i < ys.length) →
    (Op.eqItems (d + 1) e (P.cellsOf e) (xs.map (Value.int k)).toArray (ys.map (Value.int k)).toArray is).run P w = .ok (is.all fun i => xs[i]? == ys[i]?) w
  | [], _ => by simp [Op.eqItems]
  | i :: is, h => by
    have hi := h i (by simp)
    have ih := run_eqItems_ints (d := d) he h1 w xs ys is (fun j hj => h j (by simp [hj]))
    have p1 : (part e (xs.map (Value.int k)).toArray (i * P.cellsOf e)).run P w = .ok (.int k xs[i]) w := by
      simp [part, run_isAgg he, aggB, h1, hi.1]
    have p2 : (part e (ys.map (Value.int k)).toArray (i * P.cellsOf e)).run P w = .ok (.int k ys[i]) w := by
      simp [part, run_isAgg he, aggB, h1, hi.2]
    have p3 : (Op.equalIn (d + 1) e (.int k xs[i]) (.int k ys[i])).run P w = .ok (xs[i] == ys[i]) w := by simp [Op.equalIn, sem_under he]
    simp only [Op.eqItems, Sem.run_bind, p1, p2, p3, Result.andThen_ok]
    by_cases e1 : xs[i] = ys[i]
    · simp only [e1, beq_self_eq_true, Bool.not_true, Bool.false_eq_true, if_false, ih, List.all_cons]
      simp [hi.1, hi.2, e1]
    · simp [hi.1, hi.2, e1]
theorem run_eqArr {t e : TypeId} {n : Nat} {k : IntKind} {bytes : Nat} {z : Value} (ht : P.underlying t = some (.array n e)) (he : P.underlying e = some (.int k)) (hz : TI P e 1 bytes z) (w : World) (xs ys : List Int) (hx : xs.length = n) (hy : ys.length = n) :
    (Op.equal t (.agg (xs.map (Value.int k)).toArray) (.agg (ys.map (Value.int k)).toArray)).run P w = .ok (decide (xs = ys)) w := by
  obtain ⟨i, hi, hs, _⟩ := hz.ex
  have h1 : P.cellsOf e = 1 := by simp [Program.cellsOf, hi, hs]
  have key : ∀ d, (Op.equalIn (d + 1 + 1) t (.agg (xs.map (Value.int k)).toArray) (.agg (ys.map (Value.int k)).toArray)).run P w = .ok (decide (xs = ys)) w := fun d => by
    rw [run_equalIn_array w (d + 1) _ _ ht hi, run_eqItems_ints he h1 w xs ys _ (fun i hi => by have := List.mem_range.1 hi; omega)]
    congr 1
    rw [Bool.eq_iff_iff]
    simp only [List.all_eq_true, List.mem_range, beq_iff_eq, decide_eq_true_iff]
    constructor
    · intro h
      apply List.ext_getElem? 
      intro j
      by_cases hj : j < n
      · exact h j hj
      · rw [List.getElem?_eq_none (by omega), List.getElem?_eq_none (by omega)]
    · intro h j _; rw [h]
  unfold Op.equal Op.maxDepth
  exact key 9998
end
section
variable {P : Program} {T : TypeId} {E : Operand → Option Value} {H : Hp} {O : List Res} {x y : Operand} {Tx Ty e : TypeId} {k : IntKind} {n bytes : Nat} {z : Value}
theorem OpT.eqArr {xs ys : List Int} (hg : P.eqGuardType P.depth Tx = false) (ht : P.underlying Tx = some (.array n e)) (he : P.underlying e = some (.int k)) (hz : TI P e 1 bytes z) (hx : E x = some (.agg (xs.map (Value.int k)).toArray)) (hy : E y = some (.agg (ys.map (Value.int k)).toArray)) (h1 : xs.length = n) (h2 : ys.length = n) :
    OpT P (.binOp .eql Tx x y Ty) T E H O (.bool (decide (xs = ys))) := .of_run fun a w o ho _ he' _ => by
  have h3 := run_eqArr ht he hz w xs ys h1 h2
  have h4 := run_eqGuard_agg w .eql Tx x y (xs.map (Value.int k)).toArray (ys.map (Value.int k)).toArray hg
  have h5 : (binOp .eql Tx (.agg (xs.map (Value.int k)).toArray) (.agg (ys.map (Value.int k)).toArray)).run P w = .ok (.bool (decide (xs = ys))) w := by
    show (do pure (.bool (← Op.equal Tx _ _)) : Sem Value).run P w = _
    simp [h3]
  simp only [execOp, ho, Sem.run_bind, he' x _ hx, he' y _ hy, h4, Result.andThen_ok, h5, Sem.run_pure]
theorem OpT.neArr {xs ys : List Int} (hg : P.eqGuardType P.depth Tx = false) (ht : P.underlying Tx = some (.array n e)) (he : P.underlying e = some (.int k)) (hz : TI P e 1 bytes z) (hx : E x = some (.agg (xs.map (Value.int k)).toArray)) (hy : E y = some (.agg (ys.map (Value.int k)).toArray)) (h1 : xs.length = n) (h2 : ys.length = n) :
    OpT P (.binOp .neq Tx x y Ty) T E H O (.bool (!decide (xs = ys))) := .of_run fun a w o ho _ he' _ => by
  have h3 := run_eqArr ht he hz w xs ys h1 h2
  have h4 := run_eqGuard_agg w .neq Tx x y (xs.map (Value.int k)).toArray (ys.map (Value.int k)).toArray hg
  have h5 : (binOp .neq Tx (.agg (xs.map (Value.int k)).toArray) (.agg (ys.map (Value.int k)).toArray)).run P w = .ok (.bool (!decide (xs = ys))) w := by
    show (do pure (.bool (!(← Op.equal Tx _ _))) : Sem Value).run P w = _
    simp [h3]
  simp only [execOp, ho, Sem.run_bind, he' x _ hx, he' y _ hy, h4, Result.andThen_ok, h5, Sem.run_pure]
def eqS (p q : Nat → Bool) : Bool := (List.range 256).all fun x => p x == q x
theorem eqS_iff {p q : Nat → Bool} : eqS p q = true ↔ ∀ x, x < 256 → p x = q x := by simp [eqS, List.all_eq_true]
theorem eqS_bs {p q : Nat → Bool} : eqS p q = true ↔ bs p = bs q := by rw [eqS_iff, bs_eq_iff]
def bints (p : Nat → Bool) : List Int := [((word p 0).toNat : Int), ((word p 1).toNat : Int), ((word p 2).toNat : Int), ((word p 3).toNat : Int)]
theorem bints_eq {p q : Nat → Bool} : decide (bints p = bints q) = eqS p q := by
  rw [Bool.eq_iff_iff, decide_eq_true_iff, eqS_bs]
  have : ∀ p, bs p = .agg ((bints p).map (Value.int .u64)).toArray := fun p => rfl
  rw [this, this]
  constructor
  · intro h; rw [h]
  · intro h
    have h' := congrArg (fun v : Value => match v with | .agg a => a.toList | _ => []) h
    simpa [bints] using h'
theorem OpT.eqBs {p q : Nat → Bool} (hg : P.eqGuardType P.depth Tx = false) (ht : P.underlying Tx = some (.array 4 e)) (he : P.underlying e = some (.int .u64)) (hz : TI P e 1 bytes z) (hx : E x = some (.agg (bcs p))) (hy : E y = some (.agg (bcs q))) :
    OpT P (.binOp .eql Tx x y Ty) T E H O (.bool (eqS p q)) := by
  have := OpT.eqArr (P := P) (T := T) (H := H) (O := O) (Ty := Ty) (xs := bints p) (ys := bints q) hg ht he hz hx hy rfl rfl
  rwa [bints_eq] at this
theorem OpT.neBs {p q : Nat → Bool} (hg : P.eqGuardType P.depth Tx = false) (ht : P.underlying Tx = some (.array 4 e)) (he : P.underlying e = some (.int .u64)) (hz : TI P e 1 bytes z) (hx : E x = some (.agg (bcs p))) (hy : E y = some (.agg (bcs q))) :
    OpT P (.binOp .neq Tx x y Ty) T E H O (.bool (!eqS p q)) := by
  have := OpT.neArr (P := P) (T := T) (H := H) (O := O) (Ty := Ty) (xs := bints p) (ys := bints q) hg ht he hz hx hy rfl rfl
  rwa [bints_eq] at this
end
end Go.GK
