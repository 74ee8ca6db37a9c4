import Derived.Test.YtjmbmodmepdmjabDoorK1
import Derived.ChangeKeysEq
import Derived.WalkLawsBesides
import Derived.Maps.OwnOps
import Derived.Maps.OwnSet
import Derived.Carry
import Derived.Lib.AppendStr
import Derived.Lib.UnsafeStr
import Derived.Lib.Builder
import Derived.Laws.Externs
import Derived.LaidEqlPtr
import Derived.Lib.LaidTab
import Derived.Lib.ItoaNum
import Derived.Sort.OwnSortedInts
import Derived.Deep.Draws
/- Sets of bytes as tests on numbers, and the four words that hold them. No program in sight. -/
namespace Go.GK

def word (p : Nat → Bool) (i : Nat) : BitVec 64 := (BitVec.ofBoolListLE ((List.range 64).map fun j => p (64 * i + j))).cast (by simp)
theorem word_bit (p : Nat → Bool) (i j : Nat) : (word p i).getLsbD j = (decide (j < 64) && p (64 * i + j)) := by
  simp only [word, BitVec.getLsbD_cast, BitVec.getLsbD_ofBoolListLE]
  by_cases h : j < 64
  · simp [h]
  · simp [h]
def bcs (p : Nat → Bool) : Array Value := #[w64 (word p 0), w64 (word p 1), w64 (word p 2), w64 (word p 3)]
def bs (p : Nat → Bool) : Value := .agg (bcs p)
theorem bcs_get (p : Nat → Bool) (i : Nat) (h : i < 4) : (bcs p)[i]? = some (w64 (word p i)) := by
  unfold bcs
  match i, h with
  | 0, _ => rfl
  | 1, _ => rfl
  | 2, _ => rfl
  | 3, _ => rfl
theorem bcs_congr {p q : Nat → Bool} (h : ∀ x, x < 256 → p x = q x) : bcs p = bcs q := by
  have e : ∀ i, i < 4 → word p i = word q i := fun i hi => by
    apply BitVec.eq_of_getLsbD_eq
    intro j hj
    rw [word_bit, word_bit, h _ (by omega)]
  unfold bcs
  rw [e 0 (by omega), e 1 (by omega), e 2 (by omega), e 3 (by omega)]
theorem w64_inj {a b : BitVec 64} (h : w64 a = w64 b) : a = b := by
  simp only [w64, Value.int.injEq, true_and] at h
  exact BitVec.eq_of_toNat_eq (by omega)
theorem bcs_inj {p q : Nat → Bool} (h : bcs p = bcs q) : ∀ x, x < 256 → p x = q x := by
  intro x hx
  have h1 := bcs_get p (x / 64) (by omega)
  rw [h, bcs_get q (x / 64) (by omega)] at h1
  have h2 := w64_inj (Option.some.inj h1)
  have h3 := word_bit p (x / 64) (x % 64)
  rw [← h2, word_bit] at h3
  have h4 : x % 64 < 64 := Nat.mod_lt _ (by decide)
  simp only [h4, decide_true, Bool.true_and] at h3
  rw [show 64 * (x / 64) + x % 64 = x by omega] at h3
  exact h3.symm
theorem bs_eq_iff {p q : Nat → Bool} : bs p = bs q ↔ ∀ x, x < 256 → p x = q x :=
  ⟨fun h => bcs_inj (by unfold bs at h; injection h), fun h => by unfold bs; rw [bcs_congr h]⟩
/- whatever four words -/
def bitsOf (a b c d : BitVec 64) (x : Nat) : Bool :=
  if x < 64 then a.getLsbD x else if x < 128 then b.getLsbD (x - 64) else if x < 192 then c.getLsbD (x - 128) else d.getLsbD (x - 192)
theorem bitsOf_bcs (a b c d : BitVec 64) : #[w64 a, w64 b, w64 c, w64 d] = bcs (bitsOf a b c d) := by
  have e0 : word (bitsOf a b c d) 0 = a := by
    apply BitVec.eq_of_getLsbD_eq; intro j hj; rw [word_bit]; simp [hj, bitsOf]
  have e1 : word (bitsOf a b c d) 1 = b := by
    apply BitVec.eq_of_getLsbD_eq; intro j hj; rw [word_bit]
    simp only [hj, decide_true, Bool.true_and, bitsOf]
    rw [if_neg (by omega), if_pos (by omega), show 64 * 1 + j - 64 = j by omega]
  have e2 : word (bitsOf a b c d) 2 = c := by
    apply BitVec.eq_of_getLsbD_eq; intro j hj; rw [word_bit]
    simp only [hj, decide_true, Bool.true_and, bitsOf]
    rw [if_neg (by omega), if_neg (by omega), if_pos (by omega), show 64 * 2 + j - 128 = j by omega]
  have e3 : word (bitsOf a b c d) 3 = d := by
    apply BitVec.eq_of_getLsbD_eq; intro j hj; rw [word_bit]
    simp only [hj, decide_true, Bool.true_and, bitsOf]
    rw [if_neg (by omega), if_neg (by omega), if_neg (by omega), show 64 * 3 + j - 192 = j by omega]
  unfold bcs
  rw [e0, e1, e2, e3]

theorem has_bit (p : Nat → Bool) (b : Nat) : ((word p (b / 64) >>> (b % 64)) &&& 1#64 = 1#64) ↔ p b = true := by
  have h4 : b % 64 < 64 := Nat.mod_lt _ (by decide)
  have h0 : (word p (b / 64) >>> (b % 64)).getLsbD 0 = p b := by
    rw [BitVec.getLsbD_ushiftRight, word_bit]
    simp only [Nat.add_zero, h4, decide_true, Bool.true_and]
    rw [show 64 * (b / 64) + b % 64 = b by omega]
  constructor
  · intro h
    rw [← h0]
    have := congrArg (fun v => BitVec.getLsbD v 0) h
    simpa using this
  · intro h
    apply BitVec.eq_of_getLsbD_eq
    intro j hj
    rw [BitVec.getLsbD_and]
    by_cases hj0 : j = 0
    · subst hj0; rw [h0, h]; simp
    · simp [BitVec.getLsbD_one, hj0]
theorem or_bit (p : Nat → Bool) (b : Nat) : word p (b / 64) ||| (1#64 <<< (b % 64)) = word (fun x => p x || x == b) (b / 64) := by
  have h4 : b % 64 < 64 := Nat.mod_lt _ (by decide)
  apply BitVec.eq_of_getLsbD_eq
  intro j hj
  rw [BitVec.getLsbD_or, word_bit, word_bit, BitVec.getLsbD_shiftLeft]
  simp only [hj, decide_true, Bool.true_and]
  congr 1
  by_cases e : j = b % 64
  · subst e
    rw [show 64 * (b / 64) + b % 64 = b by omega]
    simp
  · have : (64 * (b / 64) + j == b) = false := by rw [beq_eq_false_iff_ne]; omega
    rw [this]
    by_cases hl : j < b % 64
    · simp [hl]
    · have h5 : ¬ j - b % 64 = 0 := by omega
      simp [BitVec.getLsbD_one, h5]
theorem word_other (p : Nat → Bool) (b i : Nat) (h : i ≠ b / 64) : word (fun x => p x || x == b) i = word p i := by
  apply BitVec.eq_of_getLsbD_eq
  intro j hj
  rw [word_bit, word_bit]
  have : (64 * i + j == b) = false := by rw [beq_eq_false_iff_ne]; omega
  rw [this]; simp
theorem bcs_set (p : Nat → Bool) (b : Nat) (hb : b < 256) : (bcs p).setIfInBounds (b / 64) (w64 (word p (b / 64) ||| (1#64 <<< (b % 64)))) = bcs (fun x => p x || x == b) := by
  rw [or_bit]
  apply Array.ext_getElem?
  intro i
  rw [Array.getElem?_setIfInBounds]
  have hs : (bcs p).size = 4 := rfl
  by_cases hi : i < 4
  · rw [bcs_get _ i hi, bcs_get _ i hi]
    by_cases e : b / 64 = i
    · subst e; simp [hs, hi]
    · simp [e]; rw [word_other p b i (fun x => e x.symm)]
  · have h1 : (bcs p)[i]? = none := by simp [hs]; omega
    have h2 : (bcs (fun x => p x || x == b))[i]? = none := by simp [bcs]; omega
    rw [h1, h2, hs]
    by_cases e : b / 64 = i
    · omega
    · simp [e]
theorem word_or (p q : Nat → Bool) (i : Nat) : word p i ||| word q i = word (fun x => p x || q x) i := by
  apply BitVec.eq_of_getLsbD_eq; intro j hj; rw [BitVec.getLsbD_or, word_bit, word_bit, word_bit]; simp [hj]
theorem word_and (p q : Nat → Bool) (i : Nat) : word p i &&& word q i = word (fun x => p x && q x) i := by
  apply BitVec.eq_of_getLsbD_eq; intro j hj; rw [BitVec.getLsbD_and, word_bit, word_bit, word_bit]; simp [hj]
theorem word_not (p : Nat → Bool) (i : Nat) : ~~~ word p i = word (fun x => !p x) i := by
  apply BitVec.eq_of_getLsbD_eq; intro j hj; rw [BitVec.getLsbD_not, word_bit, word_bit]; simp [hj]
theorem bcs_empty : (#[.int .u64 0, .int .u64 0, .int .u64 0, .int .u64 0] : Array Value) = bcs (fun _ => false) := by
  have : word (fun _ => false) = fun _ => 0#64 := by
    funext i; apply BitVec.eq_of_getLsbD_eq; intro j hj; rw [word_bit]; simp
  unfold bcs; rw [this]; rfl
theorem bcs_one (p : Nat → Bool) : ∀ u ∈ bcs p, u.oneCell' = true := by
  intro u hu; simp [bcs] at hu; rcases hu with rfl | rfl | rfl | rfl <;> rfl
theorem bcs_size (p : Nat → Bool) : (bcs p).size = 4 := rfl
attribute [irreducible] word
end Go.GK
/- Comparing sets of bytes, and arrays of whole numbers, as the program does. -/
namespace Go.GK
section
variable {P : Program}
theorem run_eqItems_ints {d : Nat} {e : TypeId} {k : IntKind} (he : P.underlying e = some (.int k)) (h1 : P.cellsOf e = 1) (w : World) (xs ys : List Int) : ∀ (is : List Nat), (∀ i ∈ is, i < xs.length ∧ i < ys.length) →
    (Op.eqItems (d + 1) e (P.cellsOf e) (xs.map (Value.int k)).toArray (ys.map (Value.int k)).toArray is).run P w = .ok (is.all fun i => xs[i]? == ys[i]?) w
  | [], _ => by simp [Op.eqItems]
  | i :: is, h => by
    have hi := h i (by simp)
    have ih := run_eqItems_ints (d := d) he h1 w xs ys is (fun j hj => h j (by simp [hj]))
    have p1 : (part e (xs.map (Value.int k)).toArray (i * P.cellsOf e)).run P w = .ok (.int k xs[i]) w := by
      simp [part, run_isAgg he, aggB, h1, hi.1]
    have p2 : (part e (ys.map (Value.int k)).toArray (i * P.cellsOf e)).run P w = .ok (.int k ys[i]) w := by
      simp [part, run_isAgg he, aggB, h1, hi.2]
    have p3 : (Op.equalIn (d + 1) e (.int k xs[i]) (.int k ys[i])).run P w = .ok (xs[i] == ys[i]) w := by simp [Op.equalIn, sem_under he]
    simp only [Op.eqItems, Sem.run_bind, p1, p2, p3, Result.andThen_ok]
    by_cases e1 : xs[i] = ys[i]
    · simp only [e1, beq_self_eq_true, Bool.not_true, Bool.false_eq_true, if_false, ih, List.all_cons]
      simp [hi.1, hi.2, e1]
    · simp [hi.1, hi.2, e1]
theorem run_eqArr {t e : TypeId} {n : Nat} {k : IntKind} {bytes : Nat} {z : Value} (ht : P.underlying t = some (.array n e)) (he : P.underlying e = some (.int k)) (hz : TI P e 1 bytes z) (w : World) (xs ys : List Int) (hx : xs.length = n) (hy : ys.length = n) :
    (Op.equal t (.agg (xs.map (Value.int k)).toArray) (.agg (ys.map (Value.int k)).toArray)).run P w = .ok (decide (xs = ys)) w := by
  obtain ⟨i, hi, hs, _⟩ := hz.ex
  have h1 : P.cellsOf e = 1 := by simp [Program.cellsOf, hi, hs]
  have key : ∀ d, (Op.equalIn (d + 1 + 1) t (.agg (xs.map (Value.int k)).toArray) (.agg (ys.map (Value.int k)).toArray)).run P w = .ok (decide (xs = ys)) w := fun d => by
    rw [run_equalIn_array w (d + 1) _ _ ht hi, run_eqItems_ints he h1 w xs ys _ (fun i hi => by have := List.mem_range.1 hi; omega)]
    congr 1
    rw [Bool.eq_iff_iff]
    simp only [List.all_eq_true, List.mem_range, beq_iff_eq, decide_eq_true_iff]
    constructor
    · intro h
      apply List.ext_getElem? 
      intro j
      by_cases hj : j < n
      · exact h j hj
      · rw [List.getElem?_eq_none (by omega), List.getElem?_eq_none (by omega)]
    · intro h j _; rw [h]
  unfold Op.equal Op.maxDepth
  exact key 9998
end
section
variable {P : Program} {T : TypeId} {E : Operand → Option Value} {H : Hp} {O : List Res} {x y : Operand} {Tx Ty e : TypeId} {k : IntKind} {n bytes : Nat} {z : Value}
theorem OpT.eqArr {xs ys : List Int} (hg : P.eqGuardType P.depth Tx = false) (ht : P.underlying Tx = some (.array n e)) (he : P.underlying e = some (.int k)) (hz : TI P e 1 bytes z) (hx : E x = some (.agg (xs.map (Value.int k)).toArray)) (hy : E y = some (.agg (ys.map (Value.int k)).toArray)) (h1 : xs.length = n) (h2 : ys.length = n) :
    OpT P (.binOp .eql Tx x y Ty) T E H O (.bool (decide (xs = ys))) := .of_run fun a w o ho _ he' _ => by
  have h3 := run_eqArr ht he hz w xs ys h1 h2
  have h4 := run_eqGuard_agg w .eql Tx x y (xs.map (Value.int k)).toArray (ys.map (Value.int k)).toArray hg
  have h5 : (binOp .eql Tx (.agg (xs.map (Value.int k)).toArray) (.agg (ys.map (Value.int k)).toArray)).run P w = .ok (.bool (decide (xs = ys))) w := by
    show (do pure (.bool (← Op.equal Tx _ _)) : Sem Value).run P w = _
    simp [h3]
  simp only [execOp, ho, Sem.run_bind, he' x _ hx, he' y _ hy, h4, Result.andThen_ok, h5, Sem.run_pure]
theorem OpT.neArr {xs ys : List Int} (hg : P.eqGuardType P.depth Tx = false) (ht : P.underlying Tx = some (.array n e)) (he : P.underlying e = some (.int k)) (hz : TI P e 1 bytes z) (hx : E x = some (.agg (xs.map (Value.int k)).toArray)) (hy : E y = some (.agg (ys.map (Value.int k)).toArray)) (h1 : xs.length = n) (h2 : ys.length = n) :
    OpT P (.binOp .neq Tx x y Ty) T E H O (.bool (!decide (xs = ys))) := .of_run fun a w o ho _ he' _ => by
  have h3 := run_eqArr ht he hz w xs ys h1 h2
  have h4 := run_eqGuard_agg w .neq Tx x y (xs.map (Value.int k)).toArray (ys.map (Value.int k)).toArray hg
  have h5 : (binOp .neq Tx (.agg (xs.map (Value.int k)).toArray) (.agg (ys.map (Value.int k)).toArray)).run P w = .ok (.bool (!decide (xs = ys))) w := by
    show (do pure (.bool (!(← Op.equal Tx _ _))) : Sem Value).run P w = _
    simp [h3]
  simp only [execOp, ho, Sem.run_bind, he' x _ hx, he' y _ hy, h4, Result.andThen_ok, h5, Sem.run_pure]
def eqS (p q : Nat → Bool) : Bool := (List.range 256).all fun x => p x == q x
theorem eqS_iff {p q : Nat → Bool} : eqS p q = true ↔ ∀ x, x < 256 → p x = q x := by simp [eqS, List.all_eq_true]
theorem eqS_bs {p q : Nat → Bool} : eqS p q = true ↔ bs p = bs q := by rw [eqS_iff, bs_eq_iff]
def bints (p : Nat → Bool) : List Int := [((word p 0).toNat : Int), ((word p 1).toNat : Int), ((word p 2).toNat : Int), ((word p 3).toNat : Int)]
theorem bints_eq {p q : Nat → Bool} : decide (bints p = bints q) = eqS p q := by
  rw [Bool.eq_iff_iff, decide_eq_true_iff, eqS_bs]
  have : ∀ p, bs p = .agg ((bints p).map (Value.int .u64)).toArray := fun p => rfl
  rw [this, this]
  constructor
  · intro h; rw [h]
  · intro h
    have h' := congrArg (fun v : Value => match v with | .agg a => a.toList | _ => []) h
    simpa [bints] using h'
theorem OpT.eqBs {p q : Nat → Bool} (hg : P.eqGuardType P.depth Tx = false) (ht : P.underlying Tx = some (.array 4 e)) (he : P.underlying e = some (.int .u64)) (hz : TI P e 1 bytes z) (hx : E x = some (.agg (bcs p))) (hy : E y = some (.agg (bcs q))) :
    OpT P (.binOp .eql Tx x y Ty) T E H O (.bool (eqS p q)) := by
  have := OpT.eqArr (P := P) (T := T) (H := H) (O := O) (Ty := Ty) (xs := bints p) (ys := bints q) hg ht he hz hx hy rfl rfl
  rwa [bints_eq] at this
theorem OpT.neBs {p q : Nat → Bool} (hg : P.eqGuardType P.depth Tx = false) (ht : P.underlying Tx = some (.array 4 e)) (he : P.underlying e = some (.int .u64)) (hz : TI P e 1 bytes z) (hx : E x = some (.agg (bcs p))) (hy : E y = some (.agg (bcs q))) :
    OpT P (.binOp .neq Tx x y Ty) T E H O (.bool (!eqS p q)) := by
  have := OpT.neArr (P := P) (T := T) (H := H) (O := O) (Ty := Ty) (xs := bints p) (ys := bints q) hg ht he hz hx hy rfl rfl
  rwa [bints_eq] at this
end
end Go.GK
/- What a function computes, as a plain function; how plain data lie in memory. -/
namespace Go.GK

/- Plain functions that may have no result (a panic, no end, a number that does not fit). -/
def idx {α : Type} (l : List α) (i : Int) : Option α := if 0 ≤ i then l[i.toNat]? else none
def chk {α : Type} (p : Prop) [Decidable p] (k : Option α) : Option α := if p then k else none
def bnd {α β : Type} (x : Option α) (k : α → Option β) : Option β := match x with
  | some a => k a
  | none => none
def loopK {X R : Type} : Nat → (X → (X → Option R) → Option R) → X → Option R
  | 0, _, _ => none
  | n + 1, b, x => b x (loopK n b)
section
variable {α β X R : Type}
theorem chk_some {p : Prop} [Decidable p] {k : Option α} {r : α} (h : chk p k = some r) : p ∧ k = some r := by
  unfold chk at h; split at h
  · exact ⟨‹p›, h⟩
  · cases h
theorem bnd_some {x : Option α} {k : α → Option β} {r : β} (h : bnd x k = some r) : ∃ a, x = some a ∧ k a = some r := by
  cases x with
  | none => cases h
  | some a => exact ⟨a, rfl, h⟩
theorem brT {b : Bool} {x y : Option α} {r : α} (h : b = true) (hd : (bif b then x else y) = some r) : x = some r := by subst h; exact hd
theorem brF {b : Bool} {x y : Option α} {r : α} (h : b = false) (hd : (bif b then x else y) = some r) : y = some r := by subst h; exact hd
theorem loopK_some {n : Nat} {b : X → (X → Option R) → Option R} {x : X} {r : R} (h : loopK n b x = some r) : ∃ m, n = m + 1 ∧ b x (loopK m b) = some r := by
  cases n with
  | zero => cases h
  | succ m => exact ⟨m, rfl, h⟩
theorem idx_some {l : List α} {i : Int} {x : α} (h : idx l i = some x) : (0 ≤ i ∧ i < (l.length : Nat)) ∧ l[i.toNat]? = some x := by
  unfold idx at h
  split at h
  · have := (List.getElem?_eq_some_iff.1 h).1
    exact ⟨⟨by assumption, by omega⟩, h⟩
  · cases h
theorem idx_bd {l : List α} {i : Int} {x : α} (h : idx l i = some x) : 0 ≤ i ∧ i < (l.length : Nat) := (idx_some h).1
end

/- How a datum lies in cells. -/
structure Cd (α : Type) where
  sz : Nat
  Lay : Hp → α → List Value → Prop
  len : ∀ {H a cs}, Lay H a cs → cs.length = sz
  mono : ∀ {H H' a cs}, H.le H' → Lay H a cs → Lay H' a cs
  one : ∀ {H a cs}, Lay H a cs → ∀ u ∈ cs, u.oneCell' = true

def LayL {α : Type} (c : Cd α) (H : Hp) : List α → List Value → Prop
  | [], xs => xs = []
  | a :: l, xs => ∃ cs ys, xs = cs ++ ys ∧ c.Lay H a cs ∧ LayL c H l ys
structure SlD {α : Type} (c : Cd α) (H : Hp) (l : List α) (v : Value) : Prop where
  ex : ∃ xs, Sl H v c.sz l.length xs ∧ LayL c H l xs
  le : l.length ≤ 9223372036854775807

def cI64 : Cd Int where
  sz := 1
  Lay _ n cs := cs = [.int .i64 n]
  len h := by subst h; rfl
  mono _ h := h
  one h := by subst h; intro u hu; simp at hu; subst hu; rfl
def cU8 : Cd Int where
  sz := 1
  Lay _ n cs := cs = [.int .u8 n] ∧ 0 ≤ n ∧ n ≤ 255
  len h := by rw [h.1]; rfl
  mono _ h := h
  one h := by rw [h.1]; intro u hu; simp at hu; subst hu; rfl
def cB : Cd Bool where
  sz := 1
  Lay _ b cs := cs = [.bool b]
  len h := by subst h; rfl
  mono _ h := h
  one h := by subst h; intro u hu; simp at hu; subst hu; rfl
abbrev Str := List UInt8
def sv (s : Str) : Value := .string ⟨⟨s⟩⟩
def cS : Cd Str where
  sz := 1
  Lay _ s cs := cs = [sv s]
  len h := by subst h; rfl
  mono _ h := h
  one h := by subst h; intro u hu; simp at hu; subst hu; rfl
abbrev BSet := Nat → Bool
def cBs : Cd BSet where
  sz := 4
  Lay _ p cs := cs = (bcs p).toList
  len h := by subst h; rfl
  mono _ h := h
  one h := by subst h; intro u hu; exact bcs_one _ u (by simpa using hu)
def cP {α β : Type} (c : Cd α) (d : Cd β) : Cd (α × β) where
  sz := c.sz + d.sz
  Lay H a cs := ∃ c1 c2, cs = c1 ++ c2 ∧ c.Lay H a.1 c1 ∧ d.Lay H a.2 c2
  len h := by obtain ⟨c1, c2, rfl, h1, h2⟩ := h; simp [c.len h1, d.len h2]
  mono hl h := by obtain ⟨c1, c2, rfl, h1, h2⟩ := h; exact ⟨c1, c2, rfl, c.mono hl h1, d.mono hl h2⟩
  one h := by
    obtain ⟨c1, c2, rfl, h1, h2⟩ := h
    intro u hu; rcases List.mem_append.1 hu with hu | hu
    · exact c.one h1 u hu
    · exact d.one h2 u hu

section
variable {α : Type} {c : Cd α} {H H' : Hp}
theorem LayL.len : ∀ {l : List α} {xs : List Value}, LayL c H l xs → xs.length = l.length * c.sz
  | [], xs, h => by simp only [LayL] at h; subst h; simp
  | a :: l, xs, ⟨cs, ys, e, h1, h2⟩ => by subst e; simp [c.len h1, LayL.len h2, Nat.add_mul, Nat.add_comm]
theorem LayL.mono (hl : H.le H') : ∀ {l : List α} {xs : List Value}, LayL c H l xs → LayL c H' l xs
  | [], _, h => h
  | _ :: _, _, ⟨cs, ys, e, h1, h2⟩ => ⟨cs, ys, e, c.mono hl h1, LayL.mono hl h2⟩
theorem LayL.one : ∀ {l : List α} {xs : List Value}, LayL c H l xs → ∀ u ∈ xs, u.oneCell' = true
  | [], xs, h, u, hu => by simp only [LayL] at h; subst h; cases hu
  | _ :: _, _, ⟨cs, ys, e, h1, h2⟩, u, hu => by
    subst e
    rcases List.mem_append.1 hu with hu | hu
    · exact c.one h1 u hu
    · exact LayL.one h2 u hu
theorem LayL.nil : LayL c H [] [] := rfl
theorem LayL.sing {a : α} {cs : List Value} (h : c.Lay H a cs) : LayL c H [a] cs := ⟨cs, [], by simp, h, rfl⟩
theorem LayL.app : ∀ {l l' : List α} {xs xs' : List Value}, LayL c H l xs → LayL c H l' xs' → LayL c H (l ++ l') (xs ++ xs')
  | [], _, xs, _, h, h' => by simp only [LayL] at h; subst h; simpa using h'
  | _ :: _, _, _, _, ⟨cs, ys, e, h1, h2⟩, h' => by subst e; exact ⟨cs, _, by rw [List.append_assoc], h1, LayL.app h2 h'⟩
theorem LayL.get : ∀ {l : List α} {xs : List Value} {i : Nat} {x : α}, LayL c H l xs → l[i]? = some x → ∃ cs, c.Lay H x cs ∧ (∀ j u, cs[j]? = some u → xs[i * c.sz + j]? = some u) ∧ cs = (xs.drop (i * c.sz)).take c.sz
  | [], _, _, _, _, h => by simp at h
  | a :: l, _, 0, x, ⟨cs, ys, e, h1, h2⟩, h => by
    simp at h; subst h; subst e
    refine ⟨cs, h1, fun j u hj => ?_, ?_⟩
    · have := (List.getElem?_eq_some_iff.1 hj).1
      rw [Nat.zero_mul, Nat.zero_add, List.getElem?_append_left this]; exact hj
    · rw [Nat.zero_mul, List.drop_zero, List.take_append_of_le_length (by rw [c.len h1]; exact Nat.le_refl _), List.take_of_length_le (by rw [c.len h1]; exact Nat.le_refl _)]
  | a :: l, _, i + 1, x, ⟨cs, ys, e, h1, h2⟩, h => by
    subst e
    obtain ⟨cs', g1, g2, g3⟩ := LayL.get h2 (by simpa using h)
    have e : (i + 1) * c.sz = cs.length + i * c.sz := by rw [c.len h1, Nat.add_mul]; omega
    refine ⟨cs', g1, fun j u hj => ?_, ?_⟩
    · rw [e, Nat.add_assoc, List.getElem?_append_right (by omega), Nat.add_sub_cancel_left]; exact g2 j u hj
    · rw [e, List.drop_append, List.drop_of_length_le (by omega), Nat.add_sub_cancel_left, List.nil_append]; exact g3
theorem LayL.set : ∀ {l : List α} {xs : List Value} {i : Nat} {y : α} {vs : List Value}, LayL c H l xs → i < l.length → c.Lay H y vs → LayL c H (l.set i y) (spl xs (i * c.sz) vs)
  | [], _, _, _, _, _, h, _ => by simp at h
  | a :: l, _, 0, y, vs, ⟨cs, ys, e, h1, h2⟩, _, hy => by
    subst e
    refine ⟨vs, ys, ?_, hy, h2⟩
    unfold spl
    rw [Nat.zero_mul, List.take_zero, List.nil_append, Nat.zero_add, List.drop_append, List.drop_of_length_le (by rw [c.len h1, c.len hy]; exact Nat.le_refl _), c.len h1, c.len hy]; simp
  | a :: l, _, i + 1, y, vs, ⟨cs, ys, e, h1, h2⟩, hi, hy => by
    subst e
    refine ⟨cs, spl ys (i * c.sz) vs, ?_, h1, LayL.set h2 (by simpa using hi) hy⟩
    have e : (i + 1) * c.sz = cs.length + i * c.sz := by rw [c.len h1, Nat.add_mul]; omega
    unfold spl
    rw [e, List.take_append, List.take_of_length_le (by omega), Nat.add_sub_cancel_left, Nat.add_assoc, List.drop_append, List.drop_of_length_le (by omega : cs.length ≤ cs.length + (i * c.sz + vs.length)), Nat.add_sub_cancel_left]
    simp
/- a part of an element -/
theorem spl_spl (xs : List Value) (k off s : Nat) (cs vs : List Value) (hcs : cs = (xs.drop k).take s) (hlen : cs.length = s) (hk : off + vs.length ≤ s) : spl xs (k + off) vs = spl xs k (spl cs off vs) := by
  subst hcs
  have hl : s ≤ (xs.drop k).length := by rw [List.length_take] at hlen; omega
  have h3 : (spl ((xs.drop k).take s) off vs).length = s := by rw [spl_length _ _ _ (by rw [hlen]; exact hk)]; exact hlen
  unfold spl at *
  rw [h3]
  have a1 : xs.take (k + off) = xs.take k ++ (xs.drop k).take off := by rw [List.take_add]
  have a2 : ((xs.drop k).take s).take off = (xs.drop k).take off := by rw [List.take_take, Nat.min_eq_left (by omega)]
  have a3 : xs.drop (k + off + vs.length) = ((xs.drop k).take s).drop (off + vs.length) ++ xs.drop (k + s) := by
    have : xs.drop (k + off + vs.length) = (xs.drop k).drop (off + vs.length) := by rw [List.drop_drop]; congr 1; omega
    rw [this]
    have e : xs.drop k = (xs.drop k).take s ++ xs.drop (k + s) := by
      have := (List.take_append_drop s (xs.drop k)).symm
      rw [List.drop_drop] at this; exact this
    conv => lhs; rw [e]
    rw [List.drop_append, hlen]
    have : off + vs.length - s = 0 := by omega
    rw [this, List.drop_zero]
  rw [a1, a2, a3]
  simp
theorem LayL.part {l : List α} {xs : List Value} {i off : Nat} {x y : α} {cs vs : List Value} (h : LayL c H l xs) (hx : l[i]? = some x) (hcs : cs = (xs.drop (i * c.sz)).take c.sz) (hlen : cs.length = c.sz) (hk : off + vs.length ≤ c.sz) (hy : c.Lay H y (spl cs off vs)) :
    LayL c H (l.set i y) (spl xs (i * c.sz + off) vs) := by
  rw [spl_spl xs _ off c.sz cs vs hcs hlen hk]
  exact h.set (List.getElem?_eq_some_iff.1 hx).1 hy
theorem LayL.take : ∀ {l : List α} {xs : List Value} (m : Nat), LayL c H l xs → LayL c H (l.take m) (xs.take (m * c.sz))
  | [], xs, m, h => by simp only [LayL] at h; subst h; simp [LayL]
  | a :: l, xs, 0, h => by simp [LayL]
  | a :: l, _, m + 1, ⟨cs, ys, e, h1, h2⟩ => by
    subst e
    refine ⟨cs, ys.take (m * c.sz), ?_, h1, LayL.take m h2⟩
    rw [show (m + 1) * c.sz = cs.length + m * c.sz by rw [c.len h1, Nat.add_mul]; omega, List.take_append, List.take_of_length_le (by omega), Nat.add_sub_cancel_left]
theorem LayL.rep {z : α} {zs : Array Value} (hz : c.Lay H z zs.toList) (h0 : 0 < c.sz) : ∀ m, LayL c H (List.replicate m z) (madeCells zs (m * c.sz)).toList := by
  have hs : zs.size = c.sz := by rw [← c.len hz]; simp
  have key : ∀ m, (madeCells zs (m * c.sz)).toList = (List.replicate m zs.toList).flatten := by
    intro m
    apply List.ext_getElem
    · simp [madeCells, List.length_flatten, hs]
    · intro i h1 h2
      simp only [madeCells, Array.toList_map, Array.toList_range, List.getElem_map, List.getElem_range]
      have hi : i < m * c.sz := by simpa [madeCells] using h1
      have : ∀ m i (h : i < m * c.sz) (h2 : i < (List.replicate m zs.toList).flatten.length), (List.replicate m zs.toList).flatten[i] = zs[i % zs.size]! := by
        intro m
        induction m with
        | zero => intro i h; simp at h
        | succ m ih =>
          intro i h h2
          simp only [List.replicate_succ, List.flatten_cons]
          by_cases hlt : i < zs.size
          · rw [List.getElem_append_left (by simpa using hlt), Nat.mod_eq_of_lt hlt]
            simp [hlt]
          · rw [List.getElem_append_right (by simpa using hlt)]
            have h3 : i - zs.toList.length < m * c.sz := by simp [hs]; rw [Nat.add_mul] at h; omega
            rw [ih _ h3]
            have h4 : (i - zs.toList.length) % zs.size = i % zs.size := by
              have : zs.size ≤ i := by omega
              simp only [Array.length_toList]
              conv => rhs; rw [← Nat.sub_add_cancel this, Nat.add_mod_right]
            rw [h4]
      exact (this m i hi h2).symm
  intro m
  rw [key]
  induction m with
  | zero => exact rfl
  | succ m ih => exact ⟨zs.toList, (List.replicate m zs.toList).flatten, by simp [List.replicate_succ], hz, ih⟩
theorem SlD.mono {l : List α} {v : Value} (hl : H.le H') (h : SlD c H l v) : SlD c H' l v := by
  obtain ⟨⟨xs, h1, h2⟩, h3⟩ := h
  exact ⟨⟨xs, h1.mono hl, h2.mono hl⟩, h3⟩
theorem SlD.sl {l : List α} {v : Value} (h : SlD c H l v) : SlLen v l.length := by
  obtain ⟨⟨xs, h1, h2⟩, h3⟩ := h
  exact h1.sl
theorem SlD.one {l : List α} {v : Value} (h : SlD c H l v) : v.oneCell' = true := by
  rcases h.sl with ⟨rfl, _⟩ | ⟨a, cap, rfl⟩ <;> rfl
theorem SlD.nil : SlD c H [] (.slice none 0 0) := ⟨⟨[], Sl.nil H _, rfl⟩, by simp⟩
theorem SlD.get {l : List α} {v : Value} {i : Int} {x : α} (h : SlD c H l v) (hi : idx l i = some x) : ∃ cs, c.Lay H x cs ∧ ∀ j u, cs[j]? = some u → HCell H (elemPtr v (i.toNat * c.sz + j)) u := by
  obtain ⟨⟨xs, h1, h2⟩, h3⟩ := h
  obtain ⟨cs, g1, g2, _⟩ := h2.get (idx_some hi).2
  exact ⟨cs, g1, fun j u hj => h1.cells _ u (g2 j u hj)⟩
theorem SlD.of {l : List α} {v : Value} {n : Nat} {xs : List Value} (h : Sl H v c.sz n xs) (hn : n = l.length) (hx : LayL c H l xs) (hle : l.length ≤ 9223372036854775807) : SlD c H l v := by
  subst hn; exact ⟨⟨xs, h, hx⟩, hle⟩
end
/- a slice's own codec -/
def cL {α : Type} (c : Cd α) : Cd (List α) where
  sz := 1
  Lay H l cs := ∃ v, cs = [v] ∧ SlD c H l v
  len h := by obtain ⟨v, rfl, _⟩ := h; rfl
  mono hl h := by obtain ⟨v, e, h⟩ := h; exact ⟨v, e, h.mono hl⟩
  one h := by obtain ⟨v, rfl, h⟩ := h; intro u hu; simp at hu; subst hu; exact h.one
/- an array that is not taken apart -/
def cA {α : Type} (n : Nat) (c : Cd α) : Cd (List α) where
  sz := n * c.sz
  Lay H l cs := l.length = n ∧ LayL c H l cs
  len h := by rw [h.2.len, h.1]
  mono hl h := ⟨h.1, h.2.mono hl⟩
  one h := h.2.one

/- Loads. -/
section
variable {P : Program} {T : TypeId} {E : Operand → Option Value} {H : Hp} {O : List Res} {x : Operand} {t : TypeId} {d : TypeDesc}
theorem OpT.ldH {p u : Value} (ht : P.underlying t = some d) (hd : aggB d = false) (hx : E x = some p) (hc : HCell H p u) : OpT P (.load t x) T E H O u := .of_run fun ac w o ho _ he hs => by
  obtain ⟨a, h1, h2⟩ := hc.cell hs
  rw [h1] at hx
  simp [execOp, ho, he x _ hx, Instr.loadAt, Instr.sureAddr, run_loadVar_one ht hd h2]
theorem OpT.ldHA {v : Value} {k bytes : Nat} {z : Value} {vs : List Value} (ht : P.underlying t = some d) (hd : aggB d = true) (hsz : TI P t vs.length bytes z) (h0 : vs.isEmpty = false) (hx : E x = some (elemPtr v k)) (hc : ∀ j u, vs[j]? = some u → HCell H (elemPtr v (k + j)) u) :
    OpT P (.load t x) T E H O (.agg vs.toArray) := .of_run fun ac w o ho _ he hs => by
  obtain ⟨a, h1, h2⟩ := HCells.cells hs (v := v) (k := k) (by intro e; subst e; simp at h0) hc
  rw [h1] at hx
  simp [execOp, ho, he x _ hx, Instr.loadAt, Instr.sureAddr, run_loadVar_agg (w := w) ht hd hsz h2]
end

/- Loops and places where ways meet, with what varies as something that exists. -/
section
variable {P : Program} {Q : Exit → Act → World → Prop} {n : Nat} {L L' : List (Nat × Value)} {H : Hp} {O : List Res}
def NextE (I : Nat → List (Nat × Value) → Hp → List Res → Prop) (n m : Nat) (H' : Hp) (a : Act) (w : World) : Prop :=
  ∃ m' L H'' O, m' < m ∧ H'.le H'' ∧ I m' L H'' O ∧ Fr a n L ∧ SH w H'' O
theorem Wp.loopE {c : Code} (I : Nat → List (Nat × Value) → Hp → List Res → Prop) (m : Nat) (hI : I m L H O)
    (round : ∀ m L' H' O', H.le H' → I m L' H' O' → Wp P c (Exit.then (NextE I n m H') Q) n L' H' O') : Wp P (.loop c) Q n L H O := by
  intro a w hf hs
  refine wp_loopG (X := Nat × List (Nat × Value) × Hp × List Res) (fun y a w => H.le y.2.2.1 ∧ I y.1 y.2.1 y.2.2.1 y.2.2.2 ∧ Fr a n y.2.1 ∧ SH w y.2.2.1 y.2.2.2) (fun y => y.1) (x := (m, L, H, O)) ⟨Hp.le.refl H, hI, hf, hs⟩ ?_
  rintro ⟨m, L', H', O'⟩ a w ⟨h1, h2, h3, h4⟩
  refine wp_mono (round m L' H' O' h1 h2 a w h3 h4) fun e a' w' q => ?_
  cases e with
  | normal =>
    obtain ⟨m', L, H'', O, g1, g2, g3, g4, g5⟩ := q
    exact ⟨(m', L, H'', O), ⟨h1.trans g2, g3, g4, g5⟩, g1⟩
  | _ => exact q
theorem At.nextE {I : Nat → List (Nat × Value) → Hp → List Res → Prop} {m : Nat} {H' : Hp} (m' : Nat) (hm : m' < m) (hH : H'.le H) (hL : Sub L' L) (hI : I m' L' H O) : At (Exit.then (NextE I n m H') Q) .normal n L H O :=
  fun _ _ hf hs => ⟨m', L', H, O, hm, hH, hI, hf.sub hL, hs⟩
theorem Sub.of (h : L'.map (fun p => lk L p.1) = L'.map (fun p => some p.2)) : Sub L' L := by
  induction L' with
  | nil => exact .nil
  | cons p l ih =>
    simp only [List.map_cons, List.cons.injEq] at h
    exact .cons h.1 (ih h.2)
theorem At.nextF {I : Nat → List (Nat × Value) → Hp → List Res → Prop} {m : Nat} {H' : Hp} (hH : H'.le H) (hI : I m L' H O) (hL : Sub L' L) : At (Exit.then (NextE I n (m + 1) H') Q) .normal n L H O := At.nextE m (Nat.lt_succ_self _) hH hL hI
theorem Wp.loopF {c : Code} (I : Nat → List (Nat × Value) → Hp → List Res → Prop) (m : Nat) (hI : I m L' H O) (hL : Sub L' L)
    (round : ∀ m L' H' O', H.le H' → I m L' H' O' → Wp P c (Exit.then (NextE I n m H') Q) n L' H' O') : Wp P (.loop c) Q n L H O := Wp.sub hL (Wp.loopE I m hI round)
def JoinE (J : List (Nat × Value) → Hp → List Res → Prop) (n : Nat) (H : Hp) (a : Act) (w : World) : Prop := ∃ L H' O, H.le H' ∧ J L H' O ∧ Fr a n L ∧ SH w H' O
theorem Wp.joinE {x y : Code} (J : List (Nat × Value) → Hp → List Res → Prop) (hx : Wp P x (Exit.then (JoinE J n H) Q) n L H O) (hy : ∀ L' H' O', H.le H' → J L' H' O' → Wp P y Q n L' H' O') : Wp P (.seq x y) Q n L H O := fun a w hf hs =>
  wp_seq (wp_mono (hx a w hf hs) fun e a' w' q => by
    cases e with
    | normal =>
      obtain ⟨L', H', O', g1, g2, g3, g4⟩ := q
      exact hy L' H' O' g1 g2 a' w' g3 g4
    | _ => exact q)
theorem At.joinE {J : List (Nat × Value) → Hp → List Res → Prop} {H' : Hp} (hH : H'.le H) (hL : Sub L' L) (hJ : J L' H O) : At (Exit.then (JoinE J n H') Q) .normal n L H O :=
  fun _ _ hf hs => ⟨L', H, O, hH, hJ, hf.sub hL, hs⟩

theorem At.joinF {J : List (Nat × Value) → Hp → List Res → Prop} {H' : Hp} (hH : H'.le H) (hJ : J L' H O) (hL : Sub L' L) : At (Exit.then (JoinE J n H') Q) .normal n L H O := At.joinE hH hL hJ
/- Owned things in another order, some of them given up. -/
def permO (ks : List Nat) (k : Nat) (O : List Res) : List Res := ks.filterMap (O[·]?) ++ O.drop k
def nodupB : List Nat → Bool
  | [] => true
  | k :: ks => !memB ks k && nodupB ks
theorem nodupB_spec : ∀ {ks : List Nat}, nodupB ks = true → ∀ (i j a : Nat), ks[i]? = some a → ks[j]? = some a → i = j
  | [], _, i, _, a, h, _ => by simp at h
  | k :: ks, hn, i, j, a, hi, hj => by
    simp only [nodupB, Bool.and_eq_true, Bool.not_eq_true'] at hn
    have hk : ∀ q, ks[q]? = some k → False := fun q hq => by
      have := memB_iff.2 (List.mem_of_getElem? hq)
      rw [hn.1] at this; cases this
    cases i with
    | zero =>
      cases j with
      | zero => rfl
      | succ j => simp at hi hj; subst hi; exact (hk j hj).elim
    | succ i =>
      cases j with
      | zero => simp at hi hj; subst hj; exact (hk i hi).elim
      | succ j => rw [nodupB_spec hn.2 i j a (by simpa using hi) (by simpa using hj)]
theorem SH.permO {w : World} (ks : List Nat) (k : Nat) (hk : (ks.all fun q => Nat.blt q k) = true) (hn : nodupB ks = true) (hl : k ≤ O.length) (h : SH w H O) : SH w H (permO ks k O) := by
  have hlt : ∀ q ∈ ks, q < O.length := fun q hq => by have := List.all_eq_true.1 hk q hq; simp at this; omega
  have hlt2 : ∀ q ∈ ks, q < k := fun q hq => by have := List.all_eq_true.1 hk q hq; simpa using this
  have hfm : ∀ ks : List Nat, (∀ q ∈ ks, q < O.length) → ks.filterMap (O[·]?) = ks.map (fun q => O.getD q .emp) := by
    intro ks
    induction ks with
    | nil => intro _; rfl
    | cons q ks ih =>
      intro h
      have hq := h q (by simp)
      rw [List.filterMap_cons, List.getElem?_eq_getElem hq, List.map_cons, ih fun q' h' => h q' (by simp [h'])]
      simp [hq]
  have hf := hfm ks hlt
  refine h.pick (fun i => if i < ks.length then ks.getD i 0 else k + (i - ks.length)) (fun i r hr => ?_) (fun i j hi hj he => ?_)
  · unfold GK.permO at hr
    rw [hf] at hr
    by_cases hi : i < ks.length
    · rw [List.getElem?_append_left (by simpa using hi)] at hr
      have hq : ks[i] < O.length := hlt _ (List.getElem_mem hi)
      simp only [List.getElem?_map, List.getElem?_eq_getElem hi, Option.map_some] at hr
      simp only [hi, if_true, List.getD_eq_getElem?_getD, List.getElem?_eq_getElem hi, Option.getD_some]
      rw [List.getD_eq_getElem?_getD, List.getElem?_eq_getElem hq] at hr
      rw [List.getElem?_eq_getElem hq]; exact hr
    · rw [List.getElem?_append_right (by simpa using hi)] at hr
      simp only [hi, if_false]
      simpa using hr
  · by_cases h1 : i < ks.length <;> by_cases h2 : j < ks.length
    · rw [if_pos h1, if_pos h2] at he
      refine nodupB_spec hn i j ks[i] (by simp [h1]) ?_
      simp only [List.getD_eq_getElem?_getD, List.getElem?_eq_getElem h1, List.getElem?_eq_getElem h2, Option.getD_some] at he
      rw [List.getElem?_eq_getElem h2, he]
    · rw [if_pos h1, if_neg h2] at he
      have := hlt2 _ (List.getElem_mem h1)
      simp only [List.getD_eq_getElem?_getD, List.getElem?_eq_getElem h1, Option.getD_some] at he
      omega
    · rw [if_neg h1, if_pos h2] at he
      have := hlt2 _ (List.getElem_mem h2)
      simp only [List.getD_eq_getElem?_getD, List.getElem?_eq_getElem h2, Option.getD_some] at he
      omega
    · rw [if_neg h1, if_neg h2] at he
      omega
theorem At.perm {e : Exit} (ks : List Nat) {R : List Res} (O' : List Res) (hk : (ks.all fun q => Nat.blt q R.length) = true) (hn : nodupB ks = true) (hO : O = R ++ O') (k : At Q e n L H (ks.filterMap (R[·]?) ++ O')) : At Q e n L H O := fun a w hf hs => by
  subst hO
  have := SH.permO ks R.length hk hn (by simp) hs
  refine k a w hf ?_
  have e : GK.permO ks R.length (R ++ O') = ks.filterMap (R[·]?) ++ O' := by
    unfold GK.permO
    rw [List.drop_append_of_le_length (Nat.le_refl _), List.drop_length, List.nil_append]
    congr 1
    have key : ∀ ks : List Nat, (∀ q ∈ ks, q < R.length) → ks.filterMap ((R ++ O')[·]?) = ks.filterMap (R[·]?) := by
      intro ks
      induction ks with
      | nil => intro _; rfl
      | cons q ks ih =>
        intro h
        rw [List.filterMap_cons, List.filterMap_cons, ih fun q' h' => h q' (by simp [h']), List.getElem?_append_left (h q (by simp))]
    exact key ks fun q hq => by have := List.all_eq_true.1 hk q hq; simpa using this
  rw [← e]; exact this
theorem Seg.perm {ops : Array Oper} {rest : List Oper} (ks : List Nat) {R : List Res} (O' : List Res) (hk : (ks.all fun q => Nat.blt q R.length) = true) (hn : nodupB ks = true) (hO : O = R ++ O') (k : Seg P ops Q rest n L H (ks.filterMap (R[·]?) ++ O')) : Seg P ops Q rest n L H O :=
  At.perm (Q := fun _ a w => wpList P ops Q rest a w) (e := .normal) ks O' hk hn hO k
theorem Wp.perm {c : Code} (ks : List Nat) {R : List Res} (O' : List Res) (hk : (ks.all fun q => Nat.blt q R.length) = true) (hn : nodupB ks = true) (hO : O = R ++ O') (k : Wp P c Q n L H (ks.filterMap (R[·]?) ++ O')) : Wp P c Q n L H O :=
  At.perm (Q := fun _ a w => c.wp P Q a w) (e := .normal) ks O' hk hn hO k
/- the length of a row -/
theorem SH.rowLe {w : World} (hs : SH w H O) {i size m : Nat} {v : Value} {e : TypeId} {xs : List Value} (hi : O[i]? = some (.row v e size m xs)) : m ≤ 9223372036854775807 := by
  have h := hs.ok i _ hi
  simp only [Res.ok] at h
  rcases h.2 with ⟨rfl, rfl⟩ | ⟨g, cap, cur, rfl, _, _, h1, h2, _⟩
  · omega
  · simp only [maxLen] at h2; omega
theorem Seg.rowLe {ops : Array Oper} {rest : List Oper} {i size m : Nat} {v : Value} {e : TypeId} {xs : List Value} (hi : O[i]? = some (.row v e size m xs)) (k : m ≤ 9223372036854775807 → Seg P ops Q rest n L H O) : Seg P ops Q rest n L H O := fun a w hf hs => k (hs.rowLe hi) a w hf hs
theorem Wp.rowLe {c : Code} {i size m : Nat} {v : Value} {e : TypeId} {xs : List Value} (hi : O[i]? = some (.row v e size m xs)) (k : m ≤ 9223372036854775807 → Wp P c Q n L H O) : Wp P c Q n L H O := fun a w hf hs => k (hs.rowLe hi) a w hf hs
theorem At.rowLe {e' : Exit} {i size m : Nat} {v : Value} {e : TypeId} {xs : List Value} (hi : O[i]? = some (.row v e size m xs)) (k : m ≤ 9223372036854775807 → At Q e' n L H O) : At Q e' n L H O := fun a w hf hs => k (hs.rowLe hi) a w hf hs
theorem Wp.emp {c : Code} (k : Wp P c Q n L H (.emp :: O)) : Wp P c Q n L H O := fun a w hf hs =>
  k a w hf (hs.push (World.grownBy.refl w none) trivial (fun b hb => by cases hb))
end
end Go.GK
/- Operations on what holds data. -/
namespace Go.GK
abbrev F64 (n : Int) : Prop := -9223372036854775808 ≤ n ∧ n ≤ 9223372036854775807
abbrev F8 (n : Int) : Prop := 0 ≤ n ∧ n ≤ 255
/- as many as a list may have -/
abbrev capN : Nat := 1099511627776
theorem ones_nil : ∀ u ∈ ([] : List Value), u.oneCell' = true := fun u h => by cases h
theorem ones_cons {v : Value} {l : List Value} (h : v.oneCell' = true) (k : ∀ u ∈ l, u.oneCell' = true) : ∀ u ∈ v :: l, u.oneCell' = true := fun u hu => by
  rcases List.mem_cons.1 hu with rfl | hu
  · exact h
  · exact k u hu
theorem onesA {l : List Value} (h : ∀ u ∈ l, u.oneCell' = true) : ∀ u ∈ l.toArray, u.oneCell' = true := fun u hu => h u (by simpa using hu)
section
variable {P : Program} {Q : Exit → Act → World → Prop} {n : Nat} {L L' : List (Nat × Value)} {H : Hp} {O : List Res}
theorem SH.permK {w : World} (ks : List Nat) (k : Nat) (hk : (ks.all fun q => Nat.blt q k) = true) (hn : nodupB ks = true) (hl : (O.take k).length = k) (h : SH w H O) : SH w H (ks.filterMap (O[·]?) ++ O.drop k) :=
  SH.permO ks k hk hn (by rw [List.length_take] at hl; omega) h
theorem At.permK {e : Exit} (ks : List Nat) (k : Nat) (hk : (ks.all fun q => Nat.blt q k) = true) (hn : nodupB ks = true) (hl : (O.take k).length = k) (h : At Q e n L H (ks.filterMap (O[·]?) ++ O.drop k)) : At Q e n L H O := fun a w hf hs => h a w hf (hs.permK ks k hk hn hl)
theorem Seg.permK {ops : Array Oper} {rest : List Oper} (ks : List Nat) (k : Nat) (hk : (ks.all fun q => Nat.blt q k) = true) (hn : nodupB ks = true) (hl : (O.take k).length = k) (h : Seg P ops Q rest n L H (ks.filterMap (O[·]?) ++ O.drop k)) : Seg P ops Q rest n L H O := fun a w hf hs => h a w hf (hs.permK ks k hk hn hl)
theorem Wp.permK {c : Code} (ks : List Nat) (k : Nat) (hk : (ks.all fun q => Nat.blt q k) = true) (hn : nodupB ks = true) (hl : (O.take k).length = k) (h : Wp P c Q n L H (ks.filterMap (O[·]?) ++ O.drop k)) : Wp P c Q n L H O := fun a w hf hs => h a w hf (hs.permK ks k hk hn hl)
theorem At.nilRow {e' : Exit} (e : TypeId) (size : Nat) (k : At Q e' n L H (.row (.slice none 0 0) e size 0 [] :: O)) : At Q e' n L H O := fun a w hf hs => k a w hf (hs.nilRow e size)
theorem Wp.joinT {x y : Code} {Q2 : Exit → Act → World → Prop} (J : List (Nat × Value) → Hp → List Res → Prop) (hx : Wp P x (Exit.then (JoinE J n H) Q2) n L H O) (hy : ∀ L' H' O', H.le H' → J L' H' O' → Wp P y Q n L' H' O') : Wp P x (Exit.then (y.wp P Q) Q2) n L H O := fun a w hf hs =>
  wp_mono (hx a w hf hs) fun e a' w' q => by
    cases e with
    | normal =>
      obtain ⟨L', H', O', g1, g2, g3, g4⟩ := q
      exact hy L' H' O' g1 g2 a' w' g3 g4
    | _ => exact q
end

section
variable {P : Program} {T : TypeId} {E : Operand → Option Value} {H : Hp} {O : List Res} {x y : Operand}
theorem OpT.nilCheck {b off : Nat} (hx : E x = some (ptr b off)) : OpT P (.nilCheck x) T E H O (ptr b off) := .of_run fun a w o ho _ he _ => by
  simp only [ptr] at hx
  simp [execOp, ho, he x _ hx, ptr]
/- strings -/
theorem OpT.lenS {t : TypeId} {s : Str} (ht : P.underlying t = some .string) (hx : E x = some (sv s)) : OpT P (.call { callee := .builtin .len, args := #[x], argTypes := #[t] }) T E H O (.int .i64 ((s.length : Nat) : Int)) := by
  have := OpT.lenStr (P := P) (T := T) (H := H) (O := O) ht hx
  exact this
def idxS (s : Str) (i : Int) : Option Int := if 0 ≤ i then (s[i.toNat]?).map (fun b => (b.toNat : Int)) else none
theorem idxS_bd {s : Str} {i x : Int} (h : idxS s i = some x) : (0 ≤ i ∧ i < (s.length : Nat)) ∧ 0 ≤ x ∧ x ≤ 255 := by
  unfold idxS at h
  split at h
  · cases hb : s[i.toNat]? with
    | none => rw [hb] at h; cases h
    | some b =>
      rw [hb] at h
      simp at h
      have := (List.getElem?_eq_some_iff.1 hb).1
      have := b.toNat_lt
      omega
  · cases h
theorem OpT.byteS {t : TypeId} {s : Str} {k : IntKind} {i z : Int} (ht : P.underlying t = some .string) (hx : E x = some (sv s)) (hy : E y = some (.int k i)) (h : idxS s i = some z) : OpT P (.index t x y) T E H O (.int .u8 z) := by
  unfold idxS at h
  split at h
  · rename_i h0
    cases hb : s[i.toNat]? with
    | none => rw [hb] at h; cases h
    | some b =>
      rw [hb] at h
      simp at h
      subst h
      exact OpT.byteOf ht hx hy h0 (by
        have hlt := (List.getElem?_eq_some_iff.1 hb).1
        show ByteArray.mk (Array.mk s) |>.data[i.toNat]? = some b
        simpa using hb)
  · cases h
theorem sv_inj {a b : Str} (h : sv a = sv b) : a = b := by
  simp only [sv, Value.string.injEq, ByteArray.mk.injEq, Array.mk.injEq] at h; exact h
theorem toList_sv (a : Str) : (ByteArray.mk (Array.mk a)).toList = a := by rw [ByteArray.toList_eq]
theorem OpT.eqStr {t Ty : TypeId} {a b : Str} (ht : P.underlying t = some .string) (hx : E x = some (sv a)) (hy : E y = some (sv b)) : OpT P (.binOp .eql t x y Ty) T E H O (.bool (decide (a = b))) := .of_run fun ac w o ho _ he _ => by
  have h : (a == b) = decide (a = b) := by rw [Bool.eq_iff_iff]; simp
  simp only [sv] at *
  simp [execOp, ho, he x _ hx, he y _ hy, eqGuard, binOp, Op.stringOp, toList_sv, h]
theorem OpT.neStr {t Ty : TypeId} {a b : Str} (ht : P.underlying t = some .string) (hx : E x = some (sv a)) (hy : E y = some (sv b)) : OpT P (.binOp .neq t x y Ty) T E H O (.bool (!decide (a = b))) := .of_run fun ac w o ho _ he _ => by
  have h : (a == b) = decide (a = b) := by rw [Bool.eq_iff_iff]; simp
  simp only [sv] at *
  simp [execOp, ho, he x _ hx, he y _ hy, eqGuard, binOp, Op.stringOp, toList_sv, bne, h]
theorem OpT.ltStr {t Ty : TypeId} {a b : Str} (hx : E x = some (sv a)) (hy : E y = some (sv b)) : OpT P (.binOp .lss t x y Ty) T E H O (.bool (Op.bytesLess a b)) := .of_run fun ac w o ho _ he _ => by
  simp only [sv] at *
  simp [execOp, ho, he x _ hx, he y _ hy, eqGuard, binOp, Op.stringOp, toList_sv]
theorem OpT.catStr {t Ty : TypeId} {a b : Str} (hx : E x = some (sv a)) (hy : E y = some (sv b)) (h : a.length + b.length ≤ capN) : OpT P (.binOp .add t x y Ty) T E H O (sv (a ++ b)) := .of_run fun ac w o ho _ he _ => by
  have h1 : ¬ (((ByteArray.mk (Array.mk a)).size + (ByteArray.mk (Array.mk b)).size : Nat) : Int) > IntKind.i64.max := by
    have e1 : (ByteArray.mk (Array.mk a)).size = a.length := rfl
    have e2 : (ByteArray.mk (Array.mk b)).size = b.length := rfl
    rw [e1, e2]
    simp [IntKind.max, IntKind.signed, IntKind.bits, capN] at *
    omega
  have h2 : ByteArray.mk (Array.mk a) ++ ByteArray.mk (Array.mk b) = ByteArray.mk (Array.mk (a ++ b)) := by
    apply ByteArray.ext
    rw [ByteArray.data_append]
    simp
  simp only [sv] at *
  simp only [execOp, ho, he x _ hx, he y _ hy, eqGuard, binOp, Op.stringOp, if_neg h1, h2]
  simp
/- parts of a block -/
theorem OpT.ldBlkX {t : TypeId} {d : TypeDesc} {B off i bytes : Nat} {z : Value} {cs : Array Value} {t' : TypeId} {fr : Nat × Nat} {vs : List Value} (ht : P.underlying t = some d) (hd : aggB d = true) (hsz : TI P t vs.length bytes z) (hx : E x = some (ptr B off)) (hi : O[i]? = some (.blk B (.cells cs t' fr)))
    (hv : (cs.toList.drop off).take vs.length = vs) : OpT P (.load t x) T E H O (.agg vs.toArray) :=
  OpT.ldBlkA ht hd hsz hx hi fun j u hj => by
    have hlt := (List.getElem?_eq_some_iff.1 hj).1
    have : ((cs.toList.drop off).take vs.length)[j]? = some u := by rw [hv]; exact hj
    rw [List.getElem?_take] at this
    simp [hlt] at this
    simpa using this
end
section
variable {P : Program} {Q : Exit → Act → World → Prop} {n : Nat} {L : List (Nat × Value)} {H : Hp} {O : List Res} {ops : Array Oper} {rest : List Oper} {T : TypeId}
variable {α : Type} {c : Cd α}
theorem LayL.repl {z : α} {v : Value} (h : c.Lay H z [v]) : ∀ m, LayL c H (List.replicate m z) (List.replicate m v)
  | 0 => rfl
  | m + 1 => ⟨[v], List.replicate m v, by simp [List.replicate_succ], h, LayL.repl h m⟩
theorem Seg.stD {l : List α} {xs : List Value} {i : Int} {x0 : α} {pos : String} {af : Array Edge} {px py : Operand} {t e : TypeId} {v u z : Value} {bytes sz : Nat} {cs vs : List Value} (q off : Nat) (y : α) (hL : LayL c H l xs) (hg : idx l i = some x0)
    (hcs : cs = (xs.drop (i.toNat * c.sz)).take c.sz) (hx : ev L px = some (elemPtr v (i.toNat * c.sz + off))) (hy : ev L py = some u) (hv : u.cells.toList = vs) (hsz : TI P t sz bytes z) (hs : vs.length = sz) (h0 : Nat.blt 0 sz = true)
    (h1 : ∀ u ∈ vs, u.oneCell' = true) (hi : O[q]? = some (.row v e c.sz l.length xs)) (hlay : c.Lay H y (spl cs off vs)) (hoff : Nat.ble (off + vs.length) c.sz = true)
    (kk : ∀ xs', LayL c H (l.set i.toNat y) xs' → Seg P ops Q rest n L H (O.set q (.row v e c.sz (l.set i.toNat y).length xs'))) :
    Seg P ops Q ({ dst := none, op := .store t px py, type := T, pos, after := af, guard := none } :: rest) n L H O := by
  obtain ⟨⟨hi0, hi1⟩, hget⟩ := idx_some hg
  have hlen := hL.len
  have hcl : cs.length = c.sz := by
    obtain ⟨cs', g1, _, g3⟩ := hL.get hget
    rw [hcs, ← g3]; exact c.len g1
  have hoff' := Nat.le_of_ble_eq_true hoff
  have hb : i.toNat * c.sz + c.sz ≤ l.length * c.sz := by rw [← Nat.succ_mul]; exact Nat.mul_le_mul_right _ (by omega)
  refine Seg.stRow (i := q) hx hy hv hsz hs (by simpa using h0) h1 hi (by omega) ?_
  have := kk _ (hL.part hget hcs hcl (by omega) hlay)
  rwa [List.length_set] at this
theorem Seg.makeD {d : Tmp} {pos : String} {af : Array Edge} {pl pc : Operand} {t e : TypeId} {bytes : Nat} {zv : Value} {kl kc : IntKind} {m : Nat} {z : α} (ht : P.underlying t = some (.slice e)) (hz : TI P e c.sz bytes zv) (hl : ev L pl = some (.int kl (m : Int))) (hc : ev L pc = some (.int kc (m : Int)))
    (hm : m ≤ capN) (hlay : c.Lay H z zv.cells.toList) (hd : Nat.blt d n = true) (hb : Nat.ble bytes 256 = true) (h0 : Nat.blt 0 c.sz = true)
    (k : ∀ v xs, LayL c H (List.replicate m z) xs → Seg P ops Q rest n ((d, v) :: L) H (.row v e c.sz (List.replicate m z).length xs :: O)) :
    Seg P ops Q ({ dst := some d, op := .makeSlice t pl pc, type := T, pos, after := af, guard := none } :: rest) n L H O := by
  have hb' := Nat.le_of_ble_eq_true hb
  have hbm : bytes * m ≤ 256 * 1099511627776 := Nat.mul_le_mul hb' hm
  refine Seg.make (m := m) ht hz hl hc (by omega) (by simp only [capN] at hm; omega) hd fun v => ?_
  have := k v _ (LayL.rep hlay (by simpa using h0) m)
  rwa [List.length_replicate] at this
theorem Seg.buildD1 {d : Tmp} {pos : String} {af : Array Edge} {t e : TypeId} {bytes : Nat} {z v : Value} {cs : List Value} {x : Operand} {y : α} (ht : P.underlying t = some (.slice e)) (hz : TI P e c.sz bytes z)
    (hlen : Nat.ble c.sz 16777216 = true) (h0 : Nat.blt 0 c.sz = true) (hx : ev L x = some v) (hc : v.cells.toList = cs) (hlay : c.Lay H y cs) (hd : Nat.blt d n = true)
    (k : ∀ v' xs, LayL c H [y] xs → Seg P ops Q rest n ((d, v') :: L) H (.row v' e c.sz [y].length xs :: O)) :
    Seg P ops Q ({ dst := some d, op := .buildSlice t 1 #[(0, x)], type := T, pos, after := af, guard := none } :: rest) n L H O := by
  subst hc
  refine Seg.buildSl1 (cs := v.cells) ht hz hlen h0 hx rfl ?_ hd fun v' => k v' _ (LayL.sing hlay)
  rw [← c.len hlay]; simp
theorem Seg.buildDN {d : Tmp} {pos : String} {af : Array Edge} {t e : TypeId} {l : List α} {bytes : Nat} {z : Value} {zs cs : Array Value} {ps : List (Nat × Operand)} {vs : List (Nat × Value)} {len : Nat} (ht : P.underlying t = some (.slice e)) (hz : TI P e c.sz bytes z) (hzc : z.cells = zs)
    (hlen : Nat.ble (len * c.sz) 16777216 = true) (h0 : Nat.blt 0 (len * c.sz) = true) (hps : evp (ev L) ps = some vs) (hf : Instr.fill (fun i => some (i * c.sz, c.sz)) ((Array.range (len * c.sz)).map (zs[· % zs.size]!)) vs = some cs) (hll : l.length = len) (hlay : LayL c H l cs.toList) (hd : Nat.blt d n = true)
    (k : ∀ v' xs, LayL c H l xs → Seg P ops Q rest n ((d, v') :: L) H (.row v' e c.sz l.length xs :: O)) :
    Seg P ops Q ({ dst := some d, op := .buildSlice t len ps.toArray, type := T, pos, after := af, guard := none } :: rest) n L H O := by
  refine Seg.buildSl ht hz hzc hlen h0 hps hf ?_ hd fun v' => ?_
  · have := hlay.len; rw [hll] at this; simpa using this
  · have := k v' _ hlay; rwa [hll] at this
theorem Seg.appD {d : Tmp} {pos : String} {af : Array Edge} {s x : Operand} {t e e2 : TypeId} {bytes : Nat} {z v y : Value} {l l2 : List α} {xs ys : List Value} (i j : Nat) (hL : LayL c H l xs) (hL2 : LayL c H l2 ys) (ht : P.underlying t = some (.slice e)) (hz : TI P e c.sz bytes z) (hzs : z.cells.size = c.sz) (h0 : Nat.blt 0 c.sz = true)
    (hs : ev L s = some v) (hx : ev L x = some y) (hi : O[i]? = some (.row v e c.sz l.length xs)) (hj : O[j]? = some (.row y e2 c.sz l2.length ys)) (hb : Nat.ble bytes 64 = true) (hl : l.length + l2.length ≤ capN) (hd : Nat.blt d n = true)
    (k : ∀ v' xs', LayL c H (l ++ l2) xs' → Seg P ops Q rest n ((d, v') :: L) H (O.set i (.row v' e c.sz (l ++ l2).length xs'))) :
    Seg P ops Q ({ dst := some d, op := .call { callee := .builtin .append, args := #[s, x], argTypes := #[t, t] }, type := T, pos, after := af, guard := none } :: rest) n L H O := by
  have hb' := Nat.le_of_ble_eq_true hb
  have hbm : (l.length + l2.length) * bytes ≤ 1099511627776 * 64 := Nat.mul_le_mul hl hb'
  refine Seg.append ht hz hzs (by simpa using h0) hs hx hi (fun w hs => hs.srcRow hj) hL2.one (by omega) (by simp only [capN] at hl; omega) hd fun v' => ?_
  have := k v' _ (hL.app hL2)
  rwa [List.length_append] at this
theorem Seg.appF {d : Tmp} {pos : String} {af : Array Edge} {s x : Operand} {t e : TypeId} {bytes : Nat} {z v y : Value} {l l2 : List α} {xs : List Value} (i : Nat) (hL : LayL c H l xs) (hL2 : SlD c H l2 y) (ht : P.underlying t = some (.slice e)) (hz : TI P e c.sz bytes z) (hzs : z.cells.size = c.sz) (h0 : Nat.blt 0 c.sz = true)
    (hs : ev L s = some v) (hx : ev L x = some y) (hi : O[i]? = some (.row v e c.sz l.length xs)) (hb : Nat.ble bytes 64 = true) (hl : l.length + l2.length ≤ capN) (hd : Nat.blt d n = true)
    (k : ∀ v' xs', LayL c H (l ++ l2) xs' → Seg P ops Q rest n ((d, v') :: L) H (O.set i (.row v' e c.sz (l ++ l2).length xs'))) :
    Seg P ops Q ({ dst := some d, op := .call { callee := .builtin .append, args := #[s, x], argTypes := #[t, t] }, type := T, pos, after := af, guard := none } :: rest) n L H O := by
  have hb' := Nat.le_of_ble_eq_true hb
  have hbm : (l.length + l2.length) * bytes ≤ 1099511627776 * 64 := Nat.mul_le_mul hl hb'
  obtain ⟨⟨ys, g1, g2⟩, _⟩ := hL2
  refine Seg.append ht hz hzs (by simpa using h0) hs hx hi (fun w hs => hs.srcImm g1) g2.one (by omega) (by simp only [capN] at hl; omega) hd fun v' => ?_
  have := k v' _ (hL.app g2)
  rwa [List.length_append] at this
end
end Go.GK
namespace Go.GK
section
variable {P : Program} {Q : Exit → Act → World → Prop} {n : Nat} {L : List (Nat × Value)} {H : Hp} {O : List Res} {ops : Array Oper} {rest : List Oper} {T : TypeId}
variable {α : Type} {c : Cd α}
theorem szRep (n : Nat) (v : Value) : (List.replicate n v).toArray.size = n := by rw [List.size_toArray, List.length_replicate]
theorem SH.rowOne {w : World} (hs : SH w H O) {i size m : Nat} {v : Value} {e : TypeId} {xs : List Value} (hi : O[i]? = some (.row v e size m xs)) : v.oneCell' = true := by
  rcases (hs.rowLen hi).1 with ⟨rfl, _⟩ | ⟨a, cap, rfl⟩ <;> rfl
theorem Seg.rowOne {i size m : Nat} {v : Value} {e : TypeId} {xs : List Value} (hi : O[i]? = some (.row v e size m xs)) (k : v.oneCell' = true → Seg P ops Q rest n L H O) : Seg P ops Q rest n L H O := fun a w hf hs => k (hs.rowOne hi) a w hf hs
theorem Wp.rowOne {c : Code} {i size m : Nat} {v : Value} {e : TypeId} {xs : List Value} (hi : O[i]? = some (.row v e size m xs)) (k : v.oneCell' = true → Wp P c Q n L H O) : Wp P c Q n L H O := fun a w hf hs => k (hs.rowOne hi) a w hf hs
theorem OpS.withOne {op : Op} {E : Operand → Option Value} {R : Value → Hp → List Res → Prop} (r : Nat) (h : OpS P op T E H O R) (hr : ∀ v H' O', R v H' O' → ∃ e size m xs, O'[r]? = some (.row v e size m xs)) : OpS P op T E H O (fun v H' O' => R v H' O' ∧ v.oneCell' = true) :=
  fun a w o next Q h1 h2 h3 h4 h5 => h a w o next Q h1 h2 h3 h4 fun v w' H' O' k1 k2 k3 => by
    obtain ⟨e, size, m, xs, hi⟩ := hr v H' O' k2
    exact h5 v w' H' O' k1 ⟨k2, k3.rowOne hi⟩ k3
theorem LayL.lenA {l : List α} {cs : Array Value} {k : Nat} (h : LayL c H l cs.toList) (hs : cs.size = k) : k = l.length * c.sz := by
  have := h.len; simp at this; omega
theorem Seg.stA {l : List α} {cs : Array Value} {k B : Nat} {pos : String} {af : Array Edge} {px py : Operand} {t e : TypeId} {u z : Value} {bytes : Nat} (q : Nat) (y : α) (i : Int) (hL : LayL c H l cs.toList) (hsz : cs.size = k) (hg : 0 ≤ i ∧ i < (l.length : Nat))
    (hx : ev L px = some (ptr B (i.toNat * 1))) (hy : ev L py = some u) (hu : u.oneCell' = true) (hti : TI P t 1 bytes z) (hi : O[q]? = some (.blk B (.cells cs e (0, 0)))) (hlay : c.Lay H y [u])
    (kk : ∀ cs', (LayL c H (l.set i.toNat y) cs'.toList ∧ cs'.size = k) → Seg P ops Q rest n L H (O.set q (.blk B (.cells cs' e (0, 0))))) :
    Seg P ops Q ({ dst := none, op := .store t px py, type := T, pos, after := af, guard := none } :: rest) n L H O := by
  have h1 : c.sz = 1 := by rw [← c.len hlay]; rfl
  have hlen := hL.len
  rw [h1] at hlen
  simp only [Nat.mul_one] at hx
  have hlt : i.toNat < cs.size := by simp at hlen; omega
  refine Seg.stBlk1 (i := q) hx hy hu hti hi hlt (kk _ ⟨?_, by simp [hsz]⟩)
  have h2 := hL.set (i := i.toNat) (by omega) hlay
  rw [h1, Nat.mul_one, spl_one _ _ _ (by simpa using hlt)] at h2
  simpa using h2
end
/- where a struct's fields lie, closed -/
def placesOf (P : Program) (t : TypeId) : Option (List (Nat × Nat)) :=
  match P.underlying t with
  | some (.struct fs) => fs.toList.mapM fun f => (P.info? f.type).map fun i => (f.offset, i.size)
  | _ => none
theorem run_places {P : Program} : ∀ (l : List Field) (ps : List (Nat × Nat)), (l.mapM fun f => (P.info? f.type).map fun i => (f.offset, i.size)) = some ps →
    ∀ w, (l.mapM fun f => do pure (f.offset, ← Go.sizeOf f.type) : Sem (List (Nat × Nat))).run P w = .ok ps w
  | [], ps, h, w => by simp at h; subst h; simp
  | f :: l, ps, h, w => by
    rw [List.mapM_cons] at h
    cases hi : P.info? f.type with
    | none => simp [hi] at h
    | some i =>
      cases hl : (l.mapM fun f => (P.info? f.type).map fun i => (f.offset, i.size)) with
      | none => simp [hi, hl] at h
      | some qs =>
        simp [hi, hl] at h
        subst h
        have ih := run_places l qs hl w
        have hsz : (Go.sizeOf f.type).run P w = .ok i.size w := by simp [Go.sizeOf, typeInfo, hi]
        rw [List.mapM_cons]
        simp only [Sem.run_bind, hsz, Result.andThen_ok, Sem.run_pure, ih]
def fillC (place : Nat → Option (Nat × Nat)) (cells : Array Value) : List (Nat × Array Value) → Option (Array Value)
  | [] => some cells
  | (i, v) :: rest =>
    match place i with
    | none => none
    | some (off, size) =>
      if v.size ≠ size || off + v.size > cells.size then none
      else fillC place (v.zipIdx.foldl (fun cs (c, j) => cs.setIfInBounds (off + j) c) cells) rest
theorem fill_eq (place : Nat → Option (Nat × Nat)) : ∀ (vs : List (Nat × Value)) (cells : Array Value), Instr.fill place cells vs = fillC place cells (vs.map fun p => (p.1, p.2.cells))
  | [], _ => rfl
  | (i, v) :: rest, cells => by
    simp only [Instr.fill, List.map_cons, fillC]
    cases place i with
    | none => rfl
    | some q =>
      obtain ⟨off, size⟩ := q
      simp only
      split
      · rfl
      · exact fill_eq place rest _
theorem cells1 {v : Value} (h : v.oneCell' = true) : v.cells = #[v] := by cases v <;> simp_all [Value.cells, Value.oneCell']
theorem cellsL {v : Value} (h : v.oneCell' = true) : v.cells.toList = [v] := by rw [cells1 h]
abbrev VC (vs : List (Nat × Value)) (vcs : List (Nat × Array Value)) : Prop := vs.map (fun p => (p.1, p.2.cells)) = vcs
theorem vc_nil : VC [] [] := rfl
theorem vc_cons {i : Nat} {v : Value} {cs : Array Value} {vs : List (Nat × Value)} {vcs : List (Nat × Array Value)} (h : v.cells = cs) (k : VC vs vcs) : VC ((i, v) :: vs) ((i, cs) :: vcs) := by
  unfold VC at *; rw [List.map_cons, k, h]
section
variable {P : Program} {T : TypeId} {E : Operand → Option Value} {H : Hp} {O : List Res}
theorem OpT.buildS {t : TypeId} {size bytes : Nat} {z : Value} {zs cs : Array Value} {ps : List (Nat × Operand)} {vs : List (Nat × Value)} {places : List (Nat × Nat)} (hp : placesOf P t = some places) (hz : TI P t size bytes z) (hzc : z.cells = zs)
    {vcs : List (Nat × Array Value)} (hps : evp E ps = some vs) (hv : VC vs vcs) (hf' : fillC (places[·]?) zs vcs = some cs) : OpT P (.build t ps.toArray) T E H O (.agg cs) := by
  have hf : Instr.fill (places[·]?) zs vs = some cs := by rw [fill_eq, hv]; exact hf'
  unfold placesOf at hp
  split at hp
  · rename_i fs hu
    refine OpT.build (places := places.toArray) hu hz hzc (fun w => ?_) hps (by simpa using hf)
    have h := run_places fs.toList places hp w
    rw [Array.mapM_eq_mapM_toList]
    show ((List.mapM (fun f : Field => (do pure (f.offset, ← Go.sizeOf f.type) : Sem (Nat × Nat))) fs.toList) >>= fun l => pure l.toArray : Sem (Array (Nat × Nat))).run P w = _
    rw [Sem.run_bind, h]
    simp
  · cases hp
theorem OpT.buildA2 {t e : TypeId} {len size bytes esize ebytes : Nat} {z ez : Value} {zs cs : Array Value} {ps : List (Nat × Operand)} {vs : List (Nat × Value)} {vcs : List (Nat × Array Value)} (ht : P.underlying t = some (.array len e)) (hz : TI P t size bytes z) (hze : TI P e esize ebytes ez) (hzc : z.cells = zs)
    (hps : evp E ps = some vs) (hv : VC vs vcs) (hf : fillC (fun i => some (i * esize, esize)) zs vcs = some cs) : OpT P (.build t ps.toArray) T E H O (.agg cs) :=
  OpT.buildA ht hz hze hzc hps (by rw [fill_eq, hv]; exact hf)
end
section
variable {P : Program} {Q : Exit → Act → World → Prop} {n : Nat} {L : List (Nat × Value)} {H : Hp} {O : List Res} {ops : Array Oper} {rest : List Oper} {T : TypeId}
variable {α : Type} {c : Cd α}
theorem Seg.buildDN2 {d : Tmp} {pos : String} {af : Array Edge} {t e : TypeId} {l : List α} {bytes : Nat} {z : Value} {zs cs : Array Value} {ps : List (Nat × Operand)} {vs : List (Nat × Value)} {vcs : List (Nat × Array Value)} {len : Nat} (ht : P.underlying t = some (.slice e)) (hz : TI P e c.sz bytes z) (hzc : z.cells = zs)
    (hlen : Nat.ble (len * c.sz) 16777216 = true) (h0 : Nat.blt 0 (len * c.sz) = true) (hps : evp (ev L) ps = some vs) (hv : VC vs vcs) (hf : fillC (fun i => some (i * c.sz, c.sz)) ((Array.range (len * c.sz)).map (zs[· % zs.size]!)) vcs = some cs) (hll : l.length = len) (hlay : LayL c H l cs.toList) (hd : Nat.blt d n = true)
    (k : ∀ v' xs, LayL c H l xs → Seg P ops Q rest n ((d, v') :: L) H (.row v' e c.sz l.length xs :: O)) :
    Seg P ops Q ({ dst := some d, op := .buildSlice t len ps.toArray, type := T, pos, after := af, guard := none } :: rest) n L H O :=
  Seg.buildDN ht hz hzc hlen h0 hps (by rw [fill_eq, hv]; exact hf) hll hlay hd k
end
end Go.GK
/- Operations of regions whose order is open. -/
namespace Go.GK
def blkOf : Value → Nat
  | .pointer (some a) => a.block
  | _ => 0
def prj (v : Value) (k : Nat) : Value := match v with
  | .agg cs => cs.getD k undef
  | .tuple vs => vs.getD k undef
  | _ => undef
def evk (L : List (Nat × Value)) (lo : List Nat) : Operand → Option Value
  | .tmp t => match memB lo t with
    | true => lk L t
    | false => none
  | .const v => some v
  | .global g => some (.pointer (some ⟨g, 0, none⟩))
  | .func f => some (.func (.func f) #[] #[])
theorem evk_ok {L : List (Nat × Value)} {lo : List Nat} {a : Act} (h : ∀ t ∈ lo, ∀ v, lk L t = some v → a.tmps.getD t undef = v) (x : Operand) (u : Value) (hx : evk L lo x = some u) : a.eval x = u := by
  cases x with
  | tmp t =>
    simp only [evk] at hx
    split at hx
    · rename_i hm; exact h t (memB_iff.1 hm) u hx
    · cases hx
  | const u => simpa [evk, Act.eval] using hx
  | global g => simpa [evk, Act.eval] using hx
  | func f => simpa [evk, Act.eval] using hx

section
variable {P : Program} {Q : Exit → Act → World → Prop} {n N i : Nat} {H : Hp} {O : List Res} {ops : Array Oper} {os : List Oper} {an : Ann} {as : List Ann} {LL : Rec → List (Nat × Value)} {XX : Rec → List Res} {FF : List (Nat × (Rec → Hp → Prop))}
def FactsO (an : Ann) (i : Nat) (FF : List (Nat × (Rec → Hp → Prop))) (ρ : Rec) (H' : Hp) : Prop := ∀ m, memB an.ms m = true → Nat.beq m i = false → lkF FF ρ H' m
def RegsO (an : Ann) (XX : Rec → List Res) (O : List Res) (ρ : Rec) (Y : List Res) : Prop := ∀ r x, (memB an.rd r || memB an.wr r) = true → (XX ρ)[r]? = some x → (Y ++ O)[r]? = some x
theorem SegO.runK {id : Nat} {l : List Oper} {L : List (Nat × Value)} (k : Nat) (A : List Ann) (hm : P.follows .mixedOrders = true) (hN : (O.take k).length = k) (hOK : regO l A k = true)
    (h : SegO P l.toArray Q n k H (O.drop k) 0 l A (fun _ => L) (fun _ => O.take k) []) : Wp P (.region id l.toArray true) Q n L H O := by
  have := SegO.run (id := id) A hm hN hOK h
  rwa [List.take_append_drop] at this
theorem SegO.done (h : ∀ H' ρ, H.le H' → (∀ m, lkF FF ρ H' m) → At Q .normal n (LL ρ) H' (XX ρ ++ O)) : SegO P ops Q n N H O i [] as LL XX FF := h
theorem setK {Y : List Res} {r : Nat} {x : Res} (h : r < Y.length) : (Y ++ O).set r x = Y.set r x ++ O := by rw [List.set_append_left _ _ h]
theorem factsO_of {ρ : Rec} {H' : Hp} (h : ∀ m, m ∈ an.ms → m ≠ i → lkF FF ρ H' m) : FactsO an i FF ρ H' := fun m hm hne => h m (memB_iff.1 hm) (Nat.ne_of_beq_eq_false hne)
theorem regsO_of {ρ : Rec} {Y : List Res} (h : ∀ r, (memB an.rd r = true ∨ memB an.wr r = true) → ∀ x, (XX ρ)[r]? = some x → Y[r]? = some x) : RegsO an XX O ρ Y := fun r x hr hx => by
  have hr' : memB an.rd r = true ∨ memB an.wr r = true := by simpa using hr
  have hy := h r hr' x hx
  rw [List.getElem?_append_left (List.getElem?_eq_some_iff.1 hy).1]; exact hy
theorem quiet_upd {val : Rec → Value} (hi : memB an.ms i = false) (st : ∀ ρ, val (mask an.ms ρ) = val ρ) (ρ : Rec) (v : Value) : val (upd ρ i v) = val ρ := by
  rw [← st (upd ρ i v), ← st ρ]
  exact congrArg val (mask_congr fun m hm => upd_ne fun e => by subst e; rw [memB_iff.2 hm] at hi; cases hi)
/- one that only yields a value -/
theorem SegO.op {d : Tmp} {op : Op} {T : TypeId} {pos : String} {af : Array Edge} {val : Rec → Value} (hw : an.wr = []) (hi : memB an.ms i = false) (st : ∀ ρ, val (mask an.ms ρ) = val ρ)
    (h : ∀ H' ρ Y, H.le H' → FactsO an i FF ρ H' → RegsO an XX O ρ Y → OpT P op T (evk (LL ρ) (looks op)) H' (Y ++ O) (val ρ)) (hd : Nat.blt d n = true)
    (k : SegO P ops Q n N H O (i + 1) os as (fun ρ => (d, val ρ) :: LL ρ) XX ((i, fun _ _ => True) :: FF)) :
    SegO P ops Q n N H O i ({ dst := some d, op, type := T, pos, after := af, guard := none } :: os) (an :: as) LL XX FF := by
  refine ⟨fun ρ => ⟨val ρ, [], fun _ => True⟩, ⟨fun d' hd' => by simp at hd'; subst hd'; simpa using hd, fun ρ => by rw [st], fun _ _ _ _ h => h, fun H' ρ Y a w h1 h2 h3 h4 h5 h6 h7 h8 K Q hK => ?_⟩, fun ρ => by rw [hw]; rfl, k⟩
  rw [if_pos (by simp [Region.wanted])]
  rw [looks_none] at h4
  refine Oper.wp_of_quietAt (h H' ρ Y h1 (factsO_of h2) (regsO_of h5) a w _ rfl rfl (evk_ok h4) h6) h6 fun w' hw' => ?_
  exact hK _ w' H' Y (Hp.le.refl _) hw' h3 (fun _ _ => rfl) (fun r x hr => by rw [hw] at hr; cases hr) trivial fun _ => quiet_upd hi st ρ _
theorem yields_of {a : Act} {ρ : Rec} {j t : Nat} {b : Bool} {d : Option Tmp} {op : Op} {T : TypeId} {pos : String} {af : Array Edge} (hj : guardSlot ops j = some t) (hb : lk (LL ρ) t = some (.bool b))
    (h4 : ∀ t ∈ Oper.looksAt ops { dst := d, op, type := T, pos, after := af, guard := some (j, b) }, ∀ v, lk (LL ρ) t = some v → a.tmps.getD t undef = v) : yielded ops a.tmps j = some b := by
  refine yielded_of hj (h4 t ?_ _ hb)
  have hj2 := hj
  unfold guardSlot at hj2
  simp [Oper.looksAt, hj2]
theorem SegO.opG {d t j : Nat} {b : Bool} {op : Op} {T : TypeId} {pos : String} {af : Array Edge} {val : Rec → Value} (hj : guardSlot ops j = some t) (hb : ∀ ρ, lk (LL ρ) t = some (.bool b)) (hw : an.wr = []) (hi : memB an.ms i = false) (st : ∀ ρ, val (mask an.ms ρ) = val ρ)
    (h : ∀ H' ρ Y, H.le H' → FactsO an i FF ρ H' → RegsO an XX O ρ Y → OpT P op T (evk (LL ρ) (looks op)) H' (Y ++ O) (val ρ)) (hd : Nat.blt d n = true)
    (k : SegO P ops Q n N H O (i + 1) os as (fun ρ => (d, val ρ) :: LL ρ) XX ((i, fun _ _ => True) :: FF)) :
    SegO P ops Q n N H O i ({ dst := some d, op, type := T, pos, after := af, guard := some (j, b) } :: os) (an :: as) LL XX FF := by
  refine ⟨fun ρ => ⟨val ρ, [], fun _ => True⟩, ⟨fun d' hd' => by simp at hd'; subst hd'; simpa using hd, fun ρ => by rw [st], fun _ _ _ _ h => h, fun H' ρ Y a w h1 h2 h3 h4 h5 h6 h7 h8 K Q hK => ?_⟩, fun ρ => by rw [hw]; rfl, k⟩
  rw [if_pos (by simp [Region.wanted, yields_of hj (hb ρ) h4])]
  refine Oper.wp_of_quietAt (h H' ρ Y h1 (factsO_of h2) (regsO_of h5) a w _ rfl rfl (evk_ok fun t ht => h4 t (looks_sub ht)) h6) h6 fun w' hw' => ?_
  exact hK _ w' H' Y (Hp.le.refl _) hw' h3 (fun _ _ => rfl) (fun r x hr => by rw [hw] at hr; cases hr) trivial fun _ => quiet_upd hi st ρ _
theorem SegO.skipG {d : Option Tmp} {t j : Nat} {b c : Bool} {op : Op} {T : TypeId} {pos : String} {af : Array Edge} (hj : guardSlot ops j = some t) (hb : ∀ ρ, lk (LL ρ) t = some (.bool c)) (hne : (c == b) = false) (hw : an.wr = []) (hd : ∀ d', d = some d' → d' < n)
    (k : SegO P ops Q n N H O (i + 1) os as (fun ρ => putL d undef (LL ρ)) XX ((i, fun _ _ => True) :: FF)) :
    SegO P ops Q n N H O i ({ dst := d, op, type := T, pos, after := af, guard := some (j, b) } :: os) (an :: as) LL XX FF := by
  refine ⟨fun ρ => ⟨undef, [], fun _ => True⟩, ⟨hd, fun ρ => rfl, fun _ _ _ _ h => h, fun H' ρ Y a w h1 h2 h3 h4 h5 h6 h7 h8 K Q hK => ?_⟩, fun ρ => by rw [hw]; rfl, k⟩
  have hy : yielded ops a.tmps j = some c := yielded_of hj (h4 t (by have hj2 := hj; unfold guardSlot at hj2; simp [Oper.looksAt, hj2]) _ (hb ρ))
  rw [if_neg (by simp only [Region.wanted, hy]; simpa using hne)]
  exact hK _ w H' Y (Hp.le.refl _) h6 h3 (fun _ _ => rfl) (fun r x hr => by rw [hw] at hr; cases hr) trivial fun _ => rfl
theorem SegO.skipU {d : Option Tmp} {t j : Nat} {b : Bool} {op : Op} {T : TypeId} {pos : String} {af : Array Edge} (hj : guardSlot ops j = some t) (hb : ∀ ρ, lk (LL ρ) t = some undef) (hw : an.wr = []) (hd : ∀ d', d = some d' → d' < n)
    (k : SegO P ops Q n N H O (i + 1) os as (fun ρ => putL d undef (LL ρ)) XX ((i, fun _ _ => True) :: FF)) :
    SegO P ops Q n N H O i ({ dst := d, op, type := T, pos, after := af, guard := some (j, b) } :: os) (an :: as) LL XX FF := by
  refine ⟨fun ρ => ⟨undef, [], fun _ => True⟩, ⟨hd, fun ρ => rfl, fun _ _ _ _ h => h, fun H' ρ Y a w h1 h2 h3 h4 h5 h6 h7 h8 K Q hK => ?_⟩, fun ρ => by rw [hw]; rfl, k⟩
  have hy : yielded ops a.tmps j = none := yielded_undef hj (h4 t (by have hj2 := hj; unfold guardSlot at hj2; simp [Oper.looksAt, hj2]) _ (hb ρ))
  rw [if_neg (by simp [Region.wanted, hy])]
  exact hK _ w H' Y (Hp.le.refl _) h6 h3 (fun _ _ => rfl) (fun r x hr => by rw [hw] at hr; cases hr) trivial fun _ => rfl

/- what an operation that makes or changes memory leaves -/
def Left (val : Rec → Value) (fact : Rec → Hp → Prop) (i : Nat) (ρ : Rec) (O2 : Value → List Res) (v : Value) (H'' : Hp) (O'' : List Res) : Prop :=
  O'' = O2 v ∧ fact (upd ρ i v) H'' ∧ val (upd ρ i v) = v
/- one that writes one register -/
theorem SegO.op1 {d : Tmp} {op : Op} {T : TypeId} {pos : String} {af : Array Edge} {val : Rec → Value} {res : Rec → Res} (r : Nat) (hw : an.wr = [r]) (hr : Nat.blt r N = true) (stv : ∀ ρ, val (mask an.ms ρ) = val ρ) (str : ∀ ρ, res (mask an.ms ρ) = res ρ)
    (h : ∀ H' ρ Y, H.le H' → FactsO an i FF ρ H' → RegsO an XX O ρ Y → OpS P op T (evk (LL ρ) (looks op)) H' (Y ++ O) (fun v H'' O'' => H'' = H' ∧ O'' = (Y ++ O).set r (res (upd ρ i v)) ∧ val (upd ρ i v) = v)) (hd : Nat.blt d n = true)
    (k : SegO P ops Q n N H O (i + 1) os as (fun ρ => (d, val ρ) :: LL ρ) (fun ρ => (XX ρ).set r (res ρ)) ((i, fun _ _ => True) :: FF)) :
    SegO P ops Q n N H O i ({ dst := some d, op, type := T, pos, after := af, guard := none } :: os) (an :: as) LL XX FF := by
  refine ⟨fun ρ => ⟨val ρ, [(r, res ρ)], fun _ => True⟩, ⟨fun d' hd' => by simp at hd'; subst hd'; simpa using hd, fun ρ => by rw [stv, str], fun _ _ _ _ h => h, fun H' ρ Y a w h1 h2 h3 h4 h5 h6 h7 h8 K Q hK => ?_⟩, fun ρ => by rw [hw]; rfl, k⟩
  have hr' : r < N := by simpa using hr
  rw [if_pos (by simp [Region.wanted])]
  rw [looks_none] at h4
  refine h H' ρ Y h1 (factsO_of h2) (regsO_of h5) a w _ K Q rfl rfl (evk_ok h4) h6 ?_
  rintro v w' H'' O'' hle ⟨rfl, rfl, k3⟩ hw'
  rw [setK (by omega)] at hw'
  refine hK v w' _ _ hle hw' (by simp [h3]) (fun r' hr' => ?_) (fun r' x _ hx => ?_) trivial fun _ => k3
  · rw [hw] at hr'
    have hne : r ≠ r' := fun e => by subst e; simp [memB] at hr'
    rw [List.getElem?_set_ne hne]
  · simp only [lkR] at hx
    split at hx
    · rename_i hb
      have := Nat.eq_of_beq_eq_true hb
      subst this
      injection hx with hx
      subst hx
      simp [h3, hr']
    · cases hx
/- .. and whose value is one cell -/
theorem SegO.op1s {d : Tmp} {op : Op} {T : TypeId} {pos : String} {af : Array Edge} {res : Rec → Res} (r : Nat) (hw : an.wr = [r]) (hr : Nat.blt r N = true) (hm : memB an.ms i = true) (str : ∀ ρ, res (mask an.ms ρ) = res ρ)
    (h : ∀ H' ρ Y, H.le H' → FactsO an i FF ρ H' → RegsO an XX O ρ Y → OpS P op T (evk (LL ρ) (looks op)) H' (Y ++ O) (fun v H'' O'' => H'' = H' ∧ O'' = (Y ++ O).set r (res (upd ρ i v)) ∧ upd ρ i v i = v)) (hd : Nat.blt d n = true)
    (hrow : ∀ ρ, ∃ e size m xs, res ρ = .row (ρ i) e size m xs)
    (k : SegO P ops Q n N H O (i + 1) os as (fun ρ => (d, ρ i) :: LL ρ) (fun ρ => (XX ρ).set r (res ρ)) ((i, fun ρ _ => (ρ i).oneCell' = true) :: FF)) :
    SegO P ops Q n N H O i ({ dst := some d, op, type := T, pos, after := af, guard := none } :: os) (an :: as) LL XX FF := by
  have hmi : ∀ ρ : Rec, mask an.ms ρ i = ρ i := fun ρ => by unfold mask; rw [show an.ms.any (Nat.beq i) = true from hm]
  refine ⟨fun ρ => ⟨ρ i, [(r, res ρ)], fun _ => (ρ i).oneCell' = true⟩, ⟨fun d' hd' => by simp at hd'; subst hd'; simpa using hd, fun ρ => by rw [hmi, str], fun _ _ _ _ h => h, fun H' ρ Y a w h1 h2 h3 h4 h5 h6 h7 h8 K Q hK => ?_⟩, fun ρ => by rw [hw]; rfl, k⟩
  have hr' : r < N := by simpa using hr
  rw [if_pos (by simp [Region.wanted])]
  rw [looks_none] at h4
  refine (OpS.withOne r (h H' ρ Y h1 (factsO_of h2) (regsO_of h5)) (fun v H'' O'' ⟨_, e2, e3⟩ => ?_)) a w _ K Q rfl rfl (evk_ok h4) h6 ?_
  · obtain ⟨e, size, m, xs, he⟩ := hrow (upd ρ i v)
    refine ⟨e, size, m, xs, ?_⟩
    rw [e2, he, e3, setK (by omega), List.getElem?_append_left (by simp [h3, hr']), List.getElem?_set_self (by omega)]
  · rintro v w' H'' O'' hle ⟨⟨rfl, rfl, k3⟩, k4⟩ hw'
    rw [setK (by omega)] at hw'
    refine hK v w' _ _ hle hw' (by simp [h3]) (fun r' hr' => ?_) (fun r' x _ hx => ?_) (by show (upd ρ i v i).oneCell' = true; rw [k3]; exact k4) fun _ => k3
    · rw [hw] at hr'
      have hne : r ≠ r' := fun e => by subst e; simp [memB] at hr'
      rw [List.getElem?_set_ne hne]
    · simp only [lkR] at hx
      split at hx
      · rename_i hb
        have := Nat.eq_of_beq_eq_true hb
        subst this
        injection hx with hx
        subst hx
        simp [h3, hr']
      · cases hx
theorem SegO.op1n {op : Op} {T : TypeId} {pos : String} {af : Array Edge} {res : Rec → Res} (r : Nat) (hw : an.wr = [r]) (hr : Nat.blt r N = true) (hi : memB an.ms i = false) (str : ∀ ρ, res (mask an.ms ρ) = res ρ)
    (h : ∀ H' ρ Y, H.le H' → FactsO an i FF ρ H' → RegsO an XX O ρ Y → OpS P op T (evk (LL ρ) (looks op)) H' (Y ++ O) (fun _ H'' O'' => H'' = H' ∧ O'' = (Y ++ O).set r (res ρ)))
    (k : SegO P ops Q n N H O (i + 1) os as LL (fun ρ => (XX ρ).set r (res ρ)) ((i, fun _ _ => True) :: FF)) :
    SegO P ops Q n N H O i ({ dst := none, op, type := T, pos, after := af, guard := none } :: os) (an :: as) LL XX FF := by
  have e : ∀ ρ v, res (upd ρ i v) = res ρ := fun ρ v => by
    rw [← str (upd ρ i v), ← str ρ]
    exact congrArg res (mask_congr fun m hm => upd_ne fun e => by subst e; rw [memB_iff.2 hm] at hi; cases hi)
  refine ⟨fun ρ => ⟨undef, [(r, res ρ)], fun _ => True⟩, ⟨fun d' hd' => by simp at hd', fun ρ => by rw [str], fun _ _ _ _ h => h, fun H' ρ Y a w h1 h2 h3 h4 h5 h6 h7 h8 K Q hK => ?_⟩, fun ρ => by rw [hw]; rfl, k⟩
  have hr' : r < N := by simpa using hr
  rw [if_pos (by simp [Region.wanted])]
  rw [looks_none] at h4
  refine h H' ρ Y h1 (factsO_of h2) (regsO_of h5) a w _ K Q rfl rfl (evk_ok h4) h6 ?_
  rintro v w' H'' O'' hle ⟨rfl, rfl⟩ hw'
  rw [setK (by omega)] at hw'
  refine hK v w' _ _ hle hw' (by simp [h3]) (fun r' hr' => ?_) (fun r' x _ hx => ?_) trivial fun h => by cases h
  · rw [hw] at hr'
    have hne : r ≠ r' := fun e => by subst e; simp [memB] at hr'
    rw [List.getElem?_set_ne hne]
  · simp only [lkR] at hx
    split at hx
    · rename_i hb
      have := Nat.eq_of_beq_eq_true hb
      subst this
      injection hx with hx
      subst hx
      rw [e]
      simp [h3, hr']
    · cases hx
/- one that leaves the registers, and a fact behind -/
theorem SegO.opF {d : Tmp} {op : Op} {T : TypeId} {pos : String} {af : Array Edge} {val : Rec → Value} {fact : Rec → Hp → Prop} (hw : an.wr = []) (stv : ∀ ρ, val (mask an.ms ρ) = val ρ) (stf : ∀ ρ, fact (mask an.ms ρ) = fact ρ) (mono : ∀ ρ H' H'', H'.le H'' → fact ρ H' → fact ρ H'')
    (h : ∀ H' ρ Y, H.le H' → FactsO an i FF ρ H' → RegsO an XX O ρ Y → OpS P op T (evk (LL ρ) (looks op)) H' (Y ++ O) (fun v H'' O'' => (Y ++ O) = O'' ∧ fact (upd ρ i v) H'' ∧ val (upd ρ i v) = v)) (hd : Nat.blt d n = true)
    (k : SegO P ops Q n N H O (i + 1) os as (fun ρ => (d, val ρ) :: LL ρ) XX ((i, fact) :: FF)) :
    SegO P ops Q n N H O i ({ dst := some d, op, type := T, pos, after := af, guard := none } :: os) (an :: as) LL XX FF := by
  refine ⟨fun ρ => ⟨val ρ, [], fact ρ⟩, ⟨fun d' hd' => by simp at hd'; subst hd'; simpa using hd, fun ρ => by rw [stv, stf], mono, fun H' ρ Y a w h1 h2 h3 h4 h5 h6 h7 h8 K Q hK => ?_⟩, fun ρ => by rw [hw]; rfl, k⟩
  rw [if_pos (by simp [Region.wanted])]
  rw [looks_none] at h4
  refine h H' ρ Y h1 (factsO_of h2) (regsO_of h5) a w _ K Q rfl rfl (evk_ok h4) h6 ?_
  rintro v w' H'' O'' hle ⟨rfl, k2, k3⟩ hw'
  exact hK v w' _ Y hle hw' h3 (fun _ _ => rfl) (fun r x hr => by rw [hw] at hr; cases hr) k2 fun _ => k3
theorem SegO.opFG {d t j : Nat} {b : Bool} {op : Op} {T : TypeId} {pos : String} {af : Array Edge} {val : Rec → Value} {fact : Rec → Hp → Prop} (hj : guardSlot ops j = some t) (hb : ∀ ρ, lk (LL ρ) t = some (.bool b)) (hw : an.wr = []) (stv : ∀ ρ, val (mask an.ms ρ) = val ρ) (stf : ∀ ρ, fact (mask an.ms ρ) = fact ρ) (mono : ∀ ρ H' H'', H'.le H'' → fact ρ H' → fact ρ H'')
    (h : ∀ H' ρ Y, H.le H' → FactsO an i FF ρ H' → RegsO an XX O ρ Y → OpS P op T (evk (LL ρ) (looks op)) H' (Y ++ O) (fun v H'' O'' => (Y ++ O) = O'' ∧ fact (upd ρ i v) H'' ∧ val (upd ρ i v) = v)) (hd : Nat.blt d n = true)
    (k : SegO P ops Q n N H O (i + 1) os as (fun ρ => (d, val ρ) :: LL ρ) XX ((i, fact) :: FF)) :
    SegO P ops Q n N H O i ({ dst := some d, op, type := T, pos, after := af, guard := some (j, b) } :: os) (an :: as) LL XX FF := by
  refine ⟨fun ρ => ⟨val ρ, [], fact ρ⟩, ⟨fun d' hd' => by simp at hd'; subst hd'; simpa using hd, fun ρ => by rw [stv, stf], mono, fun H' ρ Y a w h1 h2 h3 h4 h5 h6 h7 h8 K Q hK => ?_⟩, fun ρ => by rw [hw]; rfl, k⟩
  rw [if_pos (by simp [Region.wanted, yields_of hj (hb ρ) h4])]
  refine h H' ρ Y h1 (factsO_of h2) (regsO_of h5) a w _ K Q rfl rfl (evk_ok fun t ht => h4 t (looks_sub ht)) h6 ?_
  rintro v w' H'' O'' hle ⟨rfl, k2, k3⟩ hw'
  exact hK v w' _ Y hle hw' h3 (fun _ _ => rfl) (fun r x hr => by rw [hw] at hr; cases hr) k2 fun _ => k3
end
/- the operations, in a register -/
section
variable {P : Program} {T : TypeId} {E : Operand → Option Value} {H : Hp} {O : List Res} {ρ : Rec} {i : Nat}
theorem OpS.allocR {t : TypeId} {size bytes : Nat} {z : Value} {cs : Array Value} (r : Nat) (hz : TI P t size bytes z) (hc : z.cells = cs) (hi : O[r]? = some .emp) :
    OpS P (.alloc t) T E H O (fun v H' O' => H' = H ∧ O' = O.set r (.blk (blkOf (upd ρ i v i)) (.cells cs t (0, 0))) ∧ ptr (blkOf (upd ρ i v i)) 0 = v) := .of_run fun a w o ho _ he hs => by
  refine ⟨ptr w.heap.size 0, w.alloc (.cells cs t), H, O.set r (.blk w.heap.size (.cells cs t)), ?_, Hp.le.refl H, ⟨rfl, by rw [upd_same]; rfl, by rw [upd_same]; rfl⟩, ?_⟩
  · subst hc
    simp [execOp, ho, Instr.alloc, hz.zeroValue, newVar, newRow, ptr]
  · exact hs.set hi (World.grownBy_alloc w _ _) (heap_alloc_new w _) (fun b hb => .inr (by simp only [Res.block, Option.some.injEq] at hb; omega))
theorem OpS.buildR {t e : TypeId} {len size bytes : Nat} {z : Value} {zs cs : Array Value} {ps : List (Nat × Operand)} {vs : List (Nat × Value)} (r : Nat) (ht : P.underlying t = some (.slice e)) (hz : TI P e size bytes z) (hzc : z.cells = zs)
    (hlen : Nat.ble (len * size) 16777216 = true) (h0 : Nat.blt 0 (len * size) = true) (hps : evp E ps = some vs) (hf : Instr.fill (fun i => some (i * size, size)) ((Array.range (len * size)).map (zs[· % zs.size]!)) vs = some cs) (hcs : cs.size = len * size) (hi : O[r]? = some .emp) :
    OpS P (.buildSlice t len ps.toArray) T E H O (fun v H' O' => H' = H ∧ O' = O.set r (.row (upd ρ i v i) e size len cs.toList) ∧ upd ρ i v i = v) := .of_run fun a w o ho _ he hs => by
  have h1 : (ps.toArray.map fun (i, x) => (i, a.eval x)).toList = vs := by simpa using evp_spec he hps
  have hlen' : ¬ len * size > 2 ^ 24 := by have := Nat.le_of_ble_eq_true hlen; omega
  have h0' : ¬ len * size = 0 := by simp at h0; omega
  refine ⟨.slice (some ⟨w.heap.size, 0, none⟩) len len, w.alloc (.cells cs e), H, _, ?_, Hp.le.refl H, ⟨rfl, by rw [upd_same], by rw [upd_same]⟩, hs.set hi (World.grownBy_alloc w _ _) ?_ (fun b hb => .inr (by simp [Res.block, Value.ownBlock] at hb; omega))⟩
  · simp only [execOp, ho, Instr.buildSlice, Sem.run_bind, sem_under ht, Result.andThen_ok, hz.sizeOf, if_neg hlen', if_neg h0', hz.zeroValue, hzc, Sem.run_pure, h1, hf]
    simp [newRow]
  · refine ⟨by simpa using hcs, .inr ⟨w.heap.size, len, cs, rfl, Nat.zero_le _, heap_alloc_new w _, Nat.le_refl _, ?_, hcs, ?_⟩⟩
    · have h2 := Nat.le_of_ble_eq_true hlen
      have h3 : len ≤ len * size := Nat.le_mul_of_pos_right _ (Nat.pos_of_ne_zero fun h => by subst h; simp at h0')
      simp only [maxLen]; omega
    · rw [List.take_of_length_le]; simp [hcs]
theorem OpS.buildR2 {t e : TypeId} {len size bytes : Nat} {z : Value} {zs cs : Array Value} {ps : List (Nat × Operand)} {vs : List (Nat × Value)} {vcs : List (Nat × Array Value)} (r : Nat) (ht : P.underlying t = some (.slice e)) (hz : TI P e size bytes z) (hzc : z.cells = zs)
    (hlen : Nat.ble (len * size) 16777216 = true) (h0 : Nat.blt 0 (len * size) = true) (hps : evp E ps = some vs) (hv : VC vs vcs) (hf : fillC (fun i => some (i * size, size)) ((Array.range (len * size)).map (zs[· % zs.size]!)) vcs = some cs) (hcs : cs.size = len * size) (hi : O[r]? = some .emp) :
    OpS P (.buildSlice t len ps.toArray) T E H O (fun v H' O' => H' = H ∧ O' = O.set r (.row (upd ρ i v i) e size len cs.toList) ∧ upd ρ i v i = v) :=
  OpS.buildR r ht hz hzc hlen h0 hps (by rw [fill_eq, hv]; exact hf) hcs hi
theorem OpS.buildR1 {t e : TypeId} {size bytes : Nat} {z v : Value} {cs : List Value} {x : Operand} (r : Nat) (ht : P.underlying t = some (.slice e)) (hz : TI P e size bytes z) (hlen : Nat.ble size 16777216 = true) (h0 : Nat.blt 0 size = true) (hx : E x = some v) (hc : v.cells.toList = cs) (hcs : cs.length = size) (hi : O[r]? = some .emp) :
    OpS P (.buildSlice t 1 #[(0, x)]) T E H O (fun v H' O' => H' = H ∧ O' = O.set r (.row (upd ρ i v i) e size 1 cs) ∧ upd ρ i v i = v) := by
  subst hc
  refine OpS.buildR (zs := z.cells) (cs := v.cells) (vs := [(0, v)]) (ps := [(0, x)]) r ht hz rfl (by simpa using hlen) (by simpa using h0) (by simp [evp, hx]) ?_ (by simpa using hcs) hi
  exact fill_one (by simp) (by simpa using hcs)
theorem OpS.appR {s x : Operand} {t e e2 : TypeId} {size bytes m m' : Nat} {z v y : Value} {xs ys : List Value} (r j : Nat) (ht : P.underlying t = some (.slice e)) (hz : TI P e size bytes z) (hzs : z.cells.size = size) (h0 : Nat.blt 0 size = true)
    (hs : E s = some v) (hx : E x = some y) (hi : O[r]? = some (.row v e size m xs)) (hj : O[j]? = some (.row y e2 size m' ys)) (h1 : ∀ u ∈ ys, u.oneCell' = true) (hb : Nat.ble bytes 64 = true) (hl : m + m' ≤ capN) :
    OpS P (.call { callee := .builtin .append, args := #[s, x], argTypes := #[t, t] }) T E H O (fun v' H' O' => H' = H ∧ O' = O.set r (.row (upd ρ i v' i) e size (m + m') (xs ++ ys)) ∧ upd ρ i v' i = v') := by
  have hb' := Nat.le_of_ble_eq_true hb
  have hbm : (m + m') * bytes ≤ 1099511627776 * 64 := Nat.mul_le_mul hl hb'
  refine (OpS.append ht hz hzs (by simpa using h0) hs hx hi (fun w hs => hs.srcRow hj) h1 (by omega) (by simp only [capN] at hl; omega)).mono ?_
  rintro v' H' O' ⟨rfl, rfl⟩
  exact ⟨rfl, by rw [upd_same], by rw [upd_same]⟩
theorem OpS.stR {x y : Operand} {t : TypeId} {v z : Value} {r B off bytes size : Nat} {cs cs' : Array Value} {e : TypeId} {vs : List Value} (hx : E x = some (ptr B off)) (hy : E y = some v) (hv : v.cells.toList = vs) (hsz : TI P t size bytes z) (hs : vs.length = size)
    (h1 : ∀ u ∈ vs, u.oneCell' = true) (hi : O[r]? = some (.blk B (.cells cs e (0, 0)))) (hfit : Nat.ble (off + vs.length) cs.size = true) (hcs : (spl cs.toList off vs).toArray = cs') :
    OpS P (.store t x y) T E H O (fun _ H' O' => H' = H ∧ O' = O.set r (.blk B (.cells cs' e (0, 0)))) := by
  subst hcs
  exact OpS.stBlk hx hy hv hsz hs h1 hi (Nat.le_of_ble_eq_true hfit)
theorem OpS.stRowR {x y : Operand} {t : TypeId} {v u z : Value} {r m size k bytes sz : Nat} {xs : List Value} {e : TypeId} {vs : List Value} (hx : E x = some (elemPtr v k)) (hy : E y = some u) (hv : u.cells.toList = vs) (hsz : TI P t sz bytes z) (hs : vs.length = sz) (h0 : Nat.blt 0 sz = true)
    (h1 : ∀ u ∈ vs, u.oneCell' = true) (hi : O[r]? = some (.row v e size m xs)) (hfit : k + vs.length ≤ xs.length) :
    OpS P (.store t x y) T E H O (fun _ H' O' => H' = H ∧ O' = O.set r (.row v e size m (spl xs k vs))) := OpS.stRow hx hy hv hsz hs (by simpa using h0) h1 hi hfit
end
/- A thing that is lent to a call stands first. -/
section
variable {P : Program} {w : World} {H : Hp} {O : List Res} {f : FuncId} {vs : List Value}
theorem SH.front {i : Nat} {r : Res} (hi : O[i]? = some r) (h : SH w H O) : SH w H (r :: O.eraseIdx i) := by
  refine h.pick (fun j => if j = 0 then i else if j - 1 < i then j - 1 else j) (fun j s hs => ?_) (fun j k hj hk he => ?_)
  · cases j with
    | zero => simp at hs; subst hs; simpa using hi
    | succ j =>
      simp only [List.getElem?_cons_succ, List.getElem?_eraseIdx] at hs
      simp only [Nat.succ_ne_zero, if_false, Nat.add_sub_cancel]
      by_cases h1 : j < i
      · rw [if_pos h1] at hs ⊢; exact hs
      · rw [if_neg h1] at hs ⊢; exact hs
  · split at he <;> split at he <;> (try split at he) <;> (try split at he) <;> omega
theorem SH.back {i : Nat} {r : Res} (hi : i < O.length) (h : SH w H (r :: O.eraseIdx i)) : SH w H (O.set i r) := by
  refine h.pick (fun j => if j = i then 0 else if j < i then j + 1 else j) (fun j s hs => ?_) (fun j k hj hk he => ?_)
  · rw [List.getElem?_set] at hs
    by_cases e : j = i
    · subst e
      simp [hi] at hs
      simp [hs]
    · rw [if_neg (fun x => e x.symm)] at hs
      rw [if_neg e]
      by_cases h1 : j < i
      · rw [if_pos h1, List.getElem?_cons_succ, List.getElem?_eraseIdx, if_pos h1]; exact hs
      · rw [if_neg h1]
        obtain ⟨q, rfl⟩ : ∃ q, j = q + 1 := ⟨j - 1, by omega⟩
        rw [List.getElem?_cons_succ, List.getElem?_eraseIdx, if_neg (by omega)]; exact hs
  · split at he <;> split at he <;> (try split at he) <;> (try split at he) <;> omega
theorem set_self {i : Nat} {r : Res} (hi : O[i]? = some r) : O.set i r = O := by
  apply List.ext_getElem?
  intro j
  rw [List.getElem?_set]
  split
  · rename_i e; subst e
    have := (List.getElem?_eq_some_iff.1 hi).1
    simp [this] at hi ⊢; exact hi.symm
  · rfl
theorem TriV.at {v : Value} {r : Res} (i : Nat) (hi : O[i]? = some r) (h : TriV P f vs H (r :: O.eraseIdx i) v) : TriV P f vs H O v := fun w hs =>
  (h w (hs.front hi)).mono fun _ _ ⟨h1, h2⟩ => ⟨h1, by
    have := h2.back (List.getElem?_eq_some_iff.1 hi).1
    rwa [set_self hi] at this⟩
theorem Tri.atR {R : Value → Hp → Prop} {r : Res} (i : Nat) (hi : O[i]? = some r) (h : Tri P f vs H (r :: O.eraseIdx i) (fun v H' O' => R v H' ∧ r :: O.eraseIdx i = O')) : Tri P f vs H O (fun v H' O' => R v H' ∧ O = O') := fun w hs =>
  (h w (hs.front hi)).mono fun _ _ ⟨v, H', O', h1, h2, h3, h5, h6⟩ => by
    subst h6
    have := h3.back (List.getElem?_eq_some_iff.1 hi).1
    rw [set_self hi] at this
    exact ⟨v, H', O, h1, h2, this, h5, rfl⟩
theorem Tri.at {R : Value → Hp → Res → Prop} {r : Res} (i : Nat) (hi : O[i]? = some r) (h : Tri P f vs H (r :: O.eraseIdx i) (fun v H' O' => ∃ r', R v H' r' ∧ r' :: O.eraseIdx i = O')) : Tri P f vs H O (fun v H' O' => ∃ r', R v H' r' ∧ O.set i r' = O') := fun w hs =>
  (h w (hs.front hi)).mono fun _ _ ⟨v, H', O', h1, h2, h3, ⟨r', h4, h5⟩⟩ => by
    subst h5
    exact ⟨v, H', _, h1, h2, h3.back (List.getElem?_eq_some_iff.1 hi).1, r', h4, rfl⟩
end
end Go.GK
/- A row that is lent to a call that only reads; a call whose result is owned. -/
namespace Go.GK
section
variable {H : Hp} {O : List Res}
theorem SH.unpublish {w : World} {i b : Nat} {r : Res} {o : Obj} (hi : O[i]? = some r) (hb : r.block = some b) (hn : H.at_ b = none) (hr : ∀ w' : World, w'.heap[b]? = some o → r.ok w') (h : SH w (H.put b o) (O.eraseIdx i)) : SH w H O := by
  have hbo : (H.put b o).at_ b = some o := by simp [Hp.put]
  have hne : ∀ c o', H.at_ c = some o' → c ≠ b := fun c o' hc e => by subst e; rw [hn] at hc; cases hc
  have key : ∀ j s, O[j]? = some s → j ≠ i → ∃ k, (O.eraseIdx i)[k]? = some s ∧ k = (if j < i then j else j - 1) := fun j s hs hj => by
    refine ⟨_, ?_, rfl⟩
    rw [List.getElem?_eraseIdx]
    by_cases h1 : j < i
    · rw [if_pos h1, if_pos h1]; exact hs
    · rw [if_neg h1, if_neg (by omega), show j - 1 + 1 = j by omega]; exact hs
  have hdis : ∀ j s c, O[j]? = some s → j ≠ i → s.block = some c → c ≠ b ∧ H.at_ c = none := fun j s c hs hj hc => by
    obtain ⟨k, hk, _⟩ := key j s hs hj
    have h1 := h.dis k s c hk hc
    refine ⟨fun e => (by subst e; rw [hbo] at h1; cases h1), ?_⟩
    simp only [Hp.put] at h1
    split at h1
    · cases h1
    · exact h1
  refine ⟨fun c o' hc => h.imm c o' ?_, h.os, h.output, h.tape, fun j s hs => ?_, fun j s c hs hc => ?_, fun j k s s' c hs hs' hc hc' => ?_⟩
  · simp only [Hp.put]; rw [if_neg (hne c o' hc)]; exact hc
  · by_cases hj : j = i
    · subst hj; rw [hi] at hs; cases hs; exact hr w (h.imm b o hbo)
    · obtain ⟨k, hk, _⟩ := key j s hs hj
      exact h.ok k s hk
  · by_cases hj : j = i
    · subst hj; rw [hi] at hs; cases hs; rw [hb] at hc; cases hc; exact hn
    · exact (hdis j s c hs hj hc).2
  · by_cases hj : j = i
    · subst hj
      rw [hi] at hs; cases hs; rw [hb] at hc; cases hc
      by_cases hk : k = j
      · exact hk.symm
      · exact absurd rfl (hdis k s' b hs' hk hc').1
    · by_cases hk : k = i
      · subst hk
        rw [hi] at hs'; cases hs'; rw [hb] at hc'; cases hc'
        exact absurd rfl (hdis j s b hs hj hc).1
      · obtain ⟨j', h1, e1⟩ := key j s hs hj
        obtain ⟨k', h2, e2⟩ := key k s' hs' hk
        have := h.nd j' k' s s' c h1 h2 hc hc'
        rw [e1, e2] at this
        split at this <;> split at this <;> omega
theorem SH.lendRow {w : World} (hs : SH w H O) {i : Nat} {v : Value} {e : TypeId} {size n : Nat} {xs : List Value} (hi : O[i]? = some (.row v e size n xs)) :
    ∃ H', H.le H' ∧ SH w H' (O.eraseIdx i) ∧ Sl H' v size n xs ∧ ∀ w', SH w' H' (O.eraseIdx i) → SH w' H O := by
  have h := hs.ok i _ hi
  simp only [Res.ok] at h
  rcases h.2 with ⟨rfl, rfl⟩ | ⟨g, cap, cur, rfl, hg0, hg, hn, hcap, hcs, htake⟩
  · have : xs = [] := List.eq_nil_of_length_eq_zero (by simpa using h.1)
    subst this
    refine ⟨H, Hp.le.refl H, hs.drop i, Sl.nil H size, fun w' hw' => ?_⟩
    have hl := (List.getElem?_eq_some_iff.1 hi).1
    have h1 := (hw'.nilRow e size).back hl
    have h2 : O.set i (.row (.slice none 0 0) e size 0 []) = O := set_self hi
    rwa [h2] at h1
  · obtain ⟨h1, h2⟩ := hs.publish hi (b := g) rfl hg
    refine ⟨_, h1, h2, ⟨h.1, .inr ⟨_, _, rfl⟩, fun j u hj => ⟨⟨g, 0 + j, none⟩, cur, e, (0, 0), by simp only [elemPtr, Addr.add_lit], rfl, by simp [Hp.put], ?_⟩⟩, fun w' hw' => ?_⟩
    · rw [← htake] at hj
      rw [List.getElem?_take] at hj
      split at hj
      · simpa using hj
      · simp at hj
    · exact SH.unpublish hi rfl (hs.dis i _ g hi rfl) (fun w'' hw'' => ⟨h.1, .inr ⟨g, cap, cur, rfl, hg0, hw'', hn, hcap, hcs, htake⟩⟩) hw'
end
section
variable {P : Program} {H : Hp} {O : List Res} {α : Type}
theorem TriV.lend {f : FuncId} {vs : List Value} {r v : Value} {e : TypeId} {xs : List Value} {c : Cd α} {l : List α} (i : Nat) (hi : O[i]? = some (.row v e c.sz l.length xs)) (hL : LayL c H l xs)
    (k : ∀ H', H.le H' → SlD c H' l v → TriV P f vs H' (O.eraseIdx i) r) : TriV P f vs H O r := fun w hs => by
  obtain ⟨H', h1, h2, h3, h4⟩ := hs.lendRow hi
  exact (k H' h1 (SlD.of h3 rfl (hL.mono h1) (hs.rowLe hi)) w h2).mono fun _ w' ⟨he, hw⟩ => ⟨he, h4 w' hw⟩
end
section
variable {P : Program} {Q : Exit → Act → World → Prop} {n : Nat} {L : List (Nat × Value)} {H : Hp} {O : List Res} {T : TypeId}
theorem Seg.opSG {ops : Array Oper} {rest : List Oper} {d t : Tmp} {op : Op} {pos : String} {af : Array Edge} {j : Nat} {b : Bool} {R : Value → Hp → List Res → Prop} (hj : guardSlot ops j = some t) (hb : lk L t = some (.bool b))
    (h : OpS P op T (ev L) H O R) (hd : Nat.blt d n = true) (k : ∀ v H' O', H.le H' → R v H' O' → Seg P ops Q rest n ((d, v) :: L) H' O') :
    Seg P ops Q ({ dst := some d, op, type := T, pos, after := af, guard := some (j, b) } :: rest) n L H O := fun a w hf hs =>
  wpList_step fun K hK => by
    rw [if_pos (by simp [Region.wanted, yielded_of hj (hf.get t _ hb)])]
    exact h a w _ K Q rfl rfl (fun _ _ hx => hf.eval hx) hs fun v w' H' O' hle hr hw' => hK _ _ (k v H' O' hle hr _ _ (hf.put hd v) hw')
/- a new row goes to its register -/
theorem SH.toReg {w : World} {r : Nat} {s : Res} (hr : O[r]? = some .emp) (h : SH w H (s :: O)) : SH w H (O.set r s) := by
  have hl := (List.getElem?_eq_some_iff.1 hr).1
  refine h.pick (fun j => if j = r then 0 else j + 1) (fun j x hx => ?_) (fun j k _ _ he => ?_)
  · rw [List.getElem?_set] at hx
    by_cases e : j = r
    · subst e; simp [hl] at hx; simp [hx]
    · rw [if_neg (fun h => e h.symm)] at hx; rw [if_neg e]; simpa using hx
  · by_cases e1 : j = r <;> by_cases e2 : k = r <;> simp [e1, e2] at he ⊢ <;> omega
theorem OpS.toReg {E : Operand → Option Value} {op : Op} {e : TypeId} {sz m : Nat} {cells : List Value} {ρ : Rec} {i : Nat} {R : Value → List Value → Hp → Prop} (r : Nat) (hr : O[r]? = some .emp)
    (h : OpS P op T E H O (fun v H' O' => ∃ (v1 : Value) (xs : List Value), v1 = v ∧ .row v1 e sz m xs :: O = O' ∧ R v1 xs H')) (hc : ∀ v xs H', R v xs H' → xs = cells) :
    OpS P op T E H O (fun v _ O' => O' = O.set r (.row (upd ρ i v i) e sz m cells) ∧ upd ρ i v i = v) := fun a w o next Q h1 h2 h3 h4 k =>
  h a w o next Q h1 h2 h3 h4 fun v w' H' O' hle ⟨v1, xs, e1, e2, hR⟩ hw' => by
    subst e1; subst e2
    obtain rfl := hc _ _ _ hR
    exact k _ w' H' _ hle ⟨by rw [upd_same], by rw [upd_same]⟩ (hw'.toReg hr)
theorem SegO.op1h {ops : Array Oper} {N i : Nat} {os : List Oper} {an : Ann} {as : List Ann} {LL : Rec → List (Nat × Value)} {XX : Rec → List Res} {FF : List (Nat × (Rec → Hp → Prop))} {d : Tmp} {op : Op} {pos : String} {af : Array Edge} {res : Rec → Res} (r : Nat) (hw : an.wr = [r]) (hr : Nat.blt r N = true) (hm : memB an.ms i = true) (str : ∀ ρ, res (mask an.ms ρ) = res ρ)
    (h : ∀ H' ρ Y, H.le H' → FactsO an i FF ρ H' → RegsO an XX O ρ Y → OpS P op T (evk (LL ρ) (looks op)) H' (Y ++ O) (fun v _ O'' => O'' = (Y ++ O).set r (res (upd ρ i v)) ∧ upd ρ i v i = v)) (hd : Nat.blt d n = true)
    (hrow : ∀ ρ, ∃ e size m xs, res ρ = .row (ρ i) e size m xs)
    (k : SegO P ops Q n N H O (i + 1) os as (fun ρ => (d, ρ i) :: LL ρ) (fun ρ => (XX ρ).set r (res ρ)) ((i, fun ρ _ => (ρ i).oneCell' = true) :: FF)) :
    SegO P ops Q n N H O i ({ dst := some d, op, type := T, pos, after := af, guard := none } :: os) (an :: as) LL XX FF := by
  have hmi : ∀ ρ : Rec, mask an.ms ρ i = ρ i := fun ρ => by unfold mask; rw [show an.ms.any (Nat.beq i) = true from hm]
  refine ⟨fun ρ => ⟨ρ i, [(r, res ρ)], fun _ => (ρ i).oneCell' = true⟩, ⟨fun d' hd' => by simp at hd'; subst hd'; simpa using hd, fun ρ => by rw [hmi, str], fun _ _ _ _ h => h, fun H' ρ Y a w h1 h2 h3 h4 h5 h6 h7 h8 K Q hK => ?_⟩, fun ρ => by rw [hw]; rfl, k⟩
  have hr' : r < N := by simpa using hr
  rw [if_pos (by simp [Region.wanted])]
  rw [looks_none] at h4
  refine (OpS.withOne r (h H' ρ Y h1 (factsO_of h2) (regsO_of h5)) (fun v H'' O'' ⟨e2, e3⟩ => ?_)) a w _ K Q rfl rfl (evk_ok h4) h6 ?_
  · obtain ⟨e, size, m, xs, he⟩ := hrow (upd ρ i v)
    refine ⟨e, size, m, xs, ?_⟩
    rw [e2, he, e3, setK (by omega), List.getElem?_append_left (by simp [h3, hr']), List.getElem?_set_self (by omega)]
  · rintro v w' H'' O'' hle ⟨⟨rfl, k3⟩, k4⟩ hw'
    rw [setK (by omega)] at hw'
    refine hK v w' _ _ hle hw' (by simp [h3]) (fun r' hr' => ?_) (fun r' x _ hx => ?_) (by show (upd ρ i v i).oneCell' = true; rw [k3]; exact k4) fun _ => k3
    · rw [hw] at hr'
      have hne : r ≠ r' := fun e => by subst e; simp [memB] at hr'
      rw [List.getElem?_set_ne hne]
    · simp only [lkR] at hx
      split at hx
      · rename_i hb
        have := Nat.eq_of_beq_eq_true hb
        subst this
        injection hx with hx
        subst hx
        simp [h3, hr']
      · cases hx
end
end Go.GK
/- Maps that a call makes: as lists of pairs. -/
namespace Go.GK
open Go.Maps
def fmGet {κ β : Type} [DecidableEq κ] : List (κ × β) → κ → Option β
  | [], _ => none
  | (k, v) :: m, x => if k = x then some v else fmGet m x
def fmSet {κ β : Type} [DecidableEq κ] : List (κ × β) → κ → β → List (κ × β)
  | [], _, _ => []
  | (k, v) :: m, x, y => if k = x then (k, y) :: m else (k, v) :: fmSet m x y
def fmPut {κ β : Type} [DecidableEq κ] (m : List (κ × β)) (x : κ) (y : β) : List (κ × β) := match fmGet m x with
  | some _ => fmSet m x y
  | none => m ++ [(x, y)]
section
variable {κ β : Type} [DecidableEq κ]
theorem fmSet_len (m : List (κ × β)) (x : κ) (y : β) : (fmSet m x y).length = m.length := by
  induction m with
  | nil => rfl
  | cons p m ih => obtain ⟨k, v⟩ := p; simp only [fmSet]; split <;> simp [ih]
theorem fmGet_set (m : List (κ × β)) (x z : κ) (y : β) : fmGet (fmSet m x y) z = if z = x then (fmGet m x).map (fun _ => y) else fmGet m z := by
  induction m with
  | nil => simp [fmGet, fmSet]
  | cons p m ih =>
    obtain ⟨k, v⟩ := p
    simp only [fmSet]
    by_cases h : k = x
    · subst h
      by_cases hz : z = k
      · subst hz; simp [fmGet]
      · have : ¬ k = z := fun e => hz e.symm
        simp [fmGet, hz, this]
    · rw [if_neg h]
      simp only [fmGet]
      by_cases hz : z = x
      · subst hz; simp [h, ih]
      · by_cases hk : k = z
        · subst hk; simp [hz]
        · simp [hk, ih, hz]
theorem fmGet_app (m : List (κ × β)) (x z : κ) (y : β) (h : fmGet m x = none) : fmGet (m ++ [(x, y)]) z = if z = x then some y else fmGet m z := by
  induction m with
  | nil =>
    by_cases hz : z = x
    · subst hz; simp [fmGet]
    · have : ¬ x = z := fun e => hz e.symm
      simp [fmGet, hz, this]
  | cons p m ih =>
    obtain ⟨k, v⟩ := p
    simp only [fmGet] at h
    split at h
    · cases h
    · rename_i hk
      simp only [List.cons_append, fmGet]
      by_cases hz : z = x
      · subst hz; simp [hk, ih h]
      · by_cases hkz : k = z
        · subst hkz; simp [hz]
        · simp [hkz, ih h, hz]
theorem fmGet_put (m : List (κ × β)) (x z : κ) (y : β) : fmGet (fmPut m x y) z = if z = x then some y else fmGet m z := by
  unfold fmPut
  cases h : fmGet m x with
  | none => exact fmGet_app m x z y h
  | some v => rw [fmGet_set, h]; rfl
theorem fmPut_len (m : List (κ × β)) (x : κ) (y : β) : (fmPut m x y).length = if (fmGet m x).isSome then m.length else m.length + 1 := by
  unfold fmPut
  cases h : fmGet m x with
  | none => simp
  | some v => simp [fmSet_len]
end
/- keys, elements -/
structure MKey (P : Program) (kt : TypeId) (κ : Type) where
  val : κ → Value
  lit : κ → Lit
  ok : κ → Prop
  keyed : Keyed P kt
  of : ∀ k, ok k → keyOf P kt (val k) = some (lit k)
  key : ∀ k, WideAt.IsKeyLit (lit k)
  inj : ∀ k k', lit k = lit k' → k = k'
structure MElem (P : Program) (et : TypeId) (β : Type) where
  val : β → Value
  dat : β → DataW Unit
  ok : β → Prop
  of : ∀ b, ok b → plainElem P et (val b) = some (dat b, [])
  inv : ∀ v b ps, plainElem P et v = some (dat b, ps) → v = val b
  one : ∀ b, (val b).oneCell' = true
theorem wf64 {n : Int} (h : F64 n) : (Lit.int .i64 n).wf = true := by
  simp only [F64] at h
  simp [Lit.wf, IntKind.min, IntKind.max, IntKind.signed, IntKind.bits]
  omega
def mkI {P : Program} {kt : TypeId} (h : P.underlying kt = some (.int .i64)) : MKey P kt Int where
  val n := .int .i64 n
  lit n := .int .i64 n
  ok n := F64 n
  keyed := int_keyed h
  of k hk := keyOf_int_mk h (wf64 hk)
  key _ := trivial
  inj _ _ h := by injection h
def mkS {P : Program} {kt : TypeId} (h : P.underlying kt = some .string) : MKey P kt Str where
  val s := sv s
  lit s := .string s
  ok s := s.length ≤ capN
  keyed := string_keyed h
  of k hk := by
    have := Go.WideMaps.keyOf_string_mk (s := ⟨⟨k⟩⟩) h (by
      show k.length ≤ maxLen
      simp only [capN, maxLen] at *; omega)
    exact this
  key _ := trivial
  inj _ _ h := by injection h
def meI {P : Program} {et : TypeId} (h : P.underlying et = some (.int .i64)) : MElem P et Int where
  val n := .int .i64 n
  dat n := .lit (.int .i64 n)
  ok n := F64 n
  of b hb := plainElem_int h (wf64 hb)
  inv v b ps hv := by
    obtain ⟨a, rfl, h2, _⟩ := plainElem_int_inv h hv
    simp only [Prod.mk.injEq, DataW.lit.injEq, Lit.int.injEq, true_and] at h2
    rw [h2.1]
  one _ := rfl
def meB {P : Program} {et : TypeId} (h : P.underlying et = some .bool) : MElem P et Bool where
  val b := .bool b
  dat b := .lit (.bool b)
  ok _ := True
  of b _ := plainElem_bool h b
  inv v b ps hv := by
    unfold plainElem at hv
    rw [h] at hv
    cases v <;> simp at hv
    rw [hv.1]
  one _ := rfl

section
variable {P : Program} {kt et : TypeId} {κ β : Type} [DecidableEq κ]
def MapOk (K : MKey P kt κ) (E : MElem P et β) (b : Nat) (m : List (κ × β)) (w : World) : Prop :=
  ∃ D : DataW Unit, w.ownsMap P kt (plainElem P et) b m.length D ∧ Maps.size D = m.length ∧ (∀ k, Maps.has D (K.lit k) = (fmGet m k).isSome) ∧ ∀ k x, fmGet m k = some x → ∀ z, D.atKey (K.lit k) z = E.dat x
def mapR (K : MKey P kt κ) (E : MElem P et β) (b : Nat) (m : List (κ × β)) : Res :=
  .own b (MapOk K E b m) (fun _ ⟨_, h, _⟩ => h.lt) (fun _ _ _ ⟨D, h, h2⟩ hg hne => ⟨D, h.kept hg (fun e => hne e.symm), h2⟩)
end
section
variable {P : Program} {kt et : TypeId} {κ β : Type} [DecidableEq κ] {K : MKey P kt κ} {M : MElem P et β}
variable {T : TypeId} {E : Operand → Option Value} {H : Hp} {O : List Res} {t : TypeId}
theorem OpT.lookup {x y : Operand} {b i bytes : Nat} {m : List (κ × β)} {k : κ} {z : β} (ht : P.underlying t = some (.map kt et)) (hz : TI P et 1 bytes (M.val z)) (hzo : M.ok z) (hx : E x = some (.map (some b))) (hy : E y = some (K.val k)) (hk : K.ok k) (hi : O[i]? = some (mapR K M b m)) :
    OpT P (.lookup t x y false) T E H O (M.val ((fmGet m k).getD z)) := .of_run fun ac w o ho _ he hs => by
  obtain ⟨D, h1, h2, h3, h4⟩ : MapOk K M b m w := hs.ok i _ hi
  obtain ⟨v, ps, hrun, hv⟩ := h1.lookup K.keyed ht hz.zeroValue (M.of z hzo) (K.of k hk)
  have e : v = M.val ((fmGet m k).getD z) := by
    refine M.inv v _ ps ?_
    rw [hv]
    cases hg : fmGet m k with
    | none =>
      have := h3 k; rw [hg] at this
      rw [Maps.atKey_of_not_has this]; rfl
    | some u => rw [h4 k u hg]; rfl
  subst e
  simp [execOp, ho, he x _ hx, he y _ hy, hrun]
theorem OpT.lookupOk {x y : Operand} {b i bytes : Nat} {m : List (κ × β)} {k : κ} {z : β} (ht : P.underlying t = some (.map kt et)) (hz : TI P et 1 bytes (M.val z)) (hzo : M.ok z) (hx : E x = some (.map (some b))) (hy : E y = some (K.val k)) (hk : K.ok k) (hi : O[i]? = some (mapR K M b m)) :
    OpT P (.lookup t x y true) T E H O (.tuple #[M.val ((fmGet m k).getD z), .bool (fmGet m k).isSome]) := .of_run fun ac w o ho _ he hs => by
  obtain ⟨D, h1, h2, h3, h4⟩ : MapOk K M b m w := hs.ok i _ hi
  obtain ⟨v, ps, hrun, hv⟩ := h1.look_ok K.keyed ht hz.zeroValue (M.of z hzo) (K.of k hk)
  have e : v = M.val ((fmGet m k).getD z) := by
    refine M.inv v _ ps ?_
    rw [hv]
    cases hg : fmGet m k with
    | none =>
      have := h3 k; rw [hg] at this
      rw [Maps.atKey_of_not_has this]; rfl
    | some u => rw [h4 k u hg]; rfl
  subst e
  rw [h3 k] at hrun
  simp [execOp, ho, he x _ hx, he y _ hy, hrun]
theorem OpT.lenMap {x : Operand} {b i : Nat} {m : List (κ × β)} (ht : P.underlying t = some (.map kt et)) (hx : E x = some (.map (some b))) (hi : O[i]? = some (mapR K M b m)) :
    OpT P (.call { callee := .builtin .len, args := #[x], argTypes := #[t] }) T E H O (.int .i64 ((m.length : Nat) : Int)) := .of_run fun ac w o ho _ he hs => by
  obtain ⟨D, h1, h2, h3, h4⟩ : MapOk K M b m w := hs.ok i _ hi
  have := h1.len ht o.type
  rw [h2] at this
  simp [execOp, ho, he x _ hx, resolve, invoke, builtin, this]
theorem MapOk.store {w : World} {b : Nat} {m : List (κ × β)} (h : MapOk K M b m w) (ht : P.underlying t = some (.map kt et)) {k : κ} {v : β} (hk : K.ok k) (hv : M.ok v) (hn : m.length ≤ capN) :
    ∃ w', (Instr.mapUpdate t (.map (some b)) (K.val k) (M.val v)).run P w = .ok () w' ∧ MapOk K M b (fmPut m k v) w' ∧ w.grownBy w' (some b) := by
  obtain ⟨D, h1, h2, h3, h4⟩ := h
  obtain ⟨w', g1, g2, g3⟩ := h1.update K.keyed ht (by simp only [capN, maxLen] at *; omega) (K.of k hk) (M.of v hv)
  have hsz : Maps.size (D.put (K.lit k) (M.dat v)) = (fmPut m k v).length := by
    rw [Maps.size_put (h1.tidy K.keyed), h3 k, h2, fmPut_len]
  refine ⟨w', g1, ⟨_, ?_, hsz, fun k' => ?_, fun k' x hx z => ?_⟩, g3⟩
  · obtain ⟨es, clock, q1, q2, q3, q4⟩ := g2
    refine ⟨es, clock, q1, q2, ?_, q4⟩
    have : Maps.size (D.put (K.lit k) (M.dat v)) = es.size := by rw [q4]; exact Go.length_read es
    rw [← hsz, this]; exact Nat.le_refl _
  · rw [fmGet_put]
    by_cases e : k' = k
    · subst e; rw [if_pos rfl, Maps.has_put_same h1.isMap (K.key _)]; rfl
    · rw [if_neg e, Maps.has_put_other (fun x => e (K.inj _ _ x)), h3]
  · rw [fmGet_put] at hx
    by_cases e : k' = k
    · subst e; rw [if_pos rfl] at hx; injection hx with hx; subst hx
      exact Maps.atKey_put_same h1.isMap (K.key _) _ _
    · rw [if_neg e] at hx
      rw [Maps.atKey_put_other (fun x => e (K.inj _ _ x))]
      exact h4 k' x hx z
theorem OpS.mapUpdate {x y u : Operand} {b i : Nat} {m : List (κ × β)} {k : κ} {v : β} (ht : P.underlying t = some (.map kt et)) (hx : E x = some (.map (some b))) (hy : E y = some (K.val k)) (hu : E u = some (M.val v)) (hk : K.ok k) (hv : M.ok v) (hn : m.length ≤ capN) (hi : O[i]? = some (mapR K M b m)) :
    OpS P (.mapUpdate t x y u) T E H O (fun _ H' O' => H' = H ∧ O' = O.set i (mapR K M b (fmPut m k v))) := .of_skip fun a w o ho _ he hs => by
  obtain ⟨w', g1, g2, g3⟩ := MapOk.store (hs.ok i _ hi) ht hk hv hn
  refine ⟨w', H, _, ?_, Hp.le.refl H, ⟨rfl, rfl⟩, hs.set hi g3 g2 (fun c hc => .inl hc)⟩
  simp [execOp, ho, he x _ hx, he y _ hy, he u _ hu, g1]
theorem OpS.insert {x y u : Operand} {b i : Nat} {m : List (κ × β)} {k : κ} {v : β} (ht : P.underlying t = some (.map kt et)) (hx : E x = some (.map (some b))) (hy : E y = some (K.val k)) (hu : E u = some (M.val v)) (hk : K.ok k) (hv : M.ok v) (hn : m.length ≤ capN) (hi : O[i]? = some (mapR K M b m)) :
    OpS P (.insert t x y u) T E H O (fun _ H' O' => H' = H ∧ O' = O.set i (mapR K M b (fmPut m k v))) := .of_skip fun a w o ho _ he hs => by
  obtain ⟨w', g1, g2, g3⟩ := MapOk.store (hs.ok i _ hi) ht hk hv hn
  refine ⟨w', H, _, ?_, Hp.le.refl H, ⟨rfl, rfl⟩, hs.set hi g3 g2 (fun c hc => .inl hc)⟩
  simp [execOp, ho, he x _ hx, he y _ hy, he u _ hu, g1]
theorem OpS.makeMap (K : MKey P kt κ) (M : MElem P et β) : OpS P (.makeMap t none) T E H O (fun v H' O' => ∃ B, v = .map (some B) ∧ H' = H ∧ O' = mapR K M B [] :: O) := .of_run fun a w o ho _ he hs => by
  refine ⟨.map (some w.heap.size), w.alloc (.map #[] 0), H, mapR K M w.heap.size [] :: O, ?_, Hp.le.refl H, ⟨_, rfl, rfl, rfl⟩, hs.push (World.grownBy_alloc w _ none) ?_ (fun b hb => by simp only [mapR, Res.block, Option.some.injEq] at hb; omega)⟩
  · simp [execOp, ho, Go.RowKit.run_makeMap]
  · exact ⟨.map [], World.ownsMap_made w P kt _, rfl, fun k => rfl, fun k x h => by cases h⟩
end
section
variable {P : Program} {kt et : TypeId} {κ β : Type} [DecidableEq κ]
variable {Q : Exit → Act → World → Prop} {n : Nat} {L : List (Nat × Value)} {H : Hp} {O : List Res} {ops : Array Oper} {rest : List Oper} {T t : TypeId}
theorem Seg.makeMap {d : Tmp} {pos : String} {af : Array Edge} (K : MKey P kt κ) (M : MElem P et β) (hd : Nat.blt d n = true) (k : ∀ B, Seg P ops Q rest n ((d, .map (some B)) :: L) H (mapR K M B [] :: O)) :
    Seg P ops Q ({ dst := some d, op := .makeMap t none, type := T, pos, after := af, guard := none } :: rest) n L H O :=
  Seg.opS (OpS.makeMap K M) hd (by rintro v H' O' _ ⟨B, rfl, rfl, rfl⟩; exact k B)
theorem Seg.mapUpdate {pos : String} {af : Array Edge} {K : MKey P kt κ} {M : MElem P et β} {x y u : Operand} {b : Nat} {m : List (κ × β)} {k : κ} {v : β} (i : Nat) (ht : P.underlying t = some (.map kt et)) (hx : ev L x = some (.map (some b))) (hy : ev L y = some (K.val k)) (hu : ev L u = some (M.val v)) (hk : K.ok k) (hv : M.ok v) (hn : m.length ≤ capN) (hi : O[i]? = some (mapR K M b m))
    (kk : Seg P ops Q rest n L H (O.set i (mapR K M b (fmPut m k v)))) :
    Seg P ops Q ({ dst := none, op := .mapUpdate t x y u, type := T, pos, after := af, guard := none } :: rest) n L H O :=
  Seg.opS0 (OpS.mapUpdate ht hx hy hu hk hv hn hi) (by rintro v H' O' _ ⟨rfl, rfl⟩; exact kk)
theorem Seg.insert {pos : String} {af : Array Edge} {K : MKey P kt κ} {M : MElem P et β} {x y u : Operand} {b : Nat} {m : List (κ × β)} {k : κ} {v : β} (i : Nat) (ht : P.underlying t = some (.map kt et)) (hx : ev L x = some (.map (some b))) (hy : ev L y = some (K.val k)) (hu : ev L u = some (M.val v)) (hk : K.ok k) (hv : M.ok v) (hn : m.length ≤ capN) (hi : O[i]? = some (mapR K M b m))
    (kk : Seg P ops Q rest n L H (O.set i (mapR K M b (fmPut m k v)))) :
    Seg P ops Q ({ dst := none, op := .insert t x y u, type := T, pos, after := af, guard := none } :: rest) n L H O :=
  Seg.opS0 (OpS.insert ht hx hy hu hk hv hn hi) (by rintro v H' O' _ ⟨rfl, rfl⟩; exact kk)
end
/- function values -/
section
variable {P : Program} {T : TypeId} {E : Operand → Option Value} {H : Hp} {O : List Res}
theorem OpT.makeFunc {fn : Fn} {fs cs : List Operand} {vf vc : List Value} (hf : evlE E fs = some vf) (hc : evlE E cs = some vc) : OpT P (.makeFunc fn fs.toArray cs.toArray) T E H O (.func fn vf.toArray vc.toArray) := .of_run fun a w o ho _ he _ => by
  have h1 := evlE_spec (a := a) he hf
  have h2 := evlE_spec (a := a) he hc
  simp [execOp, ho, Instr.makeFunc, h1, h2]
theorem OpT.callC {x : Operand} {f : FuncId} {first : List Value} {args : List Operand} {vs : List Value} {tys : Array TypeId} {v : Value} (hent : Ent P f) (hx : E x = some (.func (.func f) first.toArray #[])) (ha : evlE E args = some vs) (ht : TriV P f (first ++ vs) H O v) : OpT P (.call { callee := .value x, args := args.toArray, argTypes := tys }) T E H O v := fun a w o ho _ he hs => by
  have hr : (execOp a.eval o).run P w = .ok (.enter f (first ++ vs).toArray) w := by
    have := hent.run (first ++ vs).toArray w
    simp [execOp, ho, resolve, Deferred.ofValue, he x _ hx, invoke, evlE_spec he ha] at this ⊢
    rw [this]
  simp only [Oper.quietAt, hr, Oper.quietUpon, true_and]
  exact ht w hs
theorem OpS.callC {x : Operand} {f : FuncId} {first : List Value} {args : List Operand} {vs : List Value} {tys : Array TypeId} {R : Value → Hp → List Res → Prop} (hent : Ent P f) (hx : E x = some (.func (.func f) first.toArray #[])) (ha : evlE E args = some vs) (ht : Tri P f (first ++ vs) H O R) : OpS P (.call { callee := .value x, args := args.toArray, argTypes := tys }) T E H O R := fun a w o next Q ho _ he hs k => by
  have hr : (execOp a.eval o).run P w = .ok (.enter f (first ++ vs).toArray) w := by
    have := hent.run (first ++ vs).toArray w
    simp [execOp, ho, resolve, Deferred.ofValue, he x _ hx, invoke, evlE_spec he ha] at this ⊢
    rw [this]
  unfold Oper.wp
  rw [hr]
  refine (ht w hs).mono ?_
  rintro e w' ⟨v, H', O', rfl, h2, h3, h4⟩
  exact k v w' H' O' h2 h4 h3
end
end Go.GK
/- A builder of a string: the block of its two cells, and the row of its bytes. -/
namespace Go.GK
def cBy : Cd UInt8 where
  sz := 1
  Lay _ b cs := cs = [.int .u8 (b.toNat : Nat)]
  len h := by subst h; rfl
  mono _ h := h
  one h := by subst h; intro u hu; simp at hu; subst hu; rfl
theorem layBy {H : Hp} : ∀ {l : Str} {xs : List Value}, LayL cBy H l xs ↔ xs = Lib.byteCells l
  | [], xs => Iff.rfl
  | b :: l, xs => by
    constructor
    · rintro ⟨cs, ys, rfl, h1, h2⟩
      rw [show cs = [.int .u8 (b.toNat : Nat)] from h1, layBy.1 h2]; rfl
    · intro h; exact ⟨[.int .u8 (b.toNat : Nat)], Lib.byteCells l, h, rfl, layBy.2 rfl⟩
section
variable {P : Program} {T : TypeId} {E : Operand → Option Value} {H : Hp} {O : List Res}
theorem OpS.appStr {s x : Operand} {t u e : TypeId} {v : Value} {i : Nat} {l str : Str} {xs : List Value} (ht : P.underlying t = some (.slice e)) (hu : P.underlying u = some .string) (hz : TI P e 1 1 (.int .u8 0)) (hs : E s = some v) (hx : E x = some (sv str))
    (hi : O[i]? = some (.row v e 1 l.length xs)) (hL : LayL cBy H l xs) (hv : v = .slice none 0 0 ∨ l ≠ []) (hb : l.length + str.length ≤ capN) :
    OpS P (.call { callee := .builtin .append, args := #[s, x], argTypes := #[t, u] }) T E H O (fun v' H' O' => H' = H ∧ (v' = .slice none 0 0 ∨ l ++ str ≠ []) ∧ LayL cBy H (l ++ str) (xs ++ Lib.byteCells str) ∧ O' = O.set i (.row v' e 1 (l ++ str).length (xs ++ Lib.byteCells str))) := by
  intro a w o next Q ho hT he hw k
  have hown := hw.ok i _ hi
  simp only [Res.ok] at hown
  obtain ⟨ii, hii, g1, g2, g3⟩ := hz.ex
  have hsz : (ByteArray.mk (Array.mk str)).size = str.length := rfl
  have hsc : Lib.strCells (ByteArray.mk (Array.mk str)) = Lib.byteCells str := rfl
  obtain ⟨v', w', hr, k1, k2, k3⟩ := Lib.run_append_own_string (P := P) w 0 t u o.type e ii ht hu hii g3 g1 g2 v l.length xs hown ⟨⟨str⟩⟩ (by rw [hsz]; simp only [maxLen, capN] at *; omega) (by rw [hsz]; simp only [capN] at *; omega) (Nat.zero_le _)
  rw [hsz, hsc] at k1
  rw [hsz] at k3
  have hL' : LayL cBy H (l ++ str) (xs ++ Lib.byteCells str) := hL.app (layBy.2 rfl)
  unfold Oper.wp
  simp only [sv] at hx
  simp [execOp, ho, resolve, invoke, builtin, he s _ hs, he x _ hx, hr, Result.andThen]
  refine k v' w' H _ (Hp.le.refl H) ⟨rfl, ?_, hL', rfl⟩ (hw.set hi k2 (by rw [List.length_append]; exact k1) (fun b hb' => ?_))
  · by_cases h : l ++ str = []
    · left
      simp at h
      obtain ⟨rfl, rfl⟩ := h
      rcases hv with hv | hv
      · exact k3.2 ⟨hv, rfl⟩
      · exact absurd rfl hv
    · exact .inr h
  · rcases hown.2 with ⟨rfl, hl0⟩ | ⟨g, cap, cur, rfl, _, hg, hnc, hcm, hcs, htake⟩
    · right
      have hx0 : xs = [] := List.eq_nil_of_length_eq_zero (by rw [hown.1, hl0, Nat.zero_mul])
      subst hx0
      obtain ⟨v2, w2, hr2, q1, _, _⟩ := Lib.run_append_own_string (P := P) w w.heap.size t u o.type e ii ht hu hii g3 g1 g2 (.slice none 0 0) 0 [] (World.ownsRow_nil w _ e _) ⟨⟨str⟩⟩ (by rw [hsz]; simp only [maxLen, capN] at *; omega) (by rw [hsz]; simp only [capN] at *; omega) (Nat.le_refl _)
      rw [hr] at hr2
      injection hr2 with e1 e2
      subst e1; subst e2
      exact (World.ownsRow.lt q1 b hb').1
    · by_cases hroom : l.length + str.length ≤ cap
      · left
        have hr2 := Lib.run_append_room_string (P := P) w t u o.type e ii ht hu hii g1 g l.length cap cur hg ⟨⟨str⟩⟩ hroom (by rw [hsz]; simp at hcs; omega)
        rw [hr] at hr2
        injection hr2 with e1 e2
        rw [e1] at hb'
        exact hb'
      · right
        have hcc : capN = 1099511627776 := rfl
        have hr2 := Lib.run_append_grow_string (P := P) w t u o.type e ii (.int .u8 0) ht hu hii g3 ⟨g, 0, none⟩ l.length cap xs (by rw [hown.1, g1]) (hown.cells (g := g) rfl) ⟨⟨str⟩⟩ (by rw [hsz]; omega) (by rw [hsz]; simp only [capN] at *; omega) (by rw [g2, hsz]; exact growslice_fits (by simp only [capN] at *; omega) (by simp only [capN] at *; omega))
        rw [hr] at hr2
        injection hr2 with e1 e2
        rw [e1] at hb'
        simp [Res.block, Value.ownBlock] at hb'
        omega
/- pointers -/
theorem OpT.eqNil {x y : Operand} {t Ty : TypeId} {te : TypeId} {j : TypeInfo} (hp : P.underlying t = some (.pointer te)) (hj : P.info? te = some j) (hx : E x = some (.pointer none)) (hy : E y = some (.pointer none)) : OpT P (.binOp .eql t x y Ty) T E H O (.bool true) := .of_run fun a w o ho _ he _ => by
  have h : (binOp .eql t (.pointer none) (.pointer none)).run P w = .ok (.bool true) w := by
    have h : ∀ d : Nat, (Op.equalIn (d + 1) t (.pointer none) (.pointer none)).run P w = .ok true w := fun d => by
      simp [Op.equalIn, sem_under hp, sizeOf, typeInfo, hj, sameAddr]
    simp only [binOp]
    show (do pure (.bool (← Op.equal t _ _)) : Sem Value).run P w = _
    unfold Op.equal Op.maxDepth
    simp [h 9999]
  simp [execOp, ho, he x _ hx, he y _ hy, eqGuard, h]
theorem OpT.eqNilS {x y : Operand} {t Ty : TypeId} {te : TypeId} {j : TypeInfo} {a : Addr} (hp : P.underlying t = some (.pointer te)) (hj : P.info? te = some j) (hx : E x = some (.pointer (some a))) (hy : E y = some (.pointer none)) : OpT P (.binOp .eql t x y Ty) T E H O (.bool false) := .of_run fun ac w o ho _ he _ => by
  have h : (binOp .eql t (.pointer (some a)) (.pointer none)).run P w = .ok (.bool false) w := by
    have h : ∀ d : Nat, (Op.equalIn (d + 1) t (.pointer (some a)) (.pointer none)).run P w = .ok false w := fun d => by
      simp [Op.equalIn, sem_under hp, sizeOf, typeInfo, hj, sameAddr]
    simp only [binOp]
    show (do pure (.bool (← Op.equal t _ _)) : Sem Value).run P w = _
    unfold Op.equal Op.maxDepth
    simp [h 9999]
  simp [execOp, ho, he x _ hx, he y _ hy, eqGuard, h]
theorem OpT.neSame {x y : Operand} {t Ty : TypeId} {te : TypeId} {j : TypeInfo} {b off : Nat} (hp : P.underlying t = some (.pointer te)) (hj : P.info? te = some j) (hx : E x = some (ptr b off)) (hy : E y = some (ptr b off)) : OpT P (.binOp .neq t x y Ty) T E H O (.bool false) := .of_run fun ac w o ho _ he _ => by
  have h := Lib.run_neq_ptr_same (P := P) w (tp := t) ⟨b, off, none⟩ hp hj
  simp only [ptr] at hx hy
  simp [execOp, ho, he x _ hx, he y _ hy, eqGuard, h]
theorem OpT.toUnsafe {x : Operand} {src dst t e : TypeId} {j : TypeInfo} {b i : Nat} {cs : Array Value} (hs : P.underlying src = some (.pointer t)) (hd : P.underlying dst = some .unsafePointer) (ht : P.info? t = some j) (hj : j.size ≠ 0) (hx : E x = some (ptr b 0)) (hi : O[i]? = some (.blk b (.cells cs e (0, 0)))) (h0 : 0 < cs.size) : OpT P (.convert src dst x) T E H O (ptr b 0) := .of_run fun ac w o ho _ he hw => by
  have hg := hw.ok i _ hi
  simp only [Res.ok] at hg
  have h := Lib.run_to_unsafe (P := P) w (src := src) (dst := dst) (cells := cs.size) (e := e) ⟨b, 0, none⟩ hs hd ht hj (by simp [World.shape?, hg]) h0
  simp only [ptr] at hx
  simp [execOp, ho, he x _ hx, h, ptr]
theorem OpT.ofUnsafe {x : Operand} {src dst u e : TypeId} {j : TypeInfo} {b i : Nat} {cs : Array Value} (hs : P.underlying src = some .unsafePointer) (hd : P.underlying dst = some (.pointer u)) (hu : P.info? u = some j) (hx : E x = some (ptr b 0)) (hi : O[i]? = some (.blk b (.cells cs e (0, 0)))) (hl : liesAt P P.depth e (cs.size / P.cellsOf e) 0 u 1 = true) : OpT P (.convert src dst x) T E H O (ptr b 0) := .of_run fun ac w o ho _ he hw => by
  have hg := hw.ok i _ hi
  simp only [Res.ok] at hg
  have h := Lib.run_from_unsafe (P := P) w (src := src) (dst := dst) (cells := cs.size) (e := e) ⟨b, 0, none⟩ hs hd hu (by simp [World.shape?, hg]) hl
  simp only [ptr] at hx
  simp [execOp, ho, he x _ hx, h, ptr]
theorem OpT.noEscape {x : Operand} {f : FuncId} {fn : Func} {v : Value} {tys : Array TypeId} (hf : P.funcs[f]? = some fn) (hname : (fn.name == "runtime.NumGoroutine") = false) (hb : fn.body.isNone = true) (hn : Extern.findNext fn = none) (he' : Extern.find fn = some Extern.AbiNoEscape.same) (hx : E x = some v) :
    OpT P (.call { callee := .value (.func f), args := #[x], argTypes := tys }) T E H O v := .of_run fun ac w o ho _ he hw => by
  have h := run_callFunc_extern hf hname hb hn he' #[v] w
  rw [Lib.run_noEscape] at h
  have hev : ac.eval (.func f) = .func (.func f) #[] #[] := rfl
  simp [execOp, ho, resolve, Deferred.ofValue, hev, invoke, he x _ hx, h]
/- the bytes, read as a string: the row is given up -/
theorem OpT.sliceDataNil {x : Operand} {t : TypeId} (hx : E x = some (.slice none 0 0)) : OpT P (.call { callee := .builtin .unsafeSliceData, args := #[x], argTypes := #[t] }) T E H O (.pointer none) := .of_run fun ac w o ho _ he hw => by
  have h := Lib.run_unsafeSliceData_nil (P := P) w #[t] o.type 0 0
  simp [execOp, ho, resolve, invoke, builtin, he x _ hx, h]
theorem OpT.sliceData {x : Operand} {t e : TypeId} {v : Value} {i n : Nat} {xs : List Value} (hx : E x = some v) (hi : O[i]? = some (.row v e 1 n xs)) (h0 : 0 < n) : OpT P (.call { callee := .builtin .unsafeSliceData, args := #[x], argTypes := #[t] }) T E H O (elemPtr v 0) := .of_run fun ac w o ho _ he hw => by
  have hown := hw.ok i _ hi
  simp only [Res.ok] at hown
  rcases hown.2 with ⟨_, hz⟩ | ⟨g, cap, cur, rfl, _, hg, hnc, hcm, hcs, htake⟩
  · omega
  · have h := Lib.run_unsafeSliceData_row (P := P) w #[t] o.type ⟨g, 0, none⟩ n cap (by omega)
    simp [execOp, ho, resolve, invoke, builtin, he x _ hx, h, elemPtr, Addr.add]
theorem OpT.unsafeStringNil {x y : Operand} {pt it : TypeId} {p : Option Addr} (hx : E x = some (.pointer p)) (hy : E y = some (.int .i64 0)) : OpT P (.call { callee := .builtin .unsafeString, args := #[x, y], argTypes := #[pt, it] }) T E H O (sv []) := .of_run fun ac w o ho _ he hw => by
  have h := Lib.run_unsafeString_none (P := P) w pt it o.type p
  simp [execOp, ho, resolve, invoke, builtin, he x _ hx, he y _ hy, h]
  rfl
theorem OpS.unsafeString {x y : Operand} {pt it e : TypeId} {v : Value} {i : Nat} {l : Str} {xs : List Value} (hp : P.underlying pt = some (.pointer e)) (hc : P.cellsOf e = 1) (hx : E x = some (elemPtr v 0)) (hy : E y = some (.int .i64 (l.length : Nat))) (hi : O[i]? = some (.row v e 1 l.length xs)) (hL : LayL cBy H l xs) (h0 : l ≠ []) :
    OpS P (.call { callee := .builtin .unsafeString, args := #[x, y], argTypes := #[pt, it] }) T E H O (fun u H' O' => H' = H ∧ O' = O.set i .emp ∧ u = sv l) := .of_run fun ac w o ho _ he hw => by
  have hown := hw.ok i _ hi
  simp only [Res.ok] at hown
  rcases hown.2 with ⟨_, hz⟩ | ⟨g, cap, cur, rfl, _, hg, hnc, hcm, hcs, htake⟩
  · exact absurd (List.length_eq_zero_iff.1 hz) h0
  · have hxs := layBy.1 hL
    have h := Lib.run_unsafeString_row (P := P) w pt it o.type e hp hc g cur.size (by simp [World.shape?, hg]) l h0 (by simp at hcs; omega) (by simp only [maxLen] at hcm; omega) (fun j x hj => hown.cells (g := g) rfl j _ (by rw [hxs]; simp [Lib.byteCells, hj]))
    refine ⟨sv l, w.freeze ⟨g, 0, none⟩ l.length, H, O.set i .emp, ?_, Hp.le.refl H, ⟨rfl, rfl, rfl⟩, hw.set hi (r' := .emp) ?_ trivial (fun b hb => by cases hb)⟩
    · simp only [elemPtr, Addr.add] at hx
      simp [execOp, ho, resolve, invoke, builtin, he x _ hx, he y _ hy, h]
      rfl
    · have hn0 : ¬ l.length = 0 := fun h => h0 (List.length_eq_zero_iff.1 h)
      unfold World.freeze
      rw [if_neg hn0]
      refine ⟨rfl, rfl, rfl, by simp, fun k hk hne => ?_⟩
      have : ¬ g = k := fun e => hne (by subst e; rfl)
      simp [Array.getElem?_modify, this]
end
section
variable {P : Program} {Q : Exit → Act → World → Prop} {n : Nat} {L : List (Nat × Value)} {H : Hp} {O : List Res} {ops : Array Oper} {rest : List Oper} {T : TypeId}
theorem Seg.appStr {d : Tmp} {pos : String} {af : Array Edge} {s x : Operand} {t u e : TypeId} {v : Value} {l str : Str} {xs : List Value} (i : Nat) (ht : P.underlying t = some (.slice e)) (hu : P.underlying u = some .string) (hz : TI P e 1 1 (.int .u8 0)) (hs : ev L s = some v) (hx : ev L x = some (sv str))
    (hi : O[i]? = some (.row v e 1 l.length xs)) (hL : LayL cBy H l xs) (hv : v = .slice none 0 0 ∨ l ≠ []) (hb : l.length + str.length ≤ capN) (hd : Nat.blt d n = true)
    (k : ∀ v' xs', (v' = .slice none 0 0 ∨ l ++ str ≠ []) → LayL cBy H (l ++ str) xs' → Seg P ops Q rest n ((d, v') :: L) H (O.set i (.row v' e 1 (l ++ str).length xs'))) :
    Seg P ops Q ({ dst := some d, op := .call { callee := .builtin .append, args := #[s, x], argTypes := #[t, u] }, type := T, pos, after := af, guard := none } :: rest) n L H O :=
  Seg.opS (OpS.appStr ht hu hz hs hx hi hL hv hb) hd (by rintro v' H' O' _ ⟨rfl, h1, h2, rfl⟩; exact k v' _ h1 h2)
end
end Go.GK
/- The library's contracts, turned to what is owned: strconv.Itoa, slices.Sort; what is known of a builder. -/
namespace Go.GK
open Go.Proofs
/- The table of powers that the library's number printer reads, where it lies for good. -/
def LaidH (P : Program) (H : Hp) : Prop := ∀ w O, SH w H O → Lib.TabIs P w "internal/strconv.uint64pow10" .u64 Lib.pow10Tab
theorem LaidH.mono {P : Program} {H H' : Hp} (h : LaidH P H) (hl : H.le H') : LaidH P H' := fun w O hs => h w O (hs.weaken hl)
theorem grownDrew (w : World) (k : Nat) (os : Array Obj) : w.grownBy (Go.Sort.grow (w.drewN k) os) none :=
  ⟨rfl, rfl, rfl, by simp [Go.Sort.grow, World.drewN], fun b hb _ => by
    simp only [Go.Sort.grow, World.drewN]; rw [Array.getElem?_append_left hb]⟩
structure BldOk (H : Hp) (B : Nat) (a v : Value) (l : Str) (xs : List Value) : Prop where
  a : a = .pointer none ∨ a = ptr B 0
  v : v = .slice none 0 0 ∨ l ≠ []
  L : LayL cBy H l xs
theorem BldOk.mono {H H' : Hp} {B : Nat} {a v : Value} {l : Str} {xs : List Value} (h : BldOk H B a v l xs) (hl : H.le H') : BldOk H' B a v l xs := ⟨h.a, h.v, h.L.mono hl⟩
theorem BldOk.new {H : Hp} {B : Nat} : BldOk H B (.pointer none) (.slice none 0 0) [] [] := ⟨.inl rfl, .inl rfl, rfl⟩
section
variable {P : Program} {H : Hp} {O : List Res}
theorem TriV.itoa {f : FuncId} {n : Int} (hc : ∀ (n : Int), -9223372036854775808 ≤ n → n ≤ 9223372036854775807 → ∀ (w : World), Lib.TabIs P w "internal/strconv.uint64pow10" .u64 Lib.pow10Tab → Calls P f #[.int .i64 n] w fun e w' => e = .returned (.string ⟨(Lib.itoa n).toArray⟩) ∧ ∃ k os, w' = Go.Sort.grow (w.drewN k) os)
    (hG : LaidH P H) (hn : F64 n) : TriV P f [.int .i64 n] H O (sv (Lib.itoa n)) := fun w hs =>
  (hc n hn.1 hn.2 w (hG w O hs)).mono fun e w' ⟨h1, k, os, h2⟩ => ⟨h1, by subst h2; exact hs.grown (grownDrew w k os)⟩
def insB {α : Type} (le : α → α → Bool) (x : α) : List α → List α
  | [] => [x]
  | y :: l => if le x y then x :: y :: l else y :: insB le x l
def isortB {α : Type} (le : α → α → Bool) : List α → List α
  | [] => []
  | x :: l => insB le x (isortB le l)
theorem insB_perm {α : Type} (le : α → α → Bool) (x : α) : ∀ l, (insB le x l).Perm (x :: l)
  | [] => .refl _
  | y :: l => by
    unfold insB; split
    · exact .refl _
    · exact ((insB_perm le x l).cons y).trans (.swap ..)
theorem isortB_perm {α : Type} (le : α → α → Bool) : ∀ l, (isortB le l).Perm l
  | [] => .refl _
  | x :: l => (insB_perm le x _).trans ((isortB_perm le l).cons x)
theorem insB_sorted {α : Type} {le : α → α → Bool} (S : α → Prop) (tr : ∀ a b c, S a → S b → S c → le a b = true → le b c = true → le a c = true) (to : ∀ a b, S a → S b → le a b = true ∨ le b a = true) (x : α) (hx : S x) : ∀ l, (∀ a ∈ l, S a) → l.Pairwise (fun a b => le a b = true) → (insB le x l).Pairwise (fun a b => le a b = true)
  | [], _, _ => by simp [insB]
  | y :: l, hl, h => by
    have hy := hl y (by simp)
    obtain ⟨h1, h2⟩ := List.pairwise_cons.1 h
    unfold insB; split
    · rename_i hle
      refine List.pairwise_cons.2 ⟨fun b hb => ?_, h⟩
      rcases List.mem_cons.1 hb with rfl | hb
      · exact hle
      · exact tr _ _ _ hx hy (hl b (by simp [hb])) hle (h1 b hb)
    · rename_i hle
      refine List.pairwise_cons.2 ⟨fun b hb => ?_, insB_sorted S tr to x hx l (fun a ha => hl a (by simp [ha])) h2⟩
      rcases List.mem_cons.1 ((insB_perm le x l).mem_iff.1 hb) with rfl | hb
      · exact (to _ _ hx hy).resolve_left hle
      · exact h1 b hb
theorem isortB_sorted {α : Type} {le : α → α → Bool} (S : α → Prop) (tr : ∀ a b c, S a → S b → S c → le a b = true → le b c = true → le a c = true) (to : ∀ a b, S a → S b → le a b = true ∨ le b a = true) : ∀ l, (∀ a ∈ l, S a) → (isortB le l).Pairwise (fun a b => le a b = true)
  | [], _ => .nil
  | x :: l, h => insB_sorted S tr to x (h x (by simp)) _ (fun a ha => h a (by simp [(isortB_perm le l).mem_iff.1 ha])) (isortB_sorted S tr to l fun a ha => h a (by simp [ha]))
theorem isortB_eq {α : Type} {le : α → α → Bool} (tr : ∀ a b c, le a b = true → le b c = true → le a c = true) (to : ∀ a b, le a b = true ∨ le b a = true) (an : ∀ a b, le a b = true → le b a = true → a = b) (l : List α) : isortB le l = l.mergeSort le :=
  List.Perm.eq_of_pairwise (le := fun a b => le a b = true) (fun a b _ _ h k => an a b h k) (isortB_sorted (fun _ => True) (fun a b c _ _ _ => tr a b c) (fun a b _ _ => to a b) l (fun _ _ => trivial)) (List.pairwise_mergeSort tr (fun a b => by rcases to a b with h | h <;> simp [h]) l) ((isortB_perm le l).trans (List.mergeSort_perm l le).symm)
theorem insB_map {α β : Type} (f : α → β) (le : β → β → Bool) (x : α) : ∀ l, insB le (f x) (l.map f) = (insB (fun a b => le (f a) (f b)) x l).map f
  | [] => rfl
  | y :: l => by
    simp only [List.map_cons, insB]; split
    · rfl
    · rw [insB_map f le x l]; rfl
theorem isortB_map {α β : Type} (f : α → β) (le : β → β → Bool) : ∀ l, isortB le (l.map f) = (isortB (fun a b => le (f a) (f b)) l).map f
  | [] => rfl
  | x :: l => by simp only [List.map_cons, isortB]; rw [isortB_map f le l, insB_map]
theorem LayL.ints {H : Hp} : ∀ {l : List Int} {xs : List Value}, LayL cI64 H l xs → xs = l.map (Value.int .i64)
  | [], xs, h => h
  | a :: l, _, ⟨cs, ys, e, h1, h2⟩ => by subst e; rw [show cs = [.int .i64 a] from h1, LayL.ints h2]; rfl
theorem ints_LayL {H : Hp} : ∀ (l : List Int), LayL cI64 H l (l.map (Value.int .i64))
  | [] => rfl
  | a :: l => ⟨[.int .i64 a], _, rfl, rfl, ints_LayL l⟩
def sortI (l : List Int) : List Int := isortB (fun x y => decide (x ≤ y)) l
theorem sortI_eq (l : List Int) : l.mergeSort (fun x y => decide (x ≤ y)) = sortI l := (isortB_eq (fun a b c h k => by simp at *; omega) (fun a b => by simp; omega) (fun a b h k => by simp at *; omega) l).symm
theorem Tri.sortI {f : FuncId} {l : List Int} {v : Value} {e : TypeId} {xs : List Value}
    (hc : ∀ (blk off cap : Nat) (zs : List Int) (w : World), Go.Sort.Holds (Value.int .i64) w blk off zs.toArray → blk < w.heap.size → zs.length < 4611686018427387904 → Calls P f #[.slice (some ⟨blk, off, none⟩) zs.length cap] w fun e w' =>
      e = .returned (.tuple #[]) ∧ ∃ n os, w' = Go.Sort.grow (Go.Sort.putRow (Value.int .i64) (Go.Sort.ahead w n) blk off (zs.mergeSort fun x y => decide (x ≤ y)).toArray) os)
    (h0 : ∀ (p : Option Addr) (cap : Nat) (w : World), Calls P f #[.slice p 0 cap] w fun e w' => e = .returned (.tuple #[]) ∧ w' = w)
    (hL : LayL cI64 H l xs) (hn : l.length ≤ capN) :
    Tri P f [v] H (.row v e 1 l.length xs :: O) (fun r H' O' => ∃ xs', .tuple #[] = r ∧ LayL cI64 H' (GK.sortI l) xs' ∧ .row v e 1 (GK.sortI l).length xs' :: O = O') := fun w hs => by
  have hx := LayL.ints hL
  subst hx
  have hlen : (GK.sortI l).length = l.length := by rw [← sortI_eq]; simp
  have hown := hs.ok 0 _ rfl
  simp only [Res.ok] at hown
  rcases hown.2 with ⟨rfl, hz⟩ | ⟨g, cap, cur, rfl, _, hg, hnc, hcm, hcs, htake⟩
  · have hl : l = [] := List.eq_nil_of_length_eq_zero hz
    subst hl
    refine (h0 none 0 w).mono fun e' w' ⟨g1, g2⟩ => ?_
    subst g2
    exact ⟨_, H, _, g1, Hp.le.refl H, hs, [], rfl, by simp [GK.sortI, isortB, LayL], by simp [GK.sortI, isortB]⟩
  · rw [Nat.mul_one] at htake
    have hgs : g < w.heap.size := (Array.getElem?_eq_some_iff.1 hg).1
    refine (hc g 0 cap l w (holds_of_blockI hg htake) hgs (by simp only [capN] at hn; omega)).mono fun e' w' ⟨g1, n, os, g2⟩ => ?_
    rw [sortI_eq] at g2
    subst g2
    refine ⟨_, H, _, g1, Hp.le.refl H, hs.set (i := 0) (r' := .row (.slice (some ⟨g, 0, none⟩) l.length cap) e 1 (GK.sortI l).length ((GK.sortI l).map (Value.int .i64))) rfl (grownBy_sortedI _) ?_ ?_, _, rfl, ints_LayL _, rfl⟩
    · show World.ownsRow _ 0 e 1 _ _ _
      have := ownsRow_sortedI (n := n) (os := os) (ss := l) (ts := GK.sortI l) hlen (Nat.zero_le _) hg hnc hcm hcs
      rw [hlen]; exact this
    · intro b hb; left; exact hb
end
end Go.GK
