/- Part 2 of the texts of this claim: what its theorem leans on. -/
import Derived.Test.YtjmbmodmepdmjaaGreatDoorZAutomatonMinimal1
import Derived.ChangeKeysEq
import Derived.WalkLawsBesides
import Derived.Maps.OwnOps
import Derived.Maps.OwnSet
import Derived.Carry
import Derived.Lib.AppendStr
import Derived.Lib.UnsafeStr
import Derived.Lib.Builder
import Derived.Laws.Externs
import Derived.LaidEqlPtr
import Derived.Lib.LaidTab
import Derived.Lib.ItoaNum
import Derived.Sort.OwnSortedInts
import Derived.Deep.Draws
import Derived.Shelf.SlSortCmp.NoneTotal
import Derived.WalkSmall
import Derived.ChangeMaps5
import Derived.Test.YtjmbmodmepdmjaaGreatDoorRows
import Derived.Shelf.Strings.Builder1
import Derived.Shelf.Small.Bits
import Derived.Shelf.Small.Wraps
import Derived.Shelf.Strings.BuilderF
import Derived.Shelf.Strings.BuilderK
import Derived.Shelf.Strconv.Itoa0
import Derived.Shelf.Strconv.Itoa1
import Derived.Shelf.LaysM
import Derived.Shelf.Strconv.Itoa2
import Derived.Shelf.Strconv.Itoa3
import Derived.Shelf.Sort.Plain
import Derived.Shelf.Strings.BuilderCap
import Derived.Shelf.Slices.Turned
import Derived.Ground.Names2Prog
import Derived.Shelf.Slices.SearchI
import Derived.Shelf.Slices.In.SortNone
import Derived.Shelf.SlGeneric
import Derived.Ground.SlsfProg
import Derived.Test.YtjmbmodmepdmjaaGreatDoorProg
namespace Go.GK
def word (p : Nat → Bool) (i : Nat) : BitVec 64 := (BitVec.ofBoolListLE ((List.range 64).map fun j => p (64 * i + j))).cast (by simp)
theorem word_bit (p : Nat → Bool) (i j : Nat) : (word p i).getLsbD j = (decide (j < 64) && p (64 * i + j)) := by
  simp only [word, BitVec.getLsbD_cast, BitVec.getLsbD_ofBoolListLE]
  by_cases h : j < 64
  · simp [h]
  · simp [h]
def bcs (p : Nat → Bool) : Array Value := #[w64 (word p 0), w64 (word p 1), w64 (word p 2), w64 (word p 3)]
def bs (p : Nat → Bool) : Value := .agg (bcs p)
theorem bcs_get (p : Nat → Bool) (i : Nat) (h : i < 4) : (bcs p)[i]? = some (w64 (word p i)) := by
  unfold bcs
  match i, h with
  | 0, _ => rfl
  | 1, _ => rfl
  | 2, _ => rfl
  | 3, _ => rfl
theorem bcs_congr {p q : Nat → Bool} (h : ∀ x, x < 256 → p x = q x) : bcs p = bcs q := by
  have e : ∀ i, i < 4 → word p i = word q i := fun i hi => by
    apply BitVec.eq_of_getLsbD_eq
    intro j hj
    rw [word_bit, word_bit, h _ (by omega)]
  unfold bcs
  rw [e 0 (by omega), e 1 (by omega), e 2 (by omega), e 3 (by omega)]
theorem w64_inj {a b : BitVec 64} (h : w64 a = w64 b) : a = b := by
  simp only [w64, Value.int.injEq, true_and] at h
  exact BitVec.eq_of_toNat_eq (by omega)
theorem bcs_inj {p q : Nat → Bool} (h : bcs p = bcs q) : ∀ x, x < 256 → p x = q x := by
  intro x hx
  have h1 := bcs_get p (x / 64) (by omega)
  rw [h, bcs_get q (x / 64) (by omega)] at h1
  have h2 := w64_inj (Option.some.inj h1)
  have h3 := word_bit p (x / 64) (x % 64)
  rw [← h2, word_bit] at h3
  have h4 : x % 64 < 64 := Nat.mod_lt _ (by decide)
  simp only [h4, decide_true, Bool.true_and] at h3
  rw [show 64 * (x / 64) + x % 64 = x by omega] at h3
  exact h3.symm
theorem bs_eq_iff {p q : Nat → Bool} : bs p = bs q ↔ ∀ x, x < 256 → p x = q x :=
  ⟨fun h => bcs_inj (by unfold bs at h; injection h), fun h => by unfold bs; rw [bcs_congr h]⟩
def bitsOf (a b c d : BitVec 64) (x : Nat) : Bool :=
  if x < 64 then a.getLsbD x else if x < 128 then b.getLsbD (x - 64) else if x < 192 then c.getLsbD (x - 128) else d.getLsbD (x - 192)
theorem has_bit (p : Nat → Bool) (b : Nat) : ((word p (b / 64) >>> (b % 64)) &&& 1#64 = 1#64) ↔ p b = true := by
  have h4 : b % 64 < 64 := Nat.mod_lt _ (by decide)
  have h0 : (word p (b / 64) >>> (b % 64)).getLsbD 0 = p b := by
    rw [BitVec.getLsbD_ushiftRight, word_bit]
    simp only [Nat.add_zero, h4, decide_true, Bool.true_and]
    rw [show 64 * (b / 64) + b % 64 = b by omega]
  constructor
  · intro h
    rw [← h0]
    have := congrArg (fun v => BitVec.getLsbD v 0) h
    simpa using this
  · intro h
    apply BitVec.eq_of_getLsbD_eq
    intro j hj
    rw [BitVec.getLsbD_and]
    by_cases hj0 : j = 0
    · subst hj0; rw [h0, h]; simp
    · simp [BitVec.getLsbD_one, hj0]
theorem or_bit (p : Nat → Bool) (b : Nat) : word p (b / 64) ||| (1#64 <<< (b % 64)) = word (fun x => p x || x == b) (b / 64) := by
  have h4 : b % 64 < 64 := Nat.mod_lt _ (by decide)
  apply BitVec.eq_of_getLsbD_eq
  intro j hj
  rw [BitVec.getLsbD_or, word_bit, word_bit, BitVec.getLsbD_shiftLeft]
  simp only [hj, decide_true, Bool.true_and]
  congr 1
  by_cases e : j = b % 64
  · subst e
    rw [show 64 * (b / 64) + b % 64 = b by omega]
    simp
  · have : (64 * (b / 64) + j == b) = false := by rw [beq_eq_false_iff_ne]; omega
    rw [this]
    by_cases hl : j < b % 64
    · simp [hl]
    · have h5 : ¬ j - b % 64 = 0 := by omega
      simp [BitVec.getLsbD_one, h5]
theorem word_other (p : Nat → Bool) (b i : Nat) (h : i ≠ b / 64) : word (fun x => p x || x == b) i = word p i := by
  apply BitVec.eq_of_getLsbD_eq
  intro j hj
  rw [word_bit, word_bit]
  have : (64 * i + j == b) = false := by rw [beq_eq_false_iff_ne]; omega
  rw [this]; simp
theorem bcs_set (p : Nat → Bool) (b : Nat) (hb : b < 256) : (bcs p).setIfInBounds (b / 64) (w64 (word p (b / 64) ||| (1#64 <<< (b % 64)))) = bcs (fun x => p x || x == b) := by
  rw [or_bit]
  apply Array.ext_getElem?
  intro i
  rw [Array.getElem?_setIfInBounds]
  have hs : (bcs p).size = 4 := rfl
  by_cases hi : i < 4
  · rw [bcs_get _ i hi, bcs_get _ i hi]
    by_cases e : b / 64 = i
    · subst e; simp [hs, hi]
    · simp [e]; rw [word_other p b i (fun x => e x.symm)]
  · have h1 : (bcs p)[i]? = none := by simp [hs]; omega
    have h2 : (bcs (fun x => p x || x == b))[i]? = none := by simp [bcs]; omega
    rw [h1, h2, hs]
    by_cases e : b / 64 = i
    · omega
    · simp [e]
theorem word_or (p q : Nat → Bool) (i : Nat) : word p i ||| word q i = word (fun x => p x || q x) i := by
  apply BitVec.eq_of_getLsbD_eq; intro j hj; rw [BitVec.getLsbD_or, word_bit, word_bit, word_bit]; simp [hj]
theorem word_and (p q : Nat → Bool) (i : Nat) : word p i &&& word q i = word (fun x => p x && q x) i := by
  apply BitVec.eq_of_getLsbD_eq; intro j hj; rw [BitVec.getLsbD_and, word_bit, word_bit, word_bit]; simp [hj]
theorem word_not (p : Nat → Bool) (i : Nat) : ~~~ word p i = word (fun x => !p x) i := by
  apply BitVec.eq_of_getLsbD_eq; intro j hj; rw [BitVec.getLsbD_not, word_bit, word_bit]; simp [hj]
theorem bcs_empty : (#[.int .u64 0, .int .u64 0, .int .u64 0, .int .u64 0] : Array Value) = bcs (fun _ => false) := by
  have : word (fun _ => false) = fun _ => 0#64 := by
    funext i; apply BitVec.eq_of_getLsbD_eq; intro j hj; rw [word_bit]; simp
  unfold bcs; rw [this]; rfl
theorem bcs_one (p : Nat → Bool) : ∀ u ∈ bcs p, u.oneCell' = true := by
  intro u hu; simp [bcs] at hu; rcases hu with rfl | rfl | rfl | rfl <;> rfl
theorem bcs_size (p : Nat → Bool) : (bcs p).size = 4 := rfl
attribute [irreducible] word
end Go.GK
namespace Go.GK
section
variable {P : Program}
theorem run_eqItems_ints {d : Nat} {e : TypeId} {k : IntKind} (he : P.underlying e = some (.int k)) (h1 : P.cellsOf e = 1) (w : World) (xs ys : List Int) : ∀ (is : List Nat), (∀ i ∈ is, i < xs.length ∧ i < ys.length) →
    (Op.eqItems (d + 1) e (P.cellsOf e) (xs.map (Value.int k)).toArray (ys.map (Value.int k)).toArray is).run P w = .ok (is.all fun i => xs[i]? == ys[i]?) w
  | [], _ => by simp [Op.eqItems]
  | i :: is, h => by
    have hi := h i (by simp)
    have ih := run_eqItems_ints (d := d) he h1 w xs ys is (fun j hj => h j (by simp [hj]))
    have p1 : (part e (xs.map (Value.int k)).toArray (i * P.cellsOf e)).run P w = .ok (.int k xs[i]) w := by
      simp [part, run_isAgg he, aggB, h1, hi.1]
    have p2 : (part e (ys.map (Value.int k)).toArray (i * P.cellsOf e)).run P w = .ok (.int k ys[i]) w := by
      simp [part, run_isAgg he, aggB, h1, hi.2]
    have p3 : (Op.equalIn (d + 1) e (.int k xs[i]) (.int k ys[i])).run P w = .ok (xs[i] == ys[i]) w := by simp [Op.equalIn, sem_under he]
    simp only [Op.eqItems, Sem.run_bind, p1, p2, p3, Result.andThen_ok]
    by_cases e1 : xs[i] = ys[i]
    · simp only [e1, beq_self_eq_true, Bool.not_true, Bool.false_eq_true, if_false, ih, List.all_cons]
      simp [hi.1, hi.2, e1]
    · simp [hi.1, hi.2, e1]
theorem run_eqArr {t e : TypeId} {n : Nat} {k : IntKind} {bytes : Nat} {z : Value} (ht : P.underlying t = some (.array n e)) (he : P.underlying e = some (.int k)) (hz : TI P e 1 bytes z) (w : World) (xs ys : List Int) (hx : xs.length = n) (hy : ys.length = n) :
    (Op.equal t (.agg (xs.map (Value.int k)).toArray) (.agg (ys.map (Value.int k)).toArray)).run P w = .ok (decide (xs = ys)) w := by
  obtain ⟨i, hi, hs, _⟩ := hz.ex
  have h1 : P.cellsOf e = 1 := by simp [Program.cellsOf, hi, hs]
  have key : ∀ d, (Op.equalIn (d + 1 + 1) t (.agg (xs.map (Value.int k)).toArray) (.agg (ys.map (Value.int k)).toArray)).run P w = .ok (decide (xs = ys)) w := fun d => by
    rw [run_equalIn_array w (d + 1) _ _ ht hi, run_eqItems_ints he h1 w xs ys _ (fun i hi => by have := List.mem_range.1 hi; omega)]
    congr 1
    rw [Bool.eq_iff_iff]
    simp only [List.all_eq_true, List.mem_range, beq_iff_eq, decide_eq_true_iff]
    constructor
    · intro h
      apply List.ext_getElem? 
      intro j
      by_cases hj : j < n
      · exact h j hj
      · rw [List.getElem?_eq_none (by omega), List.getElem?_eq_none (by omega)]
    · intro h j _; rw [h]
  unfold Op.equal Op.maxDepth
  exact key 9998
end
section
variable {P : Program} {T : TypeId} {E : Operand → Option Value} {H : Hp} {O : List Res} {x y : Operand} {Tx Ty e : TypeId} {k : IntKind} {n bytes : Nat} {z : Value}
theorem OpT.neArr {xs ys : List Int} (hg : P.eqGuardType P.depth Tx = false) (ht : P.underlying Tx = some (.array n e)) (he : P.underlying e = some (.int k)) (hz : TI P e 1 bytes z) (hx : E x = some (.agg (xs.map (Value.int k)).toArray)) (hy : E y = some (.agg (ys.map (Value.int k)).toArray)) (h1 : xs.length = n) (h2 : ys.length = n) :
    OpT P (.binOp .neq Tx x y Ty) T E H O (.bool (!decide (xs = ys))) := .of_run fun a w o ho _ he' _ => by
  have h3 := run_eqArr ht he hz w xs ys h1 h2
  have h4 := run_eqGuard_agg w .neq Tx x y (xs.map (Value.int k)).toArray (ys.map (Value.int k)).toArray hg
  have h5 : (binOp .neq Tx (.agg (xs.map (Value.int k)).toArray) (.agg (ys.map (Value.int k)).toArray)).run P w = .ok (.bool (!decide (xs = ys))) w := by
    show (do pure (.bool (!(← Op.equal Tx _ _))) : Sem Value).run P w = _
    simp [h3]
  simp only [execOp, ho, Sem.run_bind, he' x _ hx, he' y _ hy, h4, Result.andThen_ok, h5, Sem.run_pure]
def eqS (p q : Nat → Bool) : Bool := (List.range 256).all fun x => p x == q x
theorem eqS_iff {p q : Nat → Bool} : eqS p q = true ↔ ∀ x, x < 256 → p x = q x := by simp [eqS, List.all_eq_true]
theorem eqS_bs {p q : Nat → Bool} : eqS p q = true ↔ bs p = bs q := by rw [eqS_iff, bs_eq_iff]
def bints (p : Nat → Bool) : List Int := [((word p 0).toNat : Int), ((word p 1).toNat : Int), ((word p 2).toNat : Int), ((word p 3).toNat : Int)]
theorem bints_eq {p q : Nat → Bool} : decide (bints p = bints q) = eqS p q := by
  rw [Bool.eq_iff_iff, decide_eq_true_iff, eqS_bs]
  have : ∀ p, bs p = .agg ((bints p).map (Value.int .u64)).toArray := fun p => rfl
  rw [this, this]
  constructor
  · intro h; rw [h]
  · intro h
    have h' := congrArg (fun v : Value => match v with | .agg a => a.toList | _ => []) h
    simpa [bints] using h'
theorem OpT.neBs {p q : Nat → Bool} (hg : P.eqGuardType P.depth Tx = false) (ht : P.underlying Tx = some (.array 4 e)) (he : P.underlying e = some (.int .u64)) (hz : TI P e 1 bytes z) (hx : E x = some (.agg (bcs p))) (hy : E y = some (.agg (bcs q))) :
    OpT P (.binOp .neq Tx x y Ty) T E H O (.bool (!eqS p q)) := by
  have := OpT.neArr (P := P) (T := T) (H := H) (O := O) (Ty := Ty) (xs := bints p) (ys := bints q) hg ht he hz hx hy rfl rfl
  rwa [bints_eq] at this
end
end Go.GK
namespace Go.GK
def idx {α : Type} (l : List α) (i : Int) : Option α := if 0 ≤ i then l[i.toNat]? else none
def chk {α : Type} (p : Prop) [Decidable p] (k : Option α) : Option α := if p then k else none
def bnd {α β : Type} (x : Option α) (k : α → Option β) : Option β := match x with
  | some a => k a
  | none => none
def loopK {X R : Type} : Nat → (X → (X → Option R) → Option R) → X → Option R
  | 0, _, _ => none
  | n + 1, b, x => b x (loopK n b)
section
variable {α β X R : Type}
theorem chk_some {p : Prop} [Decidable p] {k : Option α} {r : α} (h : chk p k = some r) : p ∧ k = some r := by
  unfold chk at h; split at h
  · exact ⟨‹p›, h⟩
  · cases h
theorem bnd_some {x : Option α} {k : α → Option β} {r : β} (h : bnd x k = some r) : ∃ a, x = some a ∧ k a = some r := by
  cases x with
  | none => cases h
  | some a => exact ⟨a, rfl, h⟩
theorem brT {b : Bool} {x y : Option α} {r : α} (h : b = true) (hd : (bif b then x else y) = some r) : x = some r := by subst h; exact hd
theorem brF {b : Bool} {x y : Option α} {r : α} (h : b = false) (hd : (bif b then x else y) = some r) : y = some r := by subst h; exact hd
theorem loopK_some {n : Nat} {b : X → (X → Option R) → Option R} {x : X} {r : R} (h : loopK n b x = some r) : ∃ m, n = m + 1 ∧ b x (loopK m b) = some r := by
  cases n with
  | zero => cases h
  | succ m => exact ⟨m, rfl, h⟩
theorem idx_some {l : List α} {i : Int} {x : α} (h : idx l i = some x) : (0 ≤ i ∧ i < (l.length : Nat)) ∧ l[i.toNat]? = some x := by
  unfold idx at h
  split at h
  · have := (List.getElem?_eq_some_iff.1 h).1
    exact ⟨⟨by assumption, by omega⟩, h⟩
  · cases h
theorem idx_bd {l : List α} {i : Int} {x : α} (h : idx l i = some x) : 0 ≤ i ∧ i < (l.length : Nat) := (idx_some h).1
end
structure Cd (α : Type) where
  sz : Nat
  Lay : Hp → α → List Value → Prop
  len : ∀ {H a cs}, Lay H a cs → cs.length = sz
  mono : ∀ {H H' a cs}, H.le H' → Lay H a cs → Lay H' a cs
  one : ∀ {H a cs}, Lay H a cs → ∀ u ∈ cs, u.oneCell' = true
def LayL {α : Type} (c : Cd α) (H : Hp) : List α → List Value → Prop
  | [], xs => xs = []
  | a :: l, xs => ∃ cs ys, xs = cs ++ ys ∧ c.Lay H a cs ∧ LayL c H l ys
structure SlD {α : Type} (c : Cd α) (H : Hp) (l : List α) (v : Value) : Prop where
  ex : ∃ xs, Sl H v c.sz l.length xs ∧ LayL c H l xs
  le : l.length ≤ 9223372036854775807
def cI64 : Cd Int where
  sz := 1
  Lay _ n cs := cs = [.int .i64 n]
  len h := by subst h; rfl
  mono _ h := h
  one h := by subst h; intro u hu; simp at hu; subst hu; rfl
def cU8 : Cd Int where
  sz := 1
  Lay _ n cs := cs = [.int .u8 n] ∧ 0 ≤ n ∧ n ≤ 255
  len h := by rw [h.1]; rfl
  mono _ h := h
  one h := by rw [h.1]; intro u hu; simp at hu; subst hu; rfl
def cB : Cd Bool where
  sz := 1
  Lay _ b cs := cs = [.bool b]
  len h := by subst h; rfl
  mono _ h := h
  one h := by subst h; intro u hu; simp at hu; subst hu; rfl
abbrev Str := List UInt8
def sv (s : Str) : Value := .string ⟨⟨s⟩⟩
def cS : Cd Str where
  sz := 1
  Lay _ s cs := cs = [sv s]
  len h := by subst h; rfl
  mono _ h := h
  one h := by subst h; intro u hu; simp at hu; subst hu; rfl
abbrev BSet := Nat → Bool
def cBs : Cd BSet where
  sz := 4
  Lay _ p cs := cs = (bcs p).toList
  len h := by subst h; rfl
  mono _ h := h
  one h := by subst h; intro u hu; exact bcs_one _ u (by simpa using hu)
def cP {α β : Type} (c : Cd α) (d : Cd β) : Cd (α × β) where
  sz := c.sz + d.sz
  Lay H a cs := ∃ c1 c2, cs = c1 ++ c2 ∧ c.Lay H a.1 c1 ∧ d.Lay H a.2 c2
  len h := by obtain ⟨c1, c2, rfl, h1, h2⟩ := h; simp [c.len h1, d.len h2]
  mono hl h := by obtain ⟨c1, c2, rfl, h1, h2⟩ := h; exact ⟨c1, c2, rfl, c.mono hl h1, d.mono hl h2⟩
  one h := by
    obtain ⟨c1, c2, rfl, h1, h2⟩ := h
    intro u hu; rcases List.mem_append.1 hu with hu | hu
    · exact c.one h1 u hu
    · exact d.one h2 u hu
section
variable {α : Type} {c : Cd α} {H H' : Hp}
theorem LayL.len : ∀ {l : List α} {xs : List Value}, LayL c H l xs → xs.length = l.length * c.sz
  | [], xs, h => by simp only [LayL] at h; subst h; simp
  | a :: l, xs, ⟨cs, ys, e, h1, h2⟩ => by subst e; simp [c.len h1, LayL.len h2, Nat.add_mul, Nat.add_comm]
theorem LayL.mono (hl : H.le H') : ∀ {l : List α} {xs : List Value}, LayL c H l xs → LayL c H' l xs
  | [], _, h => h
  | _ :: _, _, ⟨cs, ys, e, h1, h2⟩ => ⟨cs, ys, e, c.mono hl h1, LayL.mono hl h2⟩
theorem LayL.one : ∀ {l : List α} {xs : List Value}, LayL c H l xs → ∀ u ∈ xs, u.oneCell' = true
  | [], xs, h, u, hu => by simp only [LayL] at h; subst h; cases hu
  | _ :: _, _, ⟨cs, ys, e, h1, h2⟩, u, hu => by
    subst e
    rcases List.mem_append.1 hu with hu | hu
    · exact c.one h1 u hu
    · exact LayL.one h2 u hu
theorem LayL.nil : LayL c H [] [] := rfl
theorem LayL.sing {a : α} {cs : List Value} (h : c.Lay H a cs) : LayL c H [a] cs := ⟨cs, [], by simp, h, rfl⟩
theorem LayL.app : ∀ {l l' : List α} {xs xs' : List Value}, LayL c H l xs → LayL c H l' xs' → LayL c H (l ++ l') (xs ++ xs')
  | [], _, xs, _, h, h' => by simp only [LayL] at h; subst h; simpa using h'
  | _ :: _, _, _, _, ⟨cs, ys, e, h1, h2⟩, h' => by subst e; exact ⟨cs, _, by rw [List.append_assoc], h1, LayL.app h2 h'⟩
theorem LayL.get : ∀ {l : List α} {xs : List Value} {i : Nat} {x : α}, LayL c H l xs → l[i]? = some x → ∃ cs, c.Lay H x cs ∧ (∀ j u, cs[j]? = some u → xs[i * c.sz + j]? = some u) ∧ cs = (xs.drop (i * c.sz)).take c.sz
  | [], _, _, _, _, h => by simp at h
  | a :: l, _, 0, x, ⟨cs, ys, e, h1, h2⟩, h => by
    simp at h; subst h; subst e
    refine ⟨cs, h1, fun j u hj => ?_, ?_⟩
    · have := (List.getElem?_eq_some_iff.1 hj).1
      rw [Nat.zero_mul, Nat.zero_add, List.getElem?_append_left this]; exact hj
    · rw [Nat.zero_mul, List.drop_zero, List.take_append_of_le_length (by rw [c.len h1]; exact Nat.le_refl _), List.take_of_length_le (by rw [c.len h1]; exact Nat.le_refl _)]
  | a :: l, _, i + 1, x, ⟨cs, ys, e, h1, h2⟩, h => by
    subst e
    obtain ⟨cs', g1, g2, g3⟩ := LayL.get h2 (by simpa using h)
    have e : (i + 1) * c.sz = cs.length + i * c.sz := by rw [c.len h1, Nat.add_mul]; omega
    refine ⟨cs', g1, fun j u hj => ?_, ?_⟩
    · rw [e, Nat.add_assoc, List.getElem?_append_right (by omega), Nat.add_sub_cancel_left]; exact g2 j u hj
    · rw [e, List.drop_append, List.drop_of_length_le (by omega), Nat.add_sub_cancel_left, List.nil_append]; exact g3
theorem LayL.set : ∀ {l : List α} {xs : List Value} {i : Nat} {y : α} {vs : List Value}, LayL c H l xs → i < l.length → c.Lay H y vs → LayL c H (l.set i y) (spl xs (i * c.sz) vs)
  | [], _, _, _, _, _, h, _ => by simp at h
  | a :: l, _, 0, y, vs, ⟨cs, ys, e, h1, h2⟩, _, hy => by
    subst e
    refine ⟨vs, ys, ?_, hy, h2⟩
    unfold spl
    rw [Nat.zero_mul, List.take_zero, List.nil_append, Nat.zero_add, List.drop_append, List.drop_of_length_le (by rw [c.len h1, c.len hy]; exact Nat.le_refl _), c.len h1, c.len hy]; simp
  | a :: l, _, i + 1, y, vs, ⟨cs, ys, e, h1, h2⟩, hi, hy => by
    subst e
    refine ⟨cs, spl ys (i * c.sz) vs, ?_, h1, LayL.set h2 (by simpa using hi) hy⟩
    have e : (i + 1) * c.sz = cs.length + i * c.sz := by rw [c.len h1, Nat.add_mul]; omega
    unfold spl
    rw [e, List.take_append, List.take_of_length_le (by omega), Nat.add_sub_cancel_left, Nat.add_assoc, List.drop_append, List.drop_of_length_le (by omega : cs.length ≤ cs.length + (i * c.sz + vs.length)), Nat.add_sub_cancel_left]
    simp
theorem spl_spl (xs : List Value) (k off s : Nat) (cs vs : List Value) (hcs : cs = (xs.drop k).take s) (hlen : cs.length = s) (hk : off + vs.length ≤ s) : spl xs (k + off) vs = spl xs k (spl cs off vs) := by
  subst hcs
  have hl : s ≤ (xs.drop k).length := by rw [List.length_take] at hlen; omega
  have h3 : (spl ((xs.drop k).take s) off vs).length = s := by rw [spl_length _ _ _ (by rw [hlen]; exact hk)]; exact hlen
  unfold spl at *
  rw [h3]
  have a1 : xs.take (k + off) = xs.take k ++ (xs.drop k).take off := by rw [List.take_add]
  have a2 : ((xs.drop k).take s).take off = (xs.drop k).take off := by rw [List.take_take, Nat.min_eq_left (by omega)]
  have a3 : xs.drop (k + off + vs.length) = ((xs.drop k).take s).drop (off + vs.length) ++ xs.drop (k + s) := by
    have : xs.drop (k + off + vs.length) = (xs.drop k).drop (off + vs.length) := by rw [List.drop_drop]; congr 1; omega
    rw [this]
    have e : xs.drop k = (xs.drop k).take s ++ xs.drop (k + s) := by
      have := (List.take_append_drop s (xs.drop k)).symm
      rw [List.drop_drop] at this; exact this
    conv => lhs; rw [e]
    rw [List.drop_append, hlen]
    have : off + vs.length - s = 0 := by omega
    rw [this, List.drop_zero]
  rw [a1, a2, a3]
  simp
theorem LayL.part {l : List α} {xs : List Value} {i off : Nat} {x y : α} {cs vs : List Value} (h : LayL c H l xs) (hx : l[i]? = some x) (hcs : cs = (xs.drop (i * c.sz)).take c.sz) (hlen : cs.length = c.sz) (hk : off + vs.length ≤ c.sz) (hy : c.Lay H y (spl cs off vs)) :
    LayL c H (l.set i y) (spl xs (i * c.sz + off) vs) := by
  rw [spl_spl xs _ off c.sz cs vs hcs hlen hk]
  exact h.set (List.getElem?_eq_some_iff.1 hx).1 hy
theorem LayL.take : ∀ {l : List α} {xs : List Value} (m : Nat), LayL c H l xs → LayL c H (l.take m) (xs.take (m * c.sz))
  | [], xs, m, h => by simp only [LayL] at h; subst h; simp [LayL]
  | a :: l, xs, 0, h => by simp [LayL]
  | a :: l, _, m + 1, ⟨cs, ys, e, h1, h2⟩ => by
    subst e
    refine ⟨cs, ys.take (m * c.sz), ?_, h1, LayL.take m h2⟩
    rw [show (m + 1) * c.sz = cs.length + m * c.sz by rw [c.len h1, Nat.add_mul]; omega, List.take_append, List.take_of_length_le (by omega), Nat.add_sub_cancel_left]
theorem LayL.rep {z : α} {zs : Array Value} (hz : c.Lay H z zs.toList) (h0 : 0 < c.sz) : ∀ m, LayL c H (List.replicate m z) (madeCells zs (m * c.sz)).toList := by
  have hs : zs.size = c.sz := by rw [← c.len hz]; simp
  have key : ∀ m, (madeCells zs (m * c.sz)).toList = (List.replicate m zs.toList).flatten := by
    intro m
    apply List.ext_getElem
    · simp [madeCells, List.length_flatten, hs]
    · intro i h1 h2
      simp only [madeCells, Array.toList_map, Array.toList_range, List.getElem_map, List.getElem_range]
      have hi : i < m * c.sz := by simpa [madeCells] using h1
      have : ∀ m i (h : i < m * c.sz) (h2 : i < (List.replicate m zs.toList).flatten.length), (List.replicate m zs.toList).flatten[i] = zs[i % zs.size]! := by
        intro m
        induction m with
        | zero => intro i h; simp at h
        | succ m ih =>
          intro i h h2
          simp only [List.replicate_succ, List.flatten_cons]
          by_cases hlt : i < zs.size
          · rw [List.getElem_append_left (by simpa using hlt), Nat.mod_eq_of_lt hlt]
            simp [hlt]
          · rw [List.getElem_append_right (by simpa using hlt)]
            have h3 : i - zs.toList.length < m * c.sz := by simp [hs]; rw [Nat.add_mul] at h; omega
            rw [ih _ h3]
            have h4 : (i - zs.toList.length) % zs.size = i % zs.size := by
              have : zs.size ≤ i := by omega
              simp only [Array.length_toList]
              conv => rhs; rw [← Nat.sub_add_cancel this, Nat.add_mod_right]
            rw [h4]
      exact (this m i hi h2).symm
  intro m
  rw [key]
  induction m with
  | zero => exact rfl
  | succ m ih => exact ⟨zs.toList, (List.replicate m zs.toList).flatten, by simp [List.replicate_succ], hz, ih⟩
theorem SlD.mono {l : List α} {v : Value} (hl : H.le H') (h : SlD c H l v) : SlD c H' l v := by
  obtain ⟨⟨xs, h1, h2⟩, h3⟩ := h
  exact ⟨⟨xs, h1.mono hl, h2.mono hl⟩, h3⟩
theorem SlD.sl {l : List α} {v : Value} (h : SlD c H l v) : SlLen v l.length := by
  obtain ⟨⟨xs, h1, h2⟩, h3⟩ := h
  exact h1.sl
theorem SlD.one {l : List α} {v : Value} (h : SlD c H l v) : v.oneCell' = true := by
  rcases h.sl with ⟨rfl, _⟩ | ⟨a, cap, rfl⟩ <;> rfl
theorem SlD.nil : SlD c H [] (.slice none 0 0) := ⟨⟨[], Sl.nil H _, rfl⟩, by simp⟩
theorem SlD.get {l : List α} {v : Value} {i : Int} {x : α} (h : SlD c H l v) (hi : idx l i = some x) : ∃ cs, c.Lay H x cs ∧ ∀ j u, cs[j]? = some u → HCell H (elemPtr v (i.toNat * c.sz + j)) u := by
  obtain ⟨⟨xs, h1, h2⟩, h3⟩ := h
  obtain ⟨cs, g1, g2, _⟩ := h2.get (idx_some hi).2
  exact ⟨cs, g1, fun j u hj => h1.cells _ u (g2 j u hj)⟩
theorem SlD.of {l : List α} {v : Value} {n : Nat} {xs : List Value} (h : Sl H v c.sz n xs) (hn : n = l.length) (hx : LayL c H l xs) (hle : l.length ≤ 9223372036854775807) : SlD c H l v := by
  subst hn; exact ⟨⟨xs, h, hx⟩, hle⟩
end
def cL {α : Type} (c : Cd α) : Cd (List α) where
  sz := 1
  Lay H l cs := ∃ v, cs = [v] ∧ SlD c H l v
  len h := by obtain ⟨v, rfl, _⟩ := h; rfl
  mono hl h := by obtain ⟨v, e, h⟩ := h; exact ⟨v, e, h.mono hl⟩
  one h := by obtain ⟨v, rfl, h⟩ := h; intro u hu; simp at hu; subst hu; exact h.one
section
variable {P : Program} {T : TypeId} {E : Operand → Option Value} {H : Hp} {O : List Res} {x : Operand} {t : TypeId} {d : TypeDesc}
theorem OpT.ldH {p u : Value} (ht : P.underlying t = some d) (hd : aggB d = false) (hx : E x = some p) (hc : HCell H p u) : OpT P (.load t x) T E H O u := .of_run fun ac w o ho _ he hs => by
  obtain ⟨a, h1, h2⟩ := hc.cell hs
  rw [h1] at hx
  simp [execOp, ho, he x _ hx, Instr.loadAt, Instr.sureAddr, run_loadVar_one ht hd h2]
theorem OpT.ldHA {v : Value} {k bytes : Nat} {z : Value} {vs : List Value} (ht : P.underlying t = some d) (hd : aggB d = true) (hsz : TI P t vs.length bytes z) (h0 : vs.isEmpty = false) (hx : E x = some (elemPtr v k)) (hc : ∀ j u, vs[j]? = some u → HCell H (elemPtr v (k + j)) u) :
    OpT P (.load t x) T E H O (.agg vs.toArray) := .of_run fun ac w o ho _ he hs => by
  obtain ⟨a, h1, h2⟩ := HCells.cells hs (v := v) (k := k) (by intro e; subst e; simp at h0) hc
  rw [h1] at hx
  simp [execOp, ho, he x _ hx, Instr.loadAt, Instr.sureAddr, run_loadVar_agg (w := w) ht hd hsz h2]
end
section
variable {P : Program} {Q : Exit → Act → World → Prop} {n : Nat} {L L' : List (Nat × Value)} {H : Hp} {O : List Res}
def NextE (I : Nat → List (Nat × Value) → Hp → List Res → Prop) (n m : Nat) (H' : Hp) (a : Act) (w : World) : Prop :=
  ∃ m' L H'' O, m' < m ∧ H'.le H'' ∧ I m' L H'' O ∧ Fr a n L ∧ SH w H'' O
theorem Wp.loopE {c : Code} (I : Nat → List (Nat × Value) → Hp → List Res → Prop) (m : Nat) (hI : I m L H O)
    (round : ∀ m L' H' O', H.le H' → I m L' H' O' → Wp P c (Exit.then (NextE I n m H') Q) n L' H' O') : Wp P (.loop c) Q n L H O := by
  intro a w hf hs
  refine wp_loopG (X := Nat × List (Nat × Value) × Hp × List Res) (fun y a w => H.le y.2.2.1 ∧ I y.1 y.2.1 y.2.2.1 y.2.2.2 ∧ Fr a n y.2.1 ∧ SH w y.2.2.1 y.2.2.2) (fun y => y.1) (x := (m, L, H, O)) ⟨Hp.le.refl H, hI, hf, hs⟩ ?_
  rintro ⟨m, L', H', O'⟩ a w ⟨h1, h2, h3, h4⟩
  refine wp_mono (round m L' H' O' h1 h2 a w h3 h4) fun e a' w' q => ?_
  cases e with
  | normal =>
    obtain ⟨m', L, H'', O, g1, g2, g3, g4, g5⟩ := q
    exact ⟨(m', L, H'', O), ⟨h1.trans g2, g3, g4, g5⟩, g1⟩
  | _ => exact q
theorem At.nextE {I : Nat → List (Nat × Value) → Hp → List Res → Prop} {m : Nat} {H' : Hp} (m' : Nat) (hm : m' < m) (hH : H'.le H) (hL : Sub L' L) (hI : I m' L' H O) : At (Exit.then (NextE I n m H') Q) .normal n L H O :=
  fun _ _ hf hs => ⟨m', L', H, O, hm, hH, hI, hf.sub hL, hs⟩
theorem Sub.of (h : L'.map (fun p => lk L p.1) = L'.map (fun p => some p.2)) : Sub L' L := by
  induction L' with
  | nil => exact .nil
  | cons p l ih =>
    simp only [List.map_cons, List.cons.injEq] at h
    exact .cons h.1 (ih h.2)
theorem At.nextF {I : Nat → List (Nat × Value) → Hp → List Res → Prop} {m : Nat} {H' : Hp} (hH : H'.le H) (hI : I m L' H O) (hL : Sub L' L) : At (Exit.then (NextE I n (m + 1) H') Q) .normal n L H O := At.nextE m (Nat.lt_succ_self _) hH hL hI
theorem Wp.loopF {c : Code} (I : Nat → List (Nat × Value) → Hp → List Res → Prop) (m : Nat) (hI : I m L' H O) (hL : Sub L' L)
    (round : ∀ m L' H' O', H.le H' → I m L' H' O' → Wp P c (Exit.then (NextE I n m H') Q) n L' H' O') : Wp P (.loop c) Q n L H O := Wp.sub hL (Wp.loopE I m hI round)
def JoinE (J : List (Nat × Value) → Hp → List Res → Prop) (n : Nat) (H : Hp) (a : Act) (w : World) : Prop := ∃ L H' O, H.le H' ∧ J L H' O ∧ Fr a n L ∧ SH w H' O
theorem At.joinE {J : List (Nat × Value) → Hp → List Res → Prop} {H' : Hp} (hH : H'.le H) (hL : Sub L' L) (hJ : J L' H O) : At (Exit.then (JoinE J n H') Q) .normal n L H O :=
  fun _ _ hf hs => ⟨L', H, O, hH, hJ, hf.sub hL, hs⟩
theorem At.joinF {J : List (Nat × Value) → Hp → List Res → Prop} {H' : Hp} (hH : H'.le H) (hJ : J L' H O) (hL : Sub L' L) : At (Exit.then (JoinE J n H') Q) .normal n L H O := At.joinE hH hL hJ
def permO (ks : List Nat) (k : Nat) (O : List Res) : List Res := ks.filterMap (O[·]?) ++ O.drop k
def nodupB : List Nat → Bool
  | [] => true
  | k :: ks => !memB ks k && nodupB ks
theorem nodupB_spec : ∀ {ks : List Nat}, nodupB ks = true → ∀ (i j a : Nat), ks[i]? = some a → ks[j]? = some a → i = j
  | [], _, i, _, a, h, _ => by simp at h
  | k :: ks, hn, i, j, a, hi, hj => by
    simp only [nodupB, Bool.and_eq_true, Bool.not_eq_true'] at hn
    have hk : ∀ q, ks[q]? = some k → False := fun q hq => by
      have := memB_iff.2 (List.mem_of_getElem? hq)
      rw [hn.1] at this; cases this
    cases i with
    | zero =>
      cases j with
      | zero => rfl
      | succ j => simp at hi hj; subst hi; exact (hk j hj).elim
    | succ i =>
      cases j with
      | zero => simp at hi hj; subst hj; exact (hk i hi).elim
      | succ j => rw [nodupB_spec hn.2 i j a (by simpa using hi) (by simpa using hj)]
theorem SH.permO {w : World} (ks : List Nat) (k : Nat) (hk : (ks.all fun q => Nat.blt q k) = true) (hn : nodupB ks = true) (hl : k ≤ O.length) (h : SH w H O) : SH w H (permO ks k O) := by
  have hlt : ∀ q ∈ ks, q < O.length := fun q hq => by have := List.all_eq_true.1 hk q hq; simp at this; omega
  have hlt2 : ∀ q ∈ ks, q < k := fun q hq => by have := List.all_eq_true.1 hk q hq; simpa using this
  have hfm : ∀ ks : List Nat, (∀ q ∈ ks, q < O.length) → ks.filterMap (O[·]?) = ks.map (fun q => O.getD q .emp) := by
    intro ks
    induction ks with
    | nil => intro _; rfl
    | cons q ks ih =>
      intro h
      have hq := h q (by simp)
      rw [List.filterMap_cons, List.getElem?_eq_getElem hq, List.map_cons, ih fun q' h' => h q' (by simp [h'])]
      simp [hq]
  have hf := hfm ks hlt
  refine h.pick (fun i => if i < ks.length then ks.getD i 0 else k + (i - ks.length)) (fun i r hr => ?_) (fun i j hi hj he => ?_)
  · unfold GK.permO at hr
    rw [hf] at hr
    by_cases hi : i < ks.length
    · rw [List.getElem?_append_left (by simpa using hi)] at hr
      have hq : ks[i] < O.length := hlt _ (List.getElem_mem hi)
      simp only [List.getElem?_map, List.getElem?_eq_getElem hi, Option.map_some] at hr
      simp only [hi, if_true, List.getD_eq_getElem?_getD, List.getElem?_eq_getElem hi, Option.getD_some]
      rw [List.getD_eq_getElem?_getD, List.getElem?_eq_getElem hq] at hr
      rw [List.getElem?_eq_getElem hq]; exact hr
    · rw [List.getElem?_append_right (by simpa using hi)] at hr
      simp only [hi, if_false]
      simpa using hr
  · by_cases h1 : i < ks.length <;> by_cases h2 : j < ks.length
    · rw [if_pos h1, if_pos h2] at he
      refine nodupB_spec hn i j ks[i] (by simp [h1]) ?_
      simp only [List.getD_eq_getElem?_getD, List.getElem?_eq_getElem h1, List.getElem?_eq_getElem h2, Option.getD_some] at he
      rw [List.getElem?_eq_getElem h2, he]
    · rw [if_pos h1, if_neg h2] at he
      have := hlt2 _ (List.getElem_mem h1)
      simp only [List.getD_eq_getElem?_getD, List.getElem?_eq_getElem h1, Option.getD_some] at he
      omega
    · rw [if_neg h1, if_pos h2] at he
      have := hlt2 _ (List.getElem_mem h2)
      simp only [List.getD_eq_getElem?_getD, List.getElem?_eq_getElem h2, Option.getD_some] at he
      omega
    · rw [if_neg h1, if_neg h2] at he
      omega
theorem SH.rowLe {w : World} (hs : SH w H O) {i size m : Nat} {v : Value} {e : TypeId} {xs : List Value} (hi : O[i]? = some (.row v e size m xs)) : m ≤ 9223372036854775807 := by
  have h := hs.ok i _ hi
  simp only [Res.ok] at h
  rcases h.2 with ⟨rfl, rfl⟩ | ⟨g, cap, cur, rfl, _, _, h1, h2, _⟩
  · omega
  · simp only [maxLen] at h2; omega
theorem Seg.rowLe {ops : Array Oper} {rest : List Oper} {i size m : Nat} {v : Value} {e : TypeId} {xs : List Value} (hi : O[i]? = some (.row v e size m xs)) (k : m ≤ 9223372036854775807 → Seg P ops Q rest n L H O) : Seg P ops Q rest n L H O := fun a w hf hs => k (hs.rowLe hi) a w hf hs
theorem Wp.rowLe {c : Code} {i size m : Nat} {v : Value} {e : TypeId} {xs : List Value} (hi : O[i]? = some (.row v e size m xs)) (k : m ≤ 9223372036854775807 → Wp P c Q n L H O) : Wp P c Q n L H O := fun a w hf hs => k (hs.rowLe hi) a w hf hs
theorem At.rowLe {e' : Exit} {i size m : Nat} {v : Value} {e : TypeId} {xs : List Value} (hi : O[i]? = some (.row v e size m xs)) (k : m ≤ 9223372036854775807 → At Q e' n L H O) : At Q e' n L H O := fun a w hf hs => k (hs.rowLe hi) a w hf hs
theorem Wp.emp {c : Code} (k : Wp P c Q n L H (.emp :: O)) : Wp P c Q n L H O := fun a w hf hs =>
  k a w hf (hs.push (World.grownBy.refl w none) trivial (fun b hb => by cases hb))
end
end Go.GK
namespace Go.GK
abbrev F64 (n : Int) : Prop := -9223372036854775808 ≤ n ∧ n ≤ 9223372036854775807
abbrev F8 (n : Int) : Prop := 0 ≤ n ∧ n ≤ 255
abbrev capN : Nat := 1099511627776
theorem ones_nil : ∀ u ∈ ([] : List Value), u.oneCell' = true := fun u h => by cases h
theorem ones_cons {v : Value} {l : List Value} (h : v.oneCell' = true) (k : ∀ u ∈ l, u.oneCell' = true) : ∀ u ∈ v :: l, u.oneCell' = true := fun u hu => by
  rcases List.mem_cons.1 hu with rfl | hu
  · exact h
  · exact k u hu
theorem onesA {l : List Value} (h : ∀ u ∈ l, u.oneCell' = true) : ∀ u ∈ l.toArray, u.oneCell' = true := fun u hu => h u (by simpa using hu)
section
variable {P : Program} {Q : Exit → Act → World → Prop} {n : Nat} {L L' : List (Nat × Value)} {H : Hp} {O : List Res}
theorem SH.permK {w : World} (ks : List Nat) (k : Nat) (hk : (ks.all fun q => Nat.blt q k) = true) (hn : nodupB ks = true) (hl : (O.take k).length = k) (h : SH w H O) : SH w H (ks.filterMap (O[·]?) ++ O.drop k) :=
  SH.permO ks k hk hn (by rw [List.length_take] at hl; omega) h
theorem At.permK {e : Exit} (ks : List Nat) (k : Nat) (hk : (ks.all fun q => Nat.blt q k) = true) (hn : nodupB ks = true) (hl : (O.take k).length = k) (h : At Q e n L H (ks.filterMap (O[·]?) ++ O.drop k)) : At Q e n L H O := fun a w hf hs => h a w hf (hs.permK ks k hk hn hl)
theorem Seg.permK {ops : Array Oper} {rest : List Oper} (ks : List Nat) (k : Nat) (hk : (ks.all fun q => Nat.blt q k) = true) (hn : nodupB ks = true) (hl : (O.take k).length = k) (h : Seg P ops Q rest n L H (ks.filterMap (O[·]?) ++ O.drop k)) : Seg P ops Q rest n L H O := fun a w hf hs => h a w hf (hs.permK ks k hk hn hl)
theorem Wp.joinT {x y : Code} {Q2 : Exit → Act → World → Prop} (J : List (Nat × Value) → Hp → List Res → Prop) (hx : Wp P x (Exit.then (JoinE J n H) Q2) n L H O) (hy : ∀ L' H' O', H.le H' → J L' H' O' → Wp P y Q n L' H' O') : Wp P x (Exit.then (y.wp P Q) Q2) n L H O := fun a w hf hs =>
  wp_mono (hx a w hf hs) fun e a' w' q => by
    cases e with
    | normal =>
      obtain ⟨L', H', O', g1, g2, g3, g4⟩ := q
      exact hy L' H' O' g1 g2 a' w' g3 g4
    | _ => exact q
end
section
variable {P : Program} {T : TypeId} {E : Operand → Option Value} {H : Hp} {O : List Res} {x y : Operand}
theorem OpT.nilCheck {b off : Nat} (hx : E x = some (ptr b off)) : OpT P (.nilCheck x) T E H O (ptr b off) := .of_run fun a w o ho _ he _ => by
  simp only [ptr] at hx
  simp [execOp, ho, he x _ hx, ptr]
theorem OpT.lenS {t : TypeId} {s : Str} (ht : P.underlying t = some .string) (hx : E x = some (sv s)) : OpT P (.call { callee := .builtin .len, args := #[x], argTypes := #[t] }) T E H O (.int .i64 ((s.length : Nat) : Int)) := by
  have := OpT.lenStr (P := P) (T := T) (H := H) (O := O) ht hx
  exact this
def idxS (s : Str) (i : Int) : Option Int := if 0 ≤ i then (s[i.toNat]?).map (fun b => (b.toNat : Int)) else none
theorem idxS_bd {s : Str} {i x : Int} (h : idxS s i = some x) : (0 ≤ i ∧ i < (s.length : Nat)) ∧ 0 ≤ x ∧ x ≤ 255 := by
  unfold idxS at h
  split at h
  · cases hb : s[i.toNat]? with
    | none => rw [hb] at h; cases h
    | some b =>
      rw [hb] at h
      simp at h
      have := (List.getElem?_eq_some_iff.1 hb).1
      have := b.toNat_lt
      omega
  · cases h
theorem OpT.byteS {t : TypeId} {s : Str} {k : IntKind} {i z : Int} (ht : P.underlying t = some .string) (hx : E x = some (sv s)) (hy : E y = some (.int k i)) (h : idxS s i = some z) : OpT P (.index t x y) T E H O (.int .u8 z) := by
  unfold idxS at h
  split at h
  · rename_i h0
    cases hb : s[i.toNat]? with
    | none => rw [hb] at h; cases h
    | some b =>
      rw [hb] at h
      simp at h
      subst h
      exact OpT.byteOf ht hx hy h0 (by
        have hlt := (List.getElem?_eq_some_iff.1 hb).1
        show ByteArray.mk (Array.mk s) |>.data[i.toNat]? = some b
        simpa using hb)
  · cases h
theorem OpT.catStr {t Ty : TypeId} {a b : Str} (hx : E x = some (sv a)) (hy : E y = some (sv b)) (h : a.length + b.length ≤ capN) : OpT P (.binOp .add t x y Ty) T E H O (sv (a ++ b)) := .of_run fun ac w o ho _ he _ => by
  have h1 : ¬ (((ByteArray.mk (Array.mk a)).size + (ByteArray.mk (Array.mk b)).size : Nat) : Int) > IntKind.i64.max := by
    have e1 : (ByteArray.mk (Array.mk a)).size = a.length := rfl
    have e2 : (ByteArray.mk (Array.mk b)).size = b.length := rfl
    rw [e1, e2]
    simp [IntKind.max, IntKind.signed, IntKind.bits, capN] at *
    omega
  have h2 : ByteArray.mk (Array.mk a) ++ ByteArray.mk (Array.mk b) = ByteArray.mk (Array.mk (a ++ b)) := by
    apply ByteArray.ext
    rw [ByteArray.data_append]
    simp
  simp only [sv] at *
  simp only [execOp, ho, he x _ hx, he y _ hy, eqGuard, binOp, Op.stringOp, if_neg h1, h2]
  simp
theorem OpT.ldBlkX {t : TypeId} {d : TypeDesc} {B off i bytes : Nat} {z : Value} {cs : Array Value} {t' : TypeId} {fr : Nat × Nat} {vs : List Value} (ht : P.underlying t = some d) (hd : aggB d = true) (hsz : TI P t vs.length bytes z) (hx : E x = some (ptr B off)) (hi : O[i]? = some (.blk B (.cells cs t' fr)))
    (hv : (cs.toList.drop off).take vs.length = vs) : OpT P (.load t x) T E H O (.agg vs.toArray) :=
  OpT.ldBlkA ht hd hsz hx hi fun j u hj => by
    have hlt := (List.getElem?_eq_some_iff.1 hj).1
    have : ((cs.toList.drop off).take vs.length)[j]? = some u := by rw [hv]; exact hj
    rw [List.getElem?_take] at this
    simp [hlt] at this
    simpa using this
end
section
variable {P : Program} {Q : Exit → Act → World → Prop} {n : Nat} {L : List (Nat × Value)} {H : Hp} {O : List Res} {ops : Array Oper} {rest : List Oper} {T : TypeId}
variable {α : Type} {c : Cd α}
theorem LayL.repl {z : α} {v : Value} (h : c.Lay H z [v]) : ∀ m, LayL c H (List.replicate m z) (List.replicate m v)
  | 0 => rfl
  | m + 1 => ⟨[v], List.replicate m v, by simp [List.replicate_succ], h, LayL.repl h m⟩
theorem Seg.stD {l : List α} {xs : List Value} {i : Int} {x0 : α} {pos : String} {af : Array Edge} {px py : Operand} {t e : TypeId} {v u z : Value} {bytes sz : Nat} {cs vs : List Value} (q off : Nat) (y : α) (hL : LayL c H l xs) (hg : idx l i = some x0)
    (hcs : cs = (xs.drop (i.toNat * c.sz)).take c.sz) (hx : ev L px = some (elemPtr v (i.toNat * c.sz + off))) (hy : ev L py = some u) (hv : u.cells.toList = vs) (hsz : TI P t sz bytes z) (hs : vs.length = sz) (h0 : Nat.blt 0 sz = true)
    (h1 : ∀ u ∈ vs, u.oneCell' = true) (hi : O[q]? = some (.row v e c.sz l.length xs)) (hlay : c.Lay H y (spl cs off vs)) (hoff : Nat.ble (off + vs.length) c.sz = true)
    (kk : ∀ xs', LayL c H (l.set i.toNat y) xs' → Seg P ops Q rest n L H (O.set q (.row v e c.sz (l.set i.toNat y).length xs'))) :
    Seg P ops Q ({ dst := none, op := .store t px py, type := T, pos, after := af, guard := none } :: rest) n L H O := by
  obtain ⟨⟨hi0, hi1⟩, hget⟩ := idx_some hg
  have hlen := hL.len
  have hcl : cs.length = c.sz := by
    obtain ⟨cs', g1, _, g3⟩ := hL.get hget
    rw [hcs, ← g3]; exact c.len g1
  have hoff' := Nat.le_of_ble_eq_true hoff
  have hb : i.toNat * c.sz + c.sz ≤ l.length * c.sz := by rw [← Nat.succ_mul]; exact Nat.mul_le_mul_right _ (by omega)
  refine Seg.stRow (i := q) hx hy hv hsz hs (by simpa using h0) h1 hi (by omega) ?_
  have := kk _ (hL.part hget hcs hcl (by omega) hlay)
  rwa [List.length_set] at this
theorem Seg.makeD {d : Tmp} {pos : String} {af : Array Edge} {pl pc : Operand} {t e : TypeId} {bytes : Nat} {zv : Value} {kl kc : IntKind} {m : Nat} {z : α} (ht : P.underlying t = some (.slice e)) (hz : TI P e c.sz bytes zv) (hl : ev L pl = some (.int kl (m : Int))) (hc : ev L pc = some (.int kc (m : Int)))
    (hm : m ≤ capN) (hlay : c.Lay H z zv.cells.toList) (hd : Nat.blt d n = true) (hb : Nat.ble bytes 256 = true) (h0 : Nat.blt 0 c.sz = true)
    (k : ∀ v xs, LayL c H (List.replicate m z) xs → Seg P ops Q rest n ((d, v) :: L) H (.row v e c.sz (List.replicate m z).length xs :: O)) :
    Seg P ops Q ({ dst := some d, op := .makeSlice t pl pc, type := T, pos, after := af, guard := none } :: rest) n L H O := by
  have hb' := Nat.le_of_ble_eq_true hb
  have hbm : bytes * m ≤ 256 * 1099511627776 := Nat.mul_le_mul hb' hm
  refine Seg.make (m := m) ht hz hl hc (by omega) (by simp only [capN] at hm; omega) hd fun v => ?_
  have := k v _ (LayL.rep hlay (by simpa using h0) m)
  rwa [List.length_replicate] at this
theorem Seg.buildD1 {d : Tmp} {pos : String} {af : Array Edge} {t e : TypeId} {bytes : Nat} {z v : Value} {cs : List Value} {x : Operand} {y : α} (ht : P.underlying t = some (.slice e)) (hz : TI P e c.sz bytes z)
    (hlen : Nat.ble c.sz 16777216 = true) (h0 : Nat.blt 0 c.sz = true) (hx : ev L x = some v) (hc : v.cells.toList = cs) (hlay : c.Lay H y cs) (hd : Nat.blt d n = true)
    (k : ∀ v' xs, LayL c H [y] xs → Seg P ops Q rest n ((d, v') :: L) H (.row v' e c.sz [y].length xs :: O)) :
    Seg P ops Q ({ dst := some d, op := .buildSlice t 1 #[(0, x)], type := T, pos, after := af, guard := none } :: rest) n L H O := by
  subst hc
  refine Seg.buildSl1 (cs := v.cells) ht hz hlen h0 hx rfl ?_ hd fun v' => k v' _ (LayL.sing hlay)
  rw [← c.len hlay]; simp
theorem Seg.buildDN {d : Tmp} {pos : String} {af : Array Edge} {t e : TypeId} {l : List α} {bytes : Nat} {z : Value} {zs cs : Array Value} {ps : List (Nat × Operand)} {vs : List (Nat × Value)} {len : Nat} (ht : P.underlying t = some (.slice e)) (hz : TI P e c.sz bytes z) (hzc : z.cells = zs)
    (hlen : Nat.ble (len * c.sz) 16777216 = true) (h0 : Nat.blt 0 (len * c.sz) = true) (hps : evp (ev L) ps = some vs) (hf : Instr.fill (fun i => some (i * c.sz, c.sz)) ((Array.range (len * c.sz)).map (zs[· % zs.size]!)) vs = some cs) (hll : l.length = len) (hlay : LayL c H l cs.toList) (hd : Nat.blt d n = true)
    (k : ∀ v' xs, LayL c H l xs → Seg P ops Q rest n ((d, v') :: L) H (.row v' e c.sz l.length xs :: O)) :
    Seg P ops Q ({ dst := some d, op := .buildSlice t len ps.toArray, type := T, pos, after := af, guard := none } :: rest) n L H O := by
  refine Seg.buildSl ht hz hzc hlen h0 hps hf ?_ hd fun v' => ?_
  · have := hlay.len; rw [hll] at this; simpa using this
  · have := k v' _ hlay; rwa [hll] at this
theorem Seg.appD {d : Tmp} {pos : String} {af : Array Edge} {s x : Operand} {t e e2 : TypeId} {bytes : Nat} {z v y : Value} {l l2 : List α} {xs ys : List Value} (i j : Nat) (hL : LayL c H l xs) (hL2 : LayL c H l2 ys) (ht : P.underlying t = some (.slice e)) (hz : TI P e c.sz bytes z) (hzs : z.cells.size = c.sz) (h0 : Nat.blt 0 c.sz = true)
    (hs : ev L s = some v) (hx : ev L x = some y) (hi : O[i]? = some (.row v e c.sz l.length xs)) (hj : O[j]? = some (.row y e2 c.sz l2.length ys)) (hb : Nat.ble bytes 64 = true) (hl : l.length + l2.length ≤ capN) (hd : Nat.blt d n = true)
    (k : ∀ v' xs', LayL c H (l ++ l2) xs' → Seg P ops Q rest n ((d, v') :: L) H (O.set i (.row v' e c.sz (l ++ l2).length xs'))) :
    Seg P ops Q ({ dst := some d, op := .call { callee := .builtin .append, args := #[s, x], argTypes := #[t, t] }, type := T, pos, after := af, guard := none } :: rest) n L H O := by
  have hb' := Nat.le_of_ble_eq_true hb
  have hbm : (l.length + l2.length) * bytes ≤ 1099511627776 * 64 := Nat.mul_le_mul hl hb'
  refine Seg.append ht hz hzs (by simpa using h0) hs hx hi (fun w hs => hs.srcRow hj) hL2.one (by omega) (by simp only [capN] at hl; omega) hd fun v' => ?_
  have := k v' _ (hL.app hL2)
  rwa [List.length_append] at this
theorem Seg.appF {d : Tmp} {pos : String} {af : Array Edge} {s x : Operand} {t e : TypeId} {bytes : Nat} {z v y : Value} {l l2 : List α} {xs : List Value} (i : Nat) (hL : LayL c H l xs) (hL2 : SlD c H l2 y) (ht : P.underlying t = some (.slice e)) (hz : TI P e c.sz bytes z) (hzs : z.cells.size = c.sz) (h0 : Nat.blt 0 c.sz = true)
    (hs : ev L s = some v) (hx : ev L x = some y) (hi : O[i]? = some (.row v e c.sz l.length xs)) (hb : Nat.ble bytes 64 = true) (hl : l.length + l2.length ≤ capN) (hd : Nat.blt d n = true)
    (k : ∀ v' xs', LayL c H (l ++ l2) xs' → Seg P ops Q rest n ((d, v') :: L) H (O.set i (.row v' e c.sz (l ++ l2).length xs'))) :
    Seg P ops Q ({ dst := some d, op := .call { callee := .builtin .append, args := #[s, x], argTypes := #[t, t] }, type := T, pos, after := af, guard := none } :: rest) n L H O := by
  have hb' := Nat.le_of_ble_eq_true hb
  have hbm : (l.length + l2.length) * bytes ≤ 1099511627776 * 64 := Nat.mul_le_mul hl hb'
  obtain ⟨⟨ys, g1, g2⟩, _⟩ := hL2
  refine Seg.append ht hz hzs (by simpa using h0) hs hx hi (fun w hs => hs.srcImm g1) g2.one (by omega) (by simp only [capN] at hl; omega) hd fun v' => ?_
  have := k v' _ (hL.app g2)
  rwa [List.length_append] at this
end
end Go.GK
namespace Go.GK
section
variable {P : Program} {Q : Exit → Act → World → Prop} {n : Nat} {L : List (Nat × Value)} {H : Hp} {O : List Res} {ops : Array Oper} {rest : List Oper} {T : TypeId}
variable {α : Type} {c : Cd α}
theorem szRep (n : Nat) (v : Value) : (List.replicate n v).toArray.size = n := by rw [List.size_toArray, List.length_replicate]
theorem SH.rowOne {w : World} (hs : SH w H O) {i size m : Nat} {v : Value} {e : TypeId} {xs : List Value} (hi : O[i]? = some (.row v e size m xs)) : v.oneCell' = true := by
  rcases (hs.rowLen hi).1 with ⟨rfl, _⟩ | ⟨a, cap, rfl⟩ <;> rfl
theorem Seg.rowOne {i size m : Nat} {v : Value} {e : TypeId} {xs : List Value} (hi : O[i]? = some (.row v e size m xs)) (k : v.oneCell' = true → Seg P ops Q rest n L H O) : Seg P ops Q rest n L H O := fun a w hf hs => k (hs.rowOne hi) a w hf hs
theorem OpS.withOne {op : Op} {E : Operand → Option Value} {R : Value → Hp → List Res → Prop} (r : Nat) (h : OpS P op T E H O R) (hr : ∀ v H' O', R v H' O' → ∃ e size m xs, O'[r]? = some (.row v e size m xs)) : OpS P op T E H O (fun v H' O' => R v H' O' ∧ v.oneCell' = true) :=
  fun a w o next Q h1 h2 h3 h4 h5 => h a w o next Q h1 h2 h3 h4 fun v w' H' O' k1 k2 k3 => by
    obtain ⟨e, size, m, xs, hi⟩ := hr v H' O' k2
    exact h5 v w' H' O' k1 ⟨k2, k3.rowOne hi⟩ k3
theorem LayL.lenA {l : List α} {cs : Array Value} {k : Nat} (h : LayL c H l cs.toList) (hs : cs.size = k) : k = l.length * c.sz := by
  have := h.len; simp at this; omega
theorem Seg.stA {l : List α} {cs : Array Value} {k B : Nat} {pos : String} {af : Array Edge} {px py : Operand} {t e : TypeId} {u z : Value} {bytes : Nat} (q : Nat) (y : α) (i : Int) (hL : LayL c H l cs.toList) (hsz : cs.size = k) (hg : 0 ≤ i ∧ i < (l.length : Nat))
    (hx : ev L px = some (ptr B (i.toNat * 1))) (hy : ev L py = some u) (hu : u.oneCell' = true) (hti : TI P t 1 bytes z) (hi : O[q]? = some (.blk B (.cells cs e (0, 0)))) (hlay : c.Lay H y [u])
    (kk : ∀ cs', (LayL c H (l.set i.toNat y) cs'.toList ∧ cs'.size = k) → Seg P ops Q rest n L H (O.set q (.blk B (.cells cs' e (0, 0))))) :
    Seg P ops Q ({ dst := none, op := .store t px py, type := T, pos, after := af, guard := none } :: rest) n L H O := by
  have h1 : c.sz = 1 := by rw [← c.len hlay]; rfl
  have hlen := hL.len
  rw [h1] at hlen
  simp only [Nat.mul_one] at hx
  have hlt : i.toNat < cs.size := by simp at hlen; omega
  refine Seg.stBlk1 (i := q) hx hy hu hti hi hlt (kk _ ⟨?_, by simp [hsz]⟩)
  have h2 := hL.set (i := i.toNat) (by omega) hlay
  rw [h1, Nat.mul_one, spl_one _ _ _ (by simpa using hlt)] at h2
  simpa using h2
end
def placesOf (P : Program) (t : TypeId) : Option (List (Nat × Nat)) :=
  match P.underlying t with
  | some (.struct fs) => fs.toList.mapM fun f => (P.info? f.type).map fun i => (f.offset, i.size)
  | _ => none
theorem run_places {P : Program} : ∀ (l : List Field) (ps : List (Nat × Nat)), (l.mapM fun f => (P.info? f.type).map fun i => (f.offset, i.size)) = some ps →
    ∀ w, (l.mapM fun f => do pure (f.offset, ← Go.sizeOf f.type) : Sem (List (Nat × Nat))).run P w = .ok ps w
  | [], ps, h, w => by simp at h; subst h; simp
  | f :: l, ps, h, w => by
    rw [List.mapM_cons] at h
    cases hi : P.info? f.type with
    | none => simp [hi] at h
    | some i =>
      cases hl : (l.mapM fun f => (P.info? f.type).map fun i => (f.offset, i.size)) with
      | none => simp [hi, hl] at h
      | some qs =>
        simp [hi, hl] at h
        subst h
        have ih := run_places l qs hl w
        have hsz : (Go.sizeOf f.type).run P w = .ok i.size w := by simp [Go.sizeOf, typeInfo, hi]
        rw [List.mapM_cons]
        simp only [Sem.run_bind, hsz, Result.andThen_ok, Sem.run_pure, ih]
def fillC (place : Nat → Option (Nat × Nat)) (cells : Array Value) : List (Nat × Array Value) → Option (Array Value)
  | [] => some cells
  | (i, v) :: rest =>
    match place i with
    | none => none
    | some (off, size) =>
      if v.size ≠ size || off + v.size > cells.size then none
      else fillC place (v.zipIdx.foldl (fun cs (c, j) => cs.setIfInBounds (off + j) c) cells) rest
theorem fill_eq (place : Nat → Option (Nat × Nat)) : ∀ (vs : List (Nat × Value)) (cells : Array Value), Instr.fill place cells vs = fillC place cells (vs.map fun p => (p.1, p.2.cells))
  | [], _ => rfl
  | (i, v) :: rest, cells => by
    simp only [Instr.fill, List.map_cons, fillC]
    cases place i with
    | none => rfl
    | some q =>
      obtain ⟨off, size⟩ := q
      simp only
      split
      · rfl
      · exact fill_eq place rest _
theorem cells1 {v : Value} (h : v.oneCell' = true) : v.cells = #[v] := by cases v <;> simp_all [Value.cells, Value.oneCell']
theorem cellsL {v : Value} (h : v.oneCell' = true) : v.cells.toList = [v] := by rw [cells1 h]
abbrev VC (vs : List (Nat × Value)) (vcs : List (Nat × Array Value)) : Prop := vs.map (fun p => (p.1, p.2.cells)) = vcs
theorem vc_nil : VC [] [] := rfl
theorem vc_cons {i : Nat} {v : Value} {cs : Array Value} {vs : List (Nat × Value)} {vcs : List (Nat × Array Value)} (h : v.cells = cs) (k : VC vs vcs) : VC ((i, v) :: vs) ((i, cs) :: vcs) := by
  unfold VC at *; rw [List.map_cons, k, h]
section
variable {P : Program} {T : TypeId} {E : Operand → Option Value} {H : Hp} {O : List Res}
theorem OpT.buildS {t : TypeId} {size bytes : Nat} {z : Value} {zs cs : Array Value} {ps : List (Nat × Operand)} {vs : List (Nat × Value)} {places : List (Nat × Nat)} (hp : placesOf P t = some places) (hz : TI P t size bytes z) (hzc : z.cells = zs)
    {vcs : List (Nat × Array Value)} (hps : evp E ps = some vs) (hv : VC vs vcs) (hf' : fillC (places[·]?) zs vcs = some cs) : OpT P (.build t ps.toArray) T E H O (.agg cs) := by
  have hf : Instr.fill (places[·]?) zs vs = some cs := by rw [fill_eq, hv]; exact hf'
  unfold placesOf at hp
  split at hp
  · rename_i fs hu
    refine OpT.build (places := places.toArray) hu hz hzc (fun w => ?_) hps (by simpa using hf)
    have h := run_places fs.toList places hp w
    rw [Array.mapM_eq_mapM_toList]
    show ((List.mapM (fun f : Field => (do pure (f.offset, ← Go.sizeOf f.type) : Sem (Nat × Nat))) fs.toList) >>= fun l => pure l.toArray : Sem (Array (Nat × Nat))).run P w = _
    rw [Sem.run_bind, h]
    simp
  · cases hp
theorem OpT.buildA2 {t e : TypeId} {len size bytes esize ebytes : Nat} {z ez : Value} {zs cs : Array Value} {ps : List (Nat × Operand)} {vs : List (Nat × Value)} {vcs : List (Nat × Array Value)} (ht : P.underlying t = some (.array len e)) (hz : TI P t size bytes z) (hze : TI P e esize ebytes ez) (hzc : z.cells = zs)
    (hps : evp E ps = some vs) (hv : VC vs vcs) (hf : fillC (fun i => some (i * esize, esize)) zs vcs = some cs) : OpT P (.build t ps.toArray) T E H O (.agg cs) :=
  OpT.buildA ht hz hze hzc hps (by rw [fill_eq, hv]; exact hf)
end
section
variable {P : Program} {Q : Exit → Act → World → Prop} {n : Nat} {L : List (Nat × Value)} {H : Hp} {O : List Res} {ops : Array Oper} {rest : List Oper} {T : TypeId}
variable {α : Type} {c : Cd α}
theorem Seg.buildDN2 {d : Tmp} {pos : String} {af : Array Edge} {t e : TypeId} {l : List α} {bytes : Nat} {z : Value} {zs cs : Array Value} {ps : List (Nat × Operand)} {vs : List (Nat × Value)} {vcs : List (Nat × Array Value)} {len : Nat} (ht : P.underlying t = some (.slice e)) (hz : TI P e c.sz bytes z) (hzc : z.cells = zs)
    (hlen : Nat.ble (len * c.sz) 16777216 = true) (h0 : Nat.blt 0 (len * c.sz) = true) (hps : evp (ev L) ps = some vs) (hv : VC vs vcs) (hf : fillC (fun i => some (i * c.sz, c.sz)) ((Array.range (len * c.sz)).map (zs[· % zs.size]!)) vcs = some cs) (hll : l.length = len) (hlay : LayL c H l cs.toList) (hd : Nat.blt d n = true)
    (k : ∀ v' xs, LayL c H l xs → Seg P ops Q rest n ((d, v') :: L) H (.row v' e c.sz l.length xs :: O)) :
    Seg P ops Q ({ dst := some d, op := .buildSlice t len ps.toArray, type := T, pos, after := af, guard := none } :: rest) n L H O :=
  Seg.buildDN ht hz hzc hlen h0 hps (by rw [fill_eq, hv]; exact hf) hll hlay hd k
end
end Go.GK
namespace Go.GK
def blkOf : Value → Nat
  | .pointer (some a) => a.block
  | _ => 0
def prj (v : Value) (k : Nat) : Value := match v with
  | .agg cs => cs.getD k undef
  | .tuple vs => vs.getD k undef
  | _ => undef
def evk (L : List (Nat × Value)) (lo : List Nat) : Operand → Option Value
  | .tmp t => match memB lo t with
    | true => lk L t
    | false => none
  | .const v => some v
  | .global g => some (.pointer (some ⟨g, 0, none⟩))
  | .func f => some (.func (.func f) #[] #[])
theorem evk_ok {L : List (Nat × Value)} {lo : List Nat} {a : Act} (h : ∀ t ∈ lo, ∀ v, lk L t = some v → a.tmps.getD t undef = v) (x : Operand) (u : Value) (hx : evk L lo x = some u) : a.eval x = u := by
  cases x with
  | tmp t =>
    simp only [evk] at hx
    split at hx
    · rename_i hm; exact h t (memB_iff.1 hm) u hx
    · cases hx
  | const u => simpa [evk, Act.eval] using hx
  | global g => simpa [evk, Act.eval] using hx
  | func f => simpa [evk, Act.eval] using hx
section
variable {P : Program} {Q : Exit → Act → World → Prop} {n N i : Nat} {H : Hp} {O : List Res} {ops : Array Oper} {os : List Oper} {an : Ann} {aS : List Ann} {LL : Rec → List (Nat × Value)} {XX : Rec → List Res} {FF : List (Nat × (Rec → Hp → Prop))}
def FactsO (an : Ann) (i : Nat) (FF : List (Nat × (Rec → Hp → Prop))) (ρ : Rec) (H' : Hp) : Prop := ∀ m, memB an.ms m = true → Nat.beq m i = false → lkF FF ρ H' m
def RegsO (an : Ann) (XX : Rec → List Res) (O : List Res) (ρ : Rec) (Y : List Res) : Prop := ∀ r x, (memB an.rd r || memB an.wr r) = true → (XX ρ)[r]? = some x → (Y ++ O)[r]? = some x
theorem SegO.runK {id : Nat} {l : List Oper} {L : List (Nat × Value)} (k : Nat) (A : List Ann) (hm : P.follows .mixedOrders = true) (hN : (O.take k).length = k) (hOK : regO l A k = true)
    (h : SegO P l.toArray Q n k H (O.drop k) 0 l A (fun _ => L) (fun _ => O.take k) []) : Wp P (.region id l.toArray true) Q n L H O := by
  have := SegO.run (id := id) A hm hN hOK h
  rwa [List.take_append_drop] at this
theorem SegO.done (h : ∀ H' ρ, H.le H' → (∀ m, lkF FF ρ H' m) → At Q .normal n (LL ρ) H' (XX ρ ++ O)) : SegO P ops Q n N H O i [] aS LL XX FF := h
theorem setK {Y : List Res} {r : Nat} {x : Res} (h : r < Y.length) : (Y ++ O).set r x = Y.set r x ++ O := by rw [List.set_append_left _ _ h]
theorem factsO_of {ρ : Rec} {H' : Hp} (h : ∀ m, m ∈ an.ms → m ≠ i → lkF FF ρ H' m) : FactsO an i FF ρ H' := fun m hm hne => h m (memB_iff.1 hm) (Nat.ne_of_beq_eq_false hne)
theorem regsO_of {ρ : Rec} {Y : List Res} (h : ∀ r, (memB an.rd r = true ∨ memB an.wr r = true) → ∀ x, (XX ρ)[r]? = some x → Y[r]? = some x) : RegsO an XX O ρ Y := fun r x hr hx => by
  have hr' : memB an.rd r = true ∨ memB an.wr r = true := by simpa using hr
  have hy := h r hr' x hx
  rw [List.getElem?_append_left (List.getElem?_eq_some_iff.1 hy).1]; exact hy
theorem quiet_upd {val : Rec → Value} (hi : memB an.ms i = false) (st : ∀ ρ, val (mask an.ms ρ) = val ρ) (ρ : Rec) (v : Value) : val (upd ρ i v) = val ρ := by
  rw [← st (upd ρ i v), ← st ρ]
  exact congrArg val (mask_congr fun m hm => upd_ne fun e => by subst e; rw [memB_iff.2 hm] at hi; cases hi)
theorem SegO.op {d : Tmp} {op : Op} {T : TypeId} {pos : String} {af : Array Edge} {val : Rec → Value} (hw : an.wr = []) (hi : memB an.ms i = false) (st : ∀ ρ, val (mask an.ms ρ) = val ρ)
    (h : ∀ H' ρ Y, H.le H' → FactsO an i FF ρ H' → RegsO an XX O ρ Y → OpT P op T (evk (LL ρ) (looks op)) H' (Y ++ O) (val ρ)) (hd : Nat.blt d n = true)
    (k : SegO P ops Q n N H O (i + 1) os aS (fun ρ => (d, val ρ) :: LL ρ) XX ((i, fun _ _ => True) :: FF)) :
    SegO P ops Q n N H O i ({ dst := some d, op, type := T, pos, after := af, guard := none } :: os) (an :: aS) LL XX FF := by
  refine ⟨fun ρ => ⟨val ρ, [], fun _ => True⟩, ⟨fun d' hd' => by simp at hd'; subst hd'; simpa using hd, fun ρ => by rw [st], fun _ _ _ _ h => h, fun H' ρ Y a w h1 h2 h3 h4 h5 h6 h7 h8 K Q hK => ?_⟩, fun ρ => by rw [hw]; rfl, k⟩
  rw [if_pos (by simp [Region.wanted])]
  rw [looks_none] at h4
  refine Oper.wp_of_quietAt (h H' ρ Y h1 (factsO_of h2) (regsO_of h5) a w _ rfl rfl (evk_ok h4) h6) h6 fun w' hw' => ?_
  exact hK _ w' H' Y (Hp.le.refl _) hw' h3 (fun _ _ => rfl) (fun r x hr => by rw [hw] at hr; cases hr) trivial fun _ => quiet_upd hi st ρ _
theorem yields_of {a : Act} {ρ : Rec} {j t : Nat} {b : Bool} {d : Option Tmp} {op : Op} {T : TypeId} {pos : String} {af : Array Edge} (hj : guardSlot ops j = some t) (hb : lk (LL ρ) t = some (.bool b))
    (h4 : ∀ t ∈ Oper.looksAt ops { dst := d, op, type := T, pos, after := af, guard := some (j, b) }, ∀ v, lk (LL ρ) t = some v → a.tmps.getD t undef = v) : yielded ops a.tmps j = some b := by
  refine yielded_of hj (h4 t ?_ _ hb)
  have hj2 := hj
  unfold guardSlot at hj2
  simp [Oper.looksAt, hj2]
theorem SegO.opG {d t j : Nat} {b : Bool} {op : Op} {T : TypeId} {pos : String} {af : Array Edge} {val : Rec → Value} (hj : guardSlot ops j = some t) (hb : ∀ ρ, lk (LL ρ) t = some (.bool b)) (hw : an.wr = []) (hi : memB an.ms i = false) (st : ∀ ρ, val (mask an.ms ρ) = val ρ)
    (h : ∀ H' ρ Y, H.le H' → FactsO an i FF ρ H' → RegsO an XX O ρ Y → OpT P op T (evk (LL ρ) (looks op)) H' (Y ++ O) (val ρ)) (hd : Nat.blt d n = true)
    (k : SegO P ops Q n N H O (i + 1) os aS (fun ρ => (d, val ρ) :: LL ρ) XX ((i, fun _ _ => True) :: FF)) :
    SegO P ops Q n N H O i ({ dst := some d, op, type := T, pos, after := af, guard := some (j, b) } :: os) (an :: aS) LL XX FF := by
  refine ⟨fun ρ => ⟨val ρ, [], fun _ => True⟩, ⟨fun d' hd' => by simp at hd'; subst hd'; simpa using hd, fun ρ => by rw [st], fun _ _ _ _ h => h, fun H' ρ Y a w h1 h2 h3 h4 h5 h6 h7 h8 K Q hK => ?_⟩, fun ρ => by rw [hw]; rfl, k⟩
  rw [if_pos (by simp [Region.wanted, yields_of hj (hb ρ) h4])]
  refine Oper.wp_of_quietAt (h H' ρ Y h1 (factsO_of h2) (regsO_of h5) a w _ rfl rfl (evk_ok fun t ht => h4 t (looks_sub ht)) h6) h6 fun w' hw' => ?_
  exact hK _ w' H' Y (Hp.le.refl _) hw' h3 (fun _ _ => rfl) (fun r x hr => by rw [hw] at hr; cases hr) trivial fun _ => quiet_upd hi st ρ _
theorem SegO.skipG {d : Option Tmp} {t j : Nat} {b c : Bool} {op : Op} {T : TypeId} {pos : String} {af : Array Edge} (hj : guardSlot ops j = some t) (hb : ∀ ρ, lk (LL ρ) t = some (.bool c)) (hne : (c == b) = false) (hw : an.wr = []) (hd : ∀ d', d = some d' → d' < n)
    (k : SegO P ops Q n N H O (i + 1) os aS (fun ρ => putL d undef (LL ρ)) XX ((i, fun _ _ => True) :: FF)) :
    SegO P ops Q n N H O i ({ dst := d, op, type := T, pos, after := af, guard := some (j, b) } :: os) (an :: aS) LL XX FF := by
  refine ⟨fun ρ => ⟨undef, [], fun _ => True⟩, ⟨hd, fun ρ => rfl, fun _ _ _ _ h => h, fun H' ρ Y a w h1 h2 h3 h4 h5 h6 h7 h8 K Q hK => ?_⟩, fun ρ => by rw [hw]; rfl, k⟩
  have hy : yielded ops a.tmps j = some c := yielded_of hj (h4 t (by have hj2 := hj; unfold guardSlot at hj2; simp [Oper.looksAt, hj2]) _ (hb ρ))
  rw [if_neg (by simp only [Region.wanted, hy]; simpa using hne)]
  exact hK _ w H' Y (Hp.le.refl _) h6 h3 (fun _ _ => rfl) (fun r x hr => by rw [hw] at hr; cases hr) trivial fun _ => rfl
theorem SegO.op1 {d : Tmp} {op : Op} {T : TypeId} {pos : String} {af : Array Edge} {val : Rec → Value} {res : Rec → Res} (r : Nat) (hw : an.wr = [r]) (hr : Nat.blt r N = true) (stv : ∀ ρ, val (mask an.ms ρ) = val ρ) (str : ∀ ρ, res (mask an.ms ρ) = res ρ)
    (h : ∀ H' ρ Y, H.le H' → FactsO an i FF ρ H' → RegsO an XX O ρ Y → OpS P op T (evk (LL ρ) (looks op)) H' (Y ++ O) (fun v H'' O'' => H'' = H' ∧ O'' = (Y ++ O).set r (res (upd ρ i v)) ∧ val (upd ρ i v) = v)) (hd : Nat.blt d n = true)
    (k : SegO P ops Q n N H O (i + 1) os aS (fun ρ => (d, val ρ) :: LL ρ) (fun ρ => (XX ρ).set r (res ρ)) ((i, fun _ _ => True) :: FF)) :
    SegO P ops Q n N H O i ({ dst := some d, op, type := T, pos, after := af, guard := none } :: os) (an :: aS) LL XX FF := by
  refine ⟨fun ρ => ⟨val ρ, [(r, res ρ)], fun _ => True⟩, ⟨fun d' hd' => by simp at hd'; subst hd'; simpa using hd, fun ρ => by rw [stv, str], fun _ _ _ _ h => h, fun H' ρ Y a w h1 h2 h3 h4 h5 h6 h7 h8 K Q hK => ?_⟩, fun ρ => by rw [hw]; rfl, k⟩
  have hr' : r < N := by simpa using hr
  rw [if_pos (by simp [Region.wanted])]
  rw [looks_none] at h4
  refine h H' ρ Y h1 (factsO_of h2) (regsO_of h5) a w _ K Q rfl rfl (evk_ok h4) h6 ?_
  rintro v w' H'' O'' hle ⟨rfl, rfl, k3⟩ hw'
  rw [setK (by omega)] at hw'
  refine hK v w' _ _ hle hw' (by simp [h3]) (fun r' hr' => ?_) (fun r' x _ hx => ?_) trivial fun _ => k3
  · rw [hw] at hr'
    have hne : r ≠ r' := fun e => by subst e; simp [memB] at hr'
    rw [List.getElem?_set_ne hne]
  · simp only [lkR] at hx
    split at hx
    · rename_i hb
      have := Nat.eq_of_beq_eq_true hb
      subst this
      injection hx with hx
      subst hx
      simp [h3, hr']
    · cases hx
theorem SegO.op1s {d : Tmp} {op : Op} {T : TypeId} {pos : String} {af : Array Edge} {res : Rec → Res} (r : Nat) (hw : an.wr = [r]) (hr : Nat.blt r N = true) (hm : memB an.ms i = true) (str : ∀ ρ, res (mask an.ms ρ) = res ρ)
    (h : ∀ H' ρ Y, H.le H' → FactsO an i FF ρ H' → RegsO an XX O ρ Y → OpS P op T (evk (LL ρ) (looks op)) H' (Y ++ O) (fun v H'' O'' => H'' = H' ∧ O'' = (Y ++ O).set r (res (upd ρ i v)) ∧ upd ρ i v i = v)) (hd : Nat.blt d n = true)
    (hrow : ∀ ρ, ∃ e size m xs, res ρ = .row (ρ i) e size m xs)
    (k : SegO P ops Q n N H O (i + 1) os aS (fun ρ => (d, ρ i) :: LL ρ) (fun ρ => (XX ρ).set r (res ρ)) ((i, fun ρ _ => (ρ i).oneCell' = true) :: FF)) :
    SegO P ops Q n N H O i ({ dst := some d, op, type := T, pos, after := af, guard := none } :: os) (an :: aS) LL XX FF := by
  have hmi : ∀ ρ : Rec, mask an.ms ρ i = ρ i := fun ρ => by unfold mask; rw [show an.ms.any (Nat.beq i) = true from hm]
  refine ⟨fun ρ => ⟨ρ i, [(r, res ρ)], fun _ => (ρ i).oneCell' = true⟩, ⟨fun d' hd' => by simp at hd'; subst hd'; simpa using hd, fun ρ => by rw [hmi, str], fun _ _ _ _ h => h, fun H' ρ Y a w h1 h2 h3 h4 h5 h6 h7 h8 K Q hK => ?_⟩, fun ρ => by rw [hw]; rfl, k⟩
  have hr' : r < N := by simpa using hr
  rw [if_pos (by simp [Region.wanted])]
  rw [looks_none] at h4
  refine (OpS.withOne r (h H' ρ Y h1 (factsO_of h2) (regsO_of h5)) (fun v H'' O'' ⟨_, e2, e3⟩ => ?_)) a w _ K Q rfl rfl (evk_ok h4) h6 ?_
  · obtain ⟨e, size, m, xs, he⟩ := hrow (upd ρ i v)
    refine ⟨e, size, m, xs, ?_⟩
    rw [e2, he, e3, setK (by omega), List.getElem?_append_left (by simp [h3, hr']), List.getElem?_set_self (by omega)]
  · rintro v w' H'' O'' hle ⟨⟨rfl, rfl, k3⟩, k4⟩ hw'
    rw [setK (by omega)] at hw'
    refine hK v w' _ _ hle hw' (by simp [h3]) (fun r' hr' => ?_) (fun r' x _ hx => ?_) (by show (upd ρ i v i).oneCell' = true; rw [k3]; exact k4) fun _ => k3
    · rw [hw] at hr'
      have hne : r ≠ r' := fun e => by subst e; simp [memB] at hr'
      rw [List.getElem?_set_ne hne]
    · simp only [lkR] at hx
      split at hx
      · rename_i hb
        have := Nat.eq_of_beq_eq_true hb
        subst this
        injection hx with hx
        subst hx
        simp [h3, hr']
      · cases hx
theorem SegO.op1n {op : Op} {T : TypeId} {pos : String} {af : Array Edge} {res : Rec → Res} (r : Nat) (hw : an.wr = [r]) (hr : Nat.blt r N = true) (hi : memB an.ms i = false) (str : ∀ ρ, res (mask an.ms ρ) = res ρ)
    (h : ∀ H' ρ Y, H.le H' → FactsO an i FF ρ H' → RegsO an XX O ρ Y → OpS P op T (evk (LL ρ) (looks op)) H' (Y ++ O) (fun _ H'' O'' => H'' = H' ∧ O'' = (Y ++ O).set r (res ρ)))
    (k : SegO P ops Q n N H O (i + 1) os aS LL (fun ρ => (XX ρ).set r (res ρ)) ((i, fun _ _ => True) :: FF)) :
    SegO P ops Q n N H O i ({ dst := none, op, type := T, pos, after := af, guard := none } :: os) (an :: aS) LL XX FF := by
  have e : ∀ ρ v, res (upd ρ i v) = res ρ := fun ρ v => by
    rw [← str (upd ρ i v), ← str ρ]
    exact congrArg res (mask_congr fun m hm => upd_ne fun e => by subst e; rw [memB_iff.2 hm] at hi; cases hi)
  refine ⟨fun ρ => ⟨undef, [(r, res ρ)], fun _ => True⟩, ⟨fun d' hd' => by simp at hd', fun ρ => by rw [str], fun _ _ _ _ h => h, fun H' ρ Y a w h1 h2 h3 h4 h5 h6 h7 h8 K Q hK => ?_⟩, fun ρ => by rw [hw]; rfl, k⟩
  have hr' : r < N := by simpa using hr
  rw [if_pos (by simp [Region.wanted])]
  rw [looks_none] at h4
  refine h H' ρ Y h1 (factsO_of h2) (regsO_of h5) a w _ K Q rfl rfl (evk_ok h4) h6 ?_
  rintro v w' H'' O'' hle ⟨rfl, rfl⟩ hw'
  rw [setK (by omega)] at hw'
  refine hK v w' _ _ hle hw' (by simp [h3]) (fun r' hr' => ?_) (fun r' x _ hx => ?_) trivial fun h => by cases h
  · rw [hw] at hr'
    have hne : r ≠ r' := fun e => by subst e; simp [memB] at hr'
    rw [List.getElem?_set_ne hne]
  · simp only [lkR] at hx
    split at hx
    · rename_i hb
      have := Nat.eq_of_beq_eq_true hb
      subst this
      injection hx with hx
      subst hx
      rw [e]
      simp [h3, hr']
    · cases hx
theorem SegO.opF {d : Tmp} {op : Op} {T : TypeId} {pos : String} {af : Array Edge} {val : Rec → Value} {fact : Rec → Hp → Prop} (hw : an.wr = []) (stv : ∀ ρ, val (mask an.ms ρ) = val ρ) (stf : ∀ ρ, fact (mask an.ms ρ) = fact ρ) (mono : ∀ ρ H' H'', H'.le H'' → fact ρ H' → fact ρ H'')
    (h : ∀ H' ρ Y, H.le H' → FactsO an i FF ρ H' → RegsO an XX O ρ Y → OpS P op T (evk (LL ρ) (looks op)) H' (Y ++ O) (fun v H'' O'' => (Y ++ O) = O'' ∧ fact (upd ρ i v) H'' ∧ val (upd ρ i v) = v)) (hd : Nat.blt d n = true)
    (k : SegO P ops Q n N H O (i + 1) os aS (fun ρ => (d, val ρ) :: LL ρ) XX ((i, fact) :: FF)) :
    SegO P ops Q n N H O i ({ dst := some d, op, type := T, pos, after := af, guard := none } :: os) (an :: aS) LL XX FF := by
  refine ⟨fun ρ => ⟨val ρ, [], fact ρ⟩, ⟨fun d' hd' => by simp at hd'; subst hd'; simpa using hd, fun ρ => by rw [stv, stf], mono, fun H' ρ Y a w h1 h2 h3 h4 h5 h6 h7 h8 K Q hK => ?_⟩, fun ρ => by rw [hw]; rfl, k⟩
  rw [if_pos (by simp [Region.wanted])]
  rw [looks_none] at h4
  refine h H' ρ Y h1 (factsO_of h2) (regsO_of h5) a w _ K Q rfl rfl (evk_ok h4) h6 ?_
  rintro v w' H'' O'' hle ⟨rfl, k2, k3⟩ hw'
  exact hK v w' _ Y hle hw' h3 (fun _ _ => rfl) (fun r x hr => by rw [hw] at hr; cases hr) k2 fun _ => k3
theorem SegO.opFG {d t j : Nat} {b : Bool} {op : Op} {T : TypeId} {pos : String} {af : Array Edge} {val : Rec → Value} {fact : Rec → Hp → Prop} (hj : guardSlot ops j = some t) (hb : ∀ ρ, lk (LL ρ) t = some (.bool b)) (hw : an.wr = []) (stv : ∀ ρ, val (mask an.ms ρ) = val ρ) (stf : ∀ ρ, fact (mask an.ms ρ) = fact ρ) (mono : ∀ ρ H' H'', H'.le H'' → fact ρ H' → fact ρ H'')
    (h : ∀ H' ρ Y, H.le H' → FactsO an i FF ρ H' → RegsO an XX O ρ Y → OpS P op T (evk (LL ρ) (looks op)) H' (Y ++ O) (fun v H'' O'' => (Y ++ O) = O'' ∧ fact (upd ρ i v) H'' ∧ val (upd ρ i v) = v)) (hd : Nat.blt d n = true)
    (k : SegO P ops Q n N H O (i + 1) os aS (fun ρ => (d, val ρ) :: LL ρ) XX ((i, fact) :: FF)) :
    SegO P ops Q n N H O i ({ dst := some d, op, type := T, pos, after := af, guard := some (j, b) } :: os) (an :: aS) LL XX FF := by
  refine ⟨fun ρ => ⟨val ρ, [], fact ρ⟩, ⟨fun d' hd' => by simp at hd'; subst hd'; simpa using hd, fun ρ => by rw [stv, stf], mono, fun H' ρ Y a w h1 h2 h3 h4 h5 h6 h7 h8 K Q hK => ?_⟩, fun ρ => by rw [hw]; rfl, k⟩
  rw [if_pos (by simp [Region.wanted, yields_of hj (hb ρ) h4])]
  refine h H' ρ Y h1 (factsO_of h2) (regsO_of h5) a w _ K Q rfl rfl (evk_ok fun t ht => h4 t (looks_sub ht)) h6 ?_
  rintro v w' H'' O'' hle ⟨rfl, k2, k3⟩ hw'
  exact hK v w' _ Y hle hw' h3 (fun _ _ => rfl) (fun r x hr => by rw [hw] at hr; cases hr) k2 fun _ => k3
end
section
variable {P : Program} {T : TypeId} {E : Operand → Option Value} {H : Hp} {O : List Res} {ρ : Rec} {i : Nat}
theorem OpS.allocR {t : TypeId} {size bytes : Nat} {z : Value} {cs : Array Value} (r : Nat) (hz : TI P t size bytes z) (hc : z.cells = cs) (hi : O[r]? = some .emp) :
    OpS P (.alloc t) T E H O (fun v H' O' => H' = H ∧ O' = O.set r (.blk (blkOf (upd ρ i v i)) (.cells cs t (0, 0))) ∧ ptr (blkOf (upd ρ i v i)) 0 = v) := .of_run fun a w o ho _ he hs => by
  refine ⟨ptr w.heap.size 0, w.alloc (.cells cs t), H, O.set r (.blk w.heap.size (.cells cs t)), ?_, Hp.le.refl H, ⟨rfl, by rw [upd_same]; rfl, by rw [upd_same]; rfl⟩, ?_⟩
  · subst hc
    simp [execOp, ho, Instr.alloc, hz.zeroValue, newVar, newRow, ptr]
  · exact hs.set hi (World.grownBy_alloc w _ _) (heap_alloc_new w _) (fun b hb => .inr (by simp only [Res.block, Option.some.injEq] at hb; omega))
theorem OpS.buildR {t e : TypeId} {len size bytes : Nat} {z : Value} {zs cs : Array Value} {ps : List (Nat × Operand)} {vs : List (Nat × Value)} (r : Nat) (ht : P.underlying t = some (.slice e)) (hz : TI P e size bytes z) (hzc : z.cells = zs)
    (hlen : Nat.ble (len * size) 16777216 = true) (h0 : Nat.blt 0 (len * size) = true) (hps : evp E ps = some vs) (hf : Instr.fill (fun i => some (i * size, size)) ((Array.range (len * size)).map (zs[· % zs.size]!)) vs = some cs) (hcs : cs.size = len * size) (hi : O[r]? = some .emp) :
    OpS P (.buildSlice t len ps.toArray) T E H O (fun v H' O' => H' = H ∧ O' = O.set r (.row (upd ρ i v i) e size len cs.toList) ∧ upd ρ i v i = v) := .of_run fun a w o ho _ he hs => by
  have h1 : (ps.toArray.map fun (i, x) => (i, a.eval x)).toList = vs := by simpa using evp_spec he hps
  have hlen' : ¬ len * size > 2 ^ 24 := by have := Nat.le_of_ble_eq_true hlen; omega
  have h0' : ¬ len * size = 0 := by simp at h0; omega
  refine ⟨.slice (some ⟨w.heap.size, 0, none⟩) len len, w.alloc (.cells cs e), H, _, ?_, Hp.le.refl H, ⟨rfl, by rw [upd_same], by rw [upd_same]⟩, hs.set hi (World.grownBy_alloc w _ _) ?_ (fun b hb => .inr (by simp [Res.block, Value.ownBlock] at hb; omega))⟩
  · simp only [execOp, ho, Instr.buildSlice, Sem.run_bind, sem_under ht, Result.andThen_ok, hz.sizeOf, if_neg hlen', if_neg h0', hz.zeroValue, hzc, Sem.run_pure, h1, hf]
    simp [newRow]
  · refine ⟨by simpa using hcs, .inr ⟨w.heap.size, len, cs, rfl, Nat.zero_le _, heap_alloc_new w _, Nat.le_refl _, ?_, hcs, ?_⟩⟩
    · have h2 := Nat.le_of_ble_eq_true hlen
      have h3 : len ≤ len * size := Nat.le_mul_of_pos_right _ (Nat.pos_of_ne_zero fun h => by subst h; simp at h0')
      simp only [maxLen]; omega
    · rw [List.take_of_length_le]; simp [hcs]
theorem OpS.buildR2 {t e : TypeId} {len size bytes : Nat} {z : Value} {zs cs : Array Value} {ps : List (Nat × Operand)} {vs : List (Nat × Value)} {vcs : List (Nat × Array Value)} (r : Nat) (ht : P.underlying t = some (.slice e)) (hz : TI P e size bytes z) (hzc : z.cells = zs)
    (hlen : Nat.ble (len * size) 16777216 = true) (h0 : Nat.blt 0 (len * size) = true) (hps : evp E ps = some vs) (hv : VC vs vcs) (hf : fillC (fun i => some (i * size, size)) ((Array.range (len * size)).map (zs[· % zs.size]!)) vcs = some cs) (hcs : cs.size = len * size) (hi : O[r]? = some .emp) :
    OpS P (.buildSlice t len ps.toArray) T E H O (fun v H' O' => H' = H ∧ O' = O.set r (.row (upd ρ i v i) e size len cs.toList) ∧ upd ρ i v i = v) :=
  OpS.buildR r ht hz hzc hlen h0 hps (by rw [fill_eq, hv]; exact hf) hcs hi
theorem OpS.buildR1 {t e : TypeId} {size bytes : Nat} {z v : Value} {cs : List Value} {x : Operand} (r : Nat) (ht : P.underlying t = some (.slice e)) (hz : TI P e size bytes z) (hlen : Nat.ble size 16777216 = true) (h0 : Nat.blt 0 size = true) (hx : E x = some v) (hc : v.cells.toList = cs) (hcs : cs.length = size) (hi : O[r]? = some .emp) :
    OpS P (.buildSlice t 1 #[(0, x)]) T E H O (fun v H' O' => H' = H ∧ O' = O.set r (.row (upd ρ i v i) e size 1 cs) ∧ upd ρ i v i = v) := by
  subst hc
  refine OpS.buildR (zs := z.cells) (cs := v.cells) (vs := [(0, v)]) (ps := [(0, x)]) r ht hz rfl (by simpa using hlen) (by simpa using h0) (by simp [evp, hx]) ?_ (by simpa using hcs) hi
  exact fill_one (by simp) (by simpa using hcs)
theorem OpS.appR {s x : Operand} {t e e2 : TypeId} {size bytes m m' : Nat} {z v y : Value} {xs ys : List Value} (r j : Nat) (ht : P.underlying t = some (.slice e)) (hz : TI P e size bytes z) (hzs : z.cells.size = size) (h0 : Nat.blt 0 size = true)
    (hs : E s = some v) (hx : E x = some y) (hi : O[r]? = some (.row v e size m xs)) (hj : O[j]? = some (.row y e2 size m' ys)) (h1 : ∀ u ∈ ys, u.oneCell' = true) (hb : Nat.ble bytes 64 = true) (hl : m + m' ≤ capN) :
    OpS P (.call { callee := .builtin .append, args := #[s, x], argTypes := #[t, t] }) T E H O (fun v' H' O' => H' = H ∧ O' = O.set r (.row (upd ρ i v' i) e size (m + m') (xs ++ ys)) ∧ upd ρ i v' i = v') := by
  have hb' := Nat.le_of_ble_eq_true hb
  have hbm : (m + m') * bytes ≤ 1099511627776 * 64 := Nat.mul_le_mul hl hb'
  refine (OpS.append ht hz hzs (by simpa using h0) hs hx hi (fun w hs => hs.srcRow hj) h1 (by omega) (by simp only [capN] at hl; omega)).mono ?_
  rintro v' H' O' ⟨rfl, rfl⟩
  exact ⟨rfl, by rw [upd_same], by rw [upd_same]⟩
theorem OpS.stR {x y : Operand} {t : TypeId} {v z : Value} {r B off bytes size : Nat} {cs cs' : Array Value} {e : TypeId} {vs : List Value} (hx : E x = some (ptr B off)) (hy : E y = some v) (hv : v.cells.toList = vs) (hsz : TI P t size bytes z) (hs : vs.length = size)
    (h1 : ∀ u ∈ vs, u.oneCell' = true) (hi : O[r]? = some (.blk B (.cells cs e (0, 0)))) (hfit : Nat.ble (off + vs.length) cs.size = true) (hcs : (spl cs.toList off vs).toArray = cs') :
    OpS P (.store t x y) T E H O (fun _ H' O' => H' = H ∧ O' = O.set r (.blk B (.cells cs' e (0, 0)))) := by
  subst hcs
  exact OpS.stBlk hx hy hv hsz hs h1 hi (Nat.le_of_ble_eq_true hfit)
theorem OpS.stRowR {x y : Operand} {t : TypeId} {v u z : Value} {r m size k bytes sz : Nat} {xs : List Value} {e : TypeId} {vs : List Value} (hx : E x = some (elemPtr v k)) (hy : E y = some u) (hv : u.cells.toList = vs) (hsz : TI P t sz bytes z) (hs : vs.length = sz) (h0 : Nat.blt 0 sz = true)
    (h1 : ∀ u ∈ vs, u.oneCell' = true) (hi : O[r]? = some (.row v e size m xs)) (hfit : k + vs.length ≤ xs.length) :
    OpS P (.store t x y) T E H O (fun _ H' O' => H' = H ∧ O' = O.set r (.row v e size m (spl xs k vs))) := OpS.stRow hx hy hv hsz hs (by simpa using h0) h1 hi hfit
end
section
variable {P : Program} {w : World} {H : Hp} {O : List Res} {f : FuncId} {vs : List Value}
theorem SH.front {i : Nat} {r : Res} (hi : O[i]? = some r) (h : SH w H O) : SH w H (r :: O.eraseIdx i) := by
  refine h.pick (fun j => if j = 0 then i else if j - 1 < i then j - 1 else j) (fun j s hs => ?_) (fun j k hj hk he => ?_)
  · cases j with
    | zero => simp at hs; subst hs; simpa using hi
    | succ j =>
      simp only [List.getElem?_cons_succ, List.getElem?_eraseIdx] at hs
      simp only [Nat.succ_ne_zero, if_false, Nat.add_sub_cancel]
      by_cases h1 : j < i
      · rw [if_pos h1] at hs ⊢; exact hs
      · rw [if_neg h1] at hs ⊢; exact hs
  · split at he <;> split at he <;> (try split at he) <;> (try split at he) <;> omega
theorem SH.back {i : Nat} {r : Res} (hi : i < O.length) (h : SH w H (r :: O.eraseIdx i)) : SH w H (O.set i r) := by
  refine h.pick (fun j => if j = i then 0 else if j < i then j + 1 else j) (fun j s hs => ?_) (fun j k hj hk he => ?_)
  · rw [List.getElem?_set] at hs
    by_cases e : j = i
    · subst e
      simp [hi] at hs
      simp [hs]
    · rw [if_neg (fun x => e x.symm)] at hs
      rw [if_neg e]
      by_cases h1 : j < i
      · rw [if_pos h1, List.getElem?_cons_succ, List.getElem?_eraseIdx, if_pos h1]; exact hs
      · rw [if_neg h1]
        obtain ⟨q, rfl⟩ : ∃ q, j = q + 1 := ⟨j - 1, by omega⟩
        rw [List.getElem?_cons_succ, List.getElem?_eraseIdx, if_neg (by omega)]; exact hs
  · split at he <;> split at he <;> (try split at he) <;> (try split at he) <;> omega
theorem set_self {i : Nat} {r : Res} (hi : O[i]? = some r) : O.set i r = O := by
  apply List.ext_getElem?
  intro j
  rw [List.getElem?_set]
  split
  · rename_i e; subst e
    have := (List.getElem?_eq_some_iff.1 hi).1
    simp [this] at hi ⊢; exact hi.symm
  · rfl
theorem TriV.at {v : Value} {r : Res} (i : Nat) (hi : O[i]? = some r) (h : TriV P f vs H (r :: O.eraseIdx i) v) : TriV P f vs H O v := fun w hs =>
  (h w (hs.front hi)).mono fun _ _ ⟨h1, h2⟩ => ⟨h1, by
    have := h2.back (List.getElem?_eq_some_iff.1 hi).1
    rwa [set_self hi] at this⟩
theorem Tri.atR {R : Value → Hp → Prop} {r : Res} (i : Nat) (hi : O[i]? = some r) (h : Tri P f vs H (r :: O.eraseIdx i) (fun v H' O' => R v H' ∧ r :: O.eraseIdx i = O')) : Tri P f vs H O (fun v H' O' => R v H' ∧ O = O') := fun w hs =>
  (h w (hs.front hi)).mono fun _ _ ⟨v, H', O', h1, h2, h3, h5, h6⟩ => by
    subst h6
    have := h3.back (List.getElem?_eq_some_iff.1 hi).1
    rw [set_self hi] at this
    exact ⟨v, H', O, h1, h2, this, h5, rfl⟩
theorem Tri.at {R : Value → Hp → Res → Prop} {r : Res} (i : Nat) (hi : O[i]? = some r) (h : Tri P f vs H (r :: O.eraseIdx i) (fun v H' O' => ∃ r', R v H' r' ∧ r' :: O.eraseIdx i = O')) : Tri P f vs H O (fun v H' O' => ∃ r', R v H' r' ∧ O.set i r' = O') := fun w hs =>
  (h w (hs.front hi)).mono fun _ _ ⟨v, H', O', h1, h2, h3, ⟨r', h4, h5⟩⟩ => by
    subst h5
    exact ⟨v, H', _, h1, h2, h3.back (List.getElem?_eq_some_iff.1 hi).1, r', h4, rfl⟩
end
end Go.GK
namespace Go.GK
section
variable {H : Hp} {O : List Res}
theorem SH.unpublish {w : World} {i b : Nat} {r : Res} {o : Obj} (hi : O[i]? = some r) (hb : r.block = some b) (hn : H.at_ b = none) (hr : ∀ w' : World, w'.heap[b]? = some o → r.ok w') (h : SH w (H.put b o) (O.eraseIdx i)) : SH w H O := by
  have hbo : (H.put b o).at_ b = some o := by simp [Hp.put]
  have hne : ∀ c o', H.at_ c = some o' → c ≠ b := fun c o' hc e => by subst e; rw [hn] at hc; cases hc
  have key : ∀ j s, O[j]? = some s → j ≠ i → ∃ k, (O.eraseIdx i)[k]? = some s ∧ k = (if j < i then j else j - 1) := fun j s hs hj => by
    refine ⟨_, ?_, rfl⟩
    rw [List.getElem?_eraseIdx]
    by_cases h1 : j < i
    · rw [if_pos h1, if_pos h1]; exact hs
    · rw [if_neg h1, if_neg (by omega), show j - 1 + 1 = j by omega]; exact hs
  have hdis : ∀ j s c, O[j]? = some s → j ≠ i → s.block = some c → c ≠ b ∧ H.at_ c = none := fun j s c hs hj hc => by
    obtain ⟨k, hk, _⟩ := key j s hs hj
    have h1 := h.dis k s c hk hc
    refine ⟨fun e => (by subst e; rw [hbo] at h1; cases h1), ?_⟩
    simp only [Hp.put] at h1
    split at h1
    · cases h1
    · exact h1
  refine ⟨fun c o' hc => h.imm c o' ?_, h.os, h.output, h.tape, fun j s hs => ?_, fun j s c hs hc => ?_, fun j k s s' c hs hs' hc hc' => ?_⟩
  · simp only [Hp.put]; rw [if_neg (hne c o' hc)]; exact hc
  · by_cases hj : j = i
    · subst hj; rw [hi] at hs; cases hs; exact hr w (h.imm b o hbo)
    · obtain ⟨k, hk, _⟩ := key j s hs hj
      exact h.ok k s hk
  · by_cases hj : j = i
    · subst hj; rw [hi] at hs; cases hs; rw [hb] at hc; cases hc; exact hn
    · exact (hdis j s c hs hj hc).2
  · by_cases hj : j = i
    · subst hj
      rw [hi] at hs; cases hs; rw [hb] at hc; cases hc
      by_cases hk : k = j
      · exact hk.symm
      · exact absurd rfl (hdis k s' b hs' hk hc').1
    · by_cases hk : k = i
      · subst hk
        rw [hi] at hs'; cases hs'; rw [hb] at hc'; cases hc'
        exact absurd rfl (hdis j s b hs hj hc).1
      · obtain ⟨j', h1, e1⟩ := key j s hs hj
        obtain ⟨k', h2, e2⟩ := key k s' hs' hk
        have := h.nd j' k' s s' c h1 h2 hc hc'
        rw [e1, e2] at this
        split at this <;> split at this <;> omega
theorem SH.lendRow {w : World} (hs : SH w H O) {i : Nat} {v : Value} {e : TypeId} {size n : Nat} {xs : List Value} (hi : O[i]? = some (.row v e size n xs)) :
    ∃ H', H.le H' ∧ SH w H' (O.eraseIdx i) ∧ Sl H' v size n xs ∧ ∀ w', SH w' H' (O.eraseIdx i) → SH w' H O := by
  have h := hs.ok i _ hi
  simp only [Res.ok] at h
  rcases h.2 with ⟨rfl, rfl⟩ | ⟨g, cap, cur, rfl, hg0, hg, hn, hcap, hcs, htake⟩
  · have : xs = [] := List.eq_nil_of_length_eq_zero (by simpa using h.1)
    subst this
    refine ⟨H, Hp.le.refl H, hs.drop i, Sl.nil H size, fun w' hw' => ?_⟩
    have hl := (List.getElem?_eq_some_iff.1 hi).1
    have h1 := (hw'.nilRow e size).back hl
    have h2 : O.set i (.row (.slice none 0 0) e size 0 []) = O := set_self hi
    rwa [h2] at h1
  · obtain ⟨h1, h2⟩ := hs.publish hi (b := g) rfl hg
    refine ⟨_, h1, h2, ⟨h.1, .inr ⟨_, _, rfl⟩, fun j u hj => ⟨⟨g, 0 + j, none⟩, cur, e, (0, 0), by simp only [elemPtr, Addr.add_lit], rfl, by simp [Hp.put], ?_⟩⟩, fun w' hw' => ?_⟩
    · rw [← htake] at hj
      rw [List.getElem?_take] at hj
      split at hj
      · simpa using hj
      · simp at hj
    · exact SH.unpublish hi rfl (hs.dis i _ g hi rfl) (fun w'' hw'' => ⟨h.1, .inr ⟨g, cap, cur, rfl, hg0, hw'', hn, hcap, hcs, htake⟩⟩) hw'
end
section
variable {P : Program} {H : Hp} {O : List Res} {α : Type}
theorem TriV.lend {f : FuncId} {vs : List Value} {r v : Value} {e : TypeId} {xs : List Value} {c : Cd α} {l : List α} (i : Nat) (hi : O[i]? = some (.row v e c.sz l.length xs)) (hL : LayL c H l xs)
    (k : ∀ H', H.le H' → SlD c H' l v → TriV P f vs H' (O.eraseIdx i) r) : TriV P f vs H O r := fun w hs => by
  obtain ⟨H', h1, h2, h3, h4⟩ := hs.lendRow hi
  exact (k H' h1 (SlD.of h3 rfl (hL.mono h1) (hs.rowLe hi)) w h2).mono fun _ w' ⟨he, hw⟩ => ⟨he, h4 w' hw⟩
end
section
variable {P : Program} {Q : Exit → Act → World → Prop} {n : Nat} {L : List (Nat × Value)} {H : Hp} {O : List Res} {T : TypeId}
theorem Seg.opSG {ops : Array Oper} {rest : List Oper} {d t : Tmp} {op : Op} {pos : String} {af : Array Edge} {j : Nat} {b : Bool} {R : Value → Hp → List Res → Prop} (hj : guardSlot ops j = some t) (hb : lk L t = some (.bool b))
    (h : OpS P op T (ev L) H O R) (hd : Nat.blt d n = true) (k : ∀ v H' O', H.le H' → R v H' O' → Seg P ops Q rest n ((d, v) :: L) H' O') :
    Seg P ops Q ({ dst := some d, op, type := T, pos, after := af, guard := some (j, b) } :: rest) n L H O := fun a w hf hs =>
  wpList_step fun K hK => by
    rw [if_pos (by simp [Region.wanted, yielded_of hj (hf.get t _ hb)])]
    exact h a w _ K Q rfl rfl (fun _ _ hx => hf.eval hx) hs fun v w' H' O' hle hr hw' => hK _ _ (k v H' O' hle hr _ _ (hf.put hd v) hw')
end
end Go.GK
namespace Go.GK
open Go.Maps
def fmGet {κ β : Type} [DecidableEq κ] : List (κ × β) → κ → Option β
  | [], _ => none
  | (k, v) :: m, x => if k = x then some v else fmGet m x
def fmSet {κ β : Type} [DecidableEq κ] : List (κ × β) → κ → β → List (κ × β)
  | [], _, _ => []
  | (k, v) :: m, x, y => if k = x then (k, y) :: m else (k, v) :: fmSet m x y
def fmPut {κ β : Type} [DecidableEq κ] (m : List (κ × β)) (x : κ) (y : β) : List (κ × β) := match fmGet m x with
  | some _ => fmSet m x y
  | none => m ++ [(x, y)]
section
variable {κ β : Type} [DecidableEq κ]
theorem fmSet_len (m : List (κ × β)) (x : κ) (y : β) : (fmSet m x y).length = m.length := by
  induction m with
  | nil => rfl
  | cons p m ih => obtain ⟨k, v⟩ := p; simp only [fmSet]; split <;> simp [ih]
theorem fmGet_set (m : List (κ × β)) (x z : κ) (y : β) : fmGet (fmSet m x y) z = if z = x then (fmGet m x).map (fun _ => y) else fmGet m z := by
  induction m with
  | nil => simp [fmGet, fmSet]
  | cons p m ih =>
    obtain ⟨k, v⟩ := p
    simp only [fmSet]
    by_cases h : k = x
    · subst h
      by_cases hz : z = k
      · subst hz; simp [fmGet]
      · have : ¬ k = z := fun e => hz e.symm
        simp [fmGet, hz, this]
    · rw [if_neg h]
      simp only [fmGet]
      by_cases hz : z = x
      · subst hz; simp [h, ih]
      · by_cases hk : k = z
        · subst hk; simp [hz]
        · simp [hk, ih, hz]
theorem fmGet_app (m : List (κ × β)) (x z : κ) (y : β) (h : fmGet m x = none) : fmGet (m ++ [(x, y)]) z = if z = x then some y else fmGet m z := by
  induction m with
  | nil =>
    by_cases hz : z = x
    · subst hz; simp [fmGet]
    · have : ¬ x = z := fun e => hz e.symm
      simp [fmGet, hz, this]
  | cons p m ih =>
    obtain ⟨k, v⟩ := p
    simp only [fmGet] at h
    split at h
    · cases h
    · rename_i hk
      simp only [List.cons_append, fmGet]
      by_cases hz : z = x
      · subst hz; simp [hk, ih h]
      · by_cases hkz : k = z
        · subst hkz; simp [hz]
        · simp [hkz, ih h, hz]
theorem fmGet_put (m : List (κ × β)) (x z : κ) (y : β) : fmGet (fmPut m x y) z = if z = x then some y else fmGet m z := by
  unfold fmPut
  cases h : fmGet m x with
  | none => exact fmGet_app m x z y h
  | some v => rw [fmGet_set, h]; rfl
theorem fmPut_len (m : List (κ × β)) (x : κ) (y : β) : (fmPut m x y).length = if (fmGet m x).isSome then m.length else m.length + 1 := by
  unfold fmPut
  cases h : fmGet m x with
  | none => simp
  | some v => simp [fmSet_len]
end
structure MKey (P : Program) (kt : TypeId) (κ : Type) where
  val : κ → Value
  lit : κ → Lit
  ok : κ → Prop
  keyed : Keyed P kt
  of : ∀ k, ok k → keyOf P kt (val k) = some (lit k)
  key : ∀ k, WideAt.IsKeyLit (lit k)
  inj : ∀ k k', lit k = lit k' → k = k'
structure MElem (P : Program) (et : TypeId) (β : Type) where
  val : β → Value
  dat : β → DataW Unit
  ok : β → Prop
  of : ∀ b, ok b → plainElem P et (val b) = some (dat b, [])
  inv : ∀ v b ps, plainElem P et v = some (dat b, ps) → v = val b
  one : ∀ b, (val b).oneCell' = true
theorem wf64 {n : Int} (h : F64 n) : (Lit.int .i64 n).wf = true := by
  simp only [F64] at h
  simp [Lit.wf, IntKind.min, IntKind.max, IntKind.signed, IntKind.bits]
  omega
def mkI {P : Program} {kt : TypeId} (h : P.underlying kt = some (.int .i64)) : MKey P kt Int where
  val n := .int .i64 n
  lit n := .int .i64 n
  ok n := F64 n
  keyed := int_keyed h
  of k hk := keyOf_int_mk h (wf64 hk)
  key _ := trivial
  inj _ _ h := by injection h
def mkS {P : Program} {kt : TypeId} (h : P.underlying kt = some .string) : MKey P kt Str where
  val s := sv s
  lit s := .string s
  ok s := s.length ≤ capN
  keyed := string_keyed h
  of k hk := by
    have := Go.WideMaps.keyOf_string_mk (s := ⟨⟨k⟩⟩) h (by
      show k.length ≤ maxLen
      simp only [capN, maxLen] at *; omega)
    exact this
  key _ := trivial
  inj _ _ h := by injection h
def meI {P : Program} {et : TypeId} (h : P.underlying et = some (.int .i64)) : MElem P et Int where
  val n := .int .i64 n
  dat n := .lit (.int .i64 n)
  ok n := F64 n
  of b hb := plainElem_int h (wf64 hb)
  inv v b ps hv := by
    obtain ⟨a, rfl, h2, _⟩ := plainElem_int_inv h hv
    simp only [Prod.mk.injEq, DataW.lit.injEq, Lit.int.injEq, true_and] at h2
    rw [h2.1]
  one _ := rfl
def meB {P : Program} {et : TypeId} (h : P.underlying et = some .bool) : MElem P et Bool where
  val b := .bool b
  dat b := .lit (.bool b)
  ok _ := True
  of b _ := plainElem_bool h b
  inv v b ps hv := by
    unfold plainElem at hv
    rw [h] at hv
    cases v <;> simp at hv
    rw [hv.1]
  one _ := rfl
section
variable {P : Program} {kt et : TypeId} {κ β : Type} [DecidableEq κ]
def MapOk (K : MKey P kt κ) (E : MElem P et β) (b : Nat) (m : List (κ × β)) (w : World) : Prop :=
  ∃ D : DataW Unit, w.ownsMap P kt (plainElem P et) b m.length D ∧ Maps.size D = m.length ∧ (∀ k, Maps.has D (K.lit k) = (fmGet m k).isSome) ∧ ∀ k x, fmGet m k = some x → ∀ z, D.atKey (K.lit k) z = E.dat x
def mapR (K : MKey P kt κ) (E : MElem P et β) (b : Nat) (m : List (κ × β)) : Res :=
  .own b (MapOk K E b m) (fun _ ⟨_, h, _⟩ => h.lt) (fun _ _ _ ⟨D, h, h2⟩ hg hne => ⟨D, h.kept hg (fun e => hne e.symm), h2⟩)
end
section
variable {P : Program} {kt et : TypeId} {κ β : Type} [DecidableEq κ] {K : MKey P kt κ} {M : MElem P et β}
variable {T : TypeId} {E : Operand → Option Value} {H : Hp} {O : List Res} {t : TypeId}
theorem OpT.lookup {x y : Operand} {b i bytes : Nat} {m : List (κ × β)} {k : κ} {z : β} (ht : P.underlying t = some (.map kt et)) (hz : TI P et 1 bytes (M.val z)) (hzo : M.ok z) (hx : E x = some (.map (some b))) (hy : E y = some (K.val k)) (hk : K.ok k) (hi : O[i]? = some (mapR K M b m)) :
    OpT P (.lookup t x y false) T E H O (M.val ((fmGet m k).getD z)) := .of_run fun ac w o ho _ he hs => by
  obtain ⟨D, h1, h2, h3, h4⟩ : MapOk K M b m w := hs.ok i _ hi
  obtain ⟨v, ps, hrun, hv⟩ := h1.lookup K.keyed ht hz.zeroValue (M.of z hzo) (K.of k hk)
  have e : v = M.val ((fmGet m k).getD z) := by
    refine M.inv v _ ps ?_
    rw [hv]
    cases hg : fmGet m k with
    | none =>
      have := h3 k; rw [hg] at this
      rw [Maps.atKey_of_not_has this]; rfl
    | some u => rw [h4 k u hg]; rfl
  subst e
  simp [execOp, ho, he x _ hx, he y _ hy, hrun]
theorem OpT.lookupOk {x y : Operand} {b i bytes : Nat} {m : List (κ × β)} {k : κ} {z : β} (ht : P.underlying t = some (.map kt et)) (hz : TI P et 1 bytes (M.val z)) (hzo : M.ok z) (hx : E x = some (.map (some b))) (hy : E y = some (K.val k)) (hk : K.ok k) (hi : O[i]? = some (mapR K M b m)) :
    OpT P (.lookup t x y true) T E H O (.tuple #[M.val ((fmGet m k).getD z), .bool (fmGet m k).isSome]) := .of_run fun ac w o ho _ he hs => by
  obtain ⟨D, h1, h2, h3, h4⟩ : MapOk K M b m w := hs.ok i _ hi
  obtain ⟨v, ps, hrun, hv⟩ := h1.look_ok K.keyed ht hz.zeroValue (M.of z hzo) (K.of k hk)
  have e : v = M.val ((fmGet m k).getD z) := by
    refine M.inv v _ ps ?_
    rw [hv]
    cases hg : fmGet m k with
    | none =>
      have := h3 k; rw [hg] at this
      rw [Maps.atKey_of_not_has this]; rfl
    | some u => rw [h4 k u hg]; rfl
  subst e
  rw [h3 k] at hrun
  simp [execOp, ho, he x _ hx, he y _ hy, hrun]
theorem OpT.lenMap {x : Operand} {b i : Nat} {m : List (κ × β)} (ht : P.underlying t = some (.map kt et)) (hx : E x = some (.map (some b))) (hi : O[i]? = some (mapR K M b m)) :
    OpT P (.call { callee := .builtin .len, args := #[x], argTypes := #[t] }) T E H O (.int .i64 ((m.length : Nat) : Int)) := .of_run fun ac w o ho _ he hs => by
  obtain ⟨D, h1, h2, h3, h4⟩ : MapOk K M b m w := hs.ok i _ hi
  have := h1.len ht o.type
  rw [h2] at this
  simp [execOp, ho, he x _ hx, resolve, invoke, builtin, this]
theorem MapOk.store {w : World} {b : Nat} {m : List (κ × β)} (h : MapOk K M b m w) (ht : P.underlying t = some (.map kt et)) {k : κ} {v : β} (hk : K.ok k) (hv : M.ok v) (hn : m.length ≤ capN) :
    ∃ w', (Instr.mapUpdate t (.map (some b)) (K.val k) (M.val v)).run P w = .ok () w' ∧ MapOk K M b (fmPut m k v) w' ∧ w.grownBy w' (some b) := by
  obtain ⟨D, h1, h2, h3, h4⟩ := h
  obtain ⟨w', g1, g2, g3⟩ := h1.update K.keyed ht (by simp only [capN, maxLen] at *; omega) (K.of k hk) (M.of v hv)
  have hsz : Maps.size (D.put (K.lit k) (M.dat v)) = (fmPut m k v).length := by
    rw [Maps.size_put (h1.tidy K.keyed), h3 k, h2, fmPut_len]
  refine ⟨w', g1, ⟨_, ?_, hsz, fun k' => ?_, fun k' x hx z => ?_⟩, g3⟩
  · obtain ⟨es, clock, q1, q2, q3, q4⟩ := g2
    refine ⟨es, clock, q1, q2, ?_, q4⟩
    have : Maps.size (D.put (K.lit k) (M.dat v)) = es.size := by rw [q4]; exact Go.length_read es
    rw [← hsz, this]; exact Nat.le_refl _
  · rw [fmGet_put]
    by_cases e : k' = k
    · subst e; rw [if_pos rfl, Maps.has_put_same h1.isMap (K.key _)]; rfl
    · rw [if_neg e, Maps.has_put_other (fun x => e (K.inj _ _ x)), h3]
  · rw [fmGet_put] at hx
    by_cases e : k' = k
    · subst e; rw [if_pos rfl] at hx; injection hx with hx; subst hx
      exact Maps.atKey_put_same h1.isMap (K.key _) _ _
    · rw [if_neg e] at hx
      rw [Maps.atKey_put_other (fun x => e (K.inj _ _ x))]
      exact h4 k' x hx z
theorem OpS.mapUpdate {x y u : Operand} {b i : Nat} {m : List (κ × β)} {k : κ} {v : β} (ht : P.underlying t = some (.map kt et)) (hx : E x = some (.map (some b))) (hy : E y = some (K.val k)) (hu : E u = some (M.val v)) (hk : K.ok k) (hv : M.ok v) (hn : m.length ≤ capN) (hi : O[i]? = some (mapR K M b m)) :
    OpS P (.mapUpdate t x y u) T E H O (fun _ H' O' => H' = H ∧ O' = O.set i (mapR K M b (fmPut m k v))) := .of_skip fun a w o ho _ he hs => by
  obtain ⟨w', g1, g2, g3⟩ := MapOk.store (hs.ok i _ hi) ht hk hv hn
  refine ⟨w', H, _, ?_, Hp.le.refl H, ⟨rfl, rfl⟩, hs.set hi g3 g2 (fun c hc => .inl hc)⟩
  simp [execOp, ho, he x _ hx, he y _ hy, he u _ hu, g1]
theorem OpS.insert {x y u : Operand} {b i : Nat} {m : List (κ × β)} {k : κ} {v : β} (ht : P.underlying t = some (.map kt et)) (hx : E x = some (.map (some b))) (hy : E y = some (K.val k)) (hu : E u = some (M.val v)) (hk : K.ok k) (hv : M.ok v) (hn : m.length ≤ capN) (hi : O[i]? = some (mapR K M b m)) :
    OpS P (.insert t x y u) T E H O (fun _ H' O' => H' = H ∧ O' = O.set i (mapR K M b (fmPut m k v))) := .of_skip fun a w o ho _ he hs => by
  obtain ⟨w', g1, g2, g3⟩ := MapOk.store (hs.ok i _ hi) ht hk hv hn
  refine ⟨w', H, _, ?_, Hp.le.refl H, ⟨rfl, rfl⟩, hs.set hi g3 g2 (fun c hc => .inl hc)⟩
  simp [execOp, ho, he x _ hx, he y _ hy, he u _ hu, g1]
theorem OpS.makeMap (K : MKey P kt κ) (M : MElem P et β) : OpS P (.makeMap t none) T E H O (fun v H' O' => ∃ B, v = .map (some B) ∧ H' = H ∧ O' = mapR K M B [] :: O) := .of_run fun a w o ho _ he hs => by
  refine ⟨.map (some w.heap.size), w.alloc (.map #[] 0), H, mapR K M w.heap.size [] :: O, ?_, Hp.le.refl H, ⟨_, rfl, rfl, rfl⟩, hs.push (World.grownBy_alloc w _ none) ?_ (fun b hb => by simp only [mapR, Res.block, Option.some.injEq] at hb; omega)⟩
  · simp [execOp, ho, Go.RowKit.run_makeMap]
  · exact ⟨.map [], World.ownsMap_made w P kt _, rfl, fun k => rfl, fun k x h => by cases h⟩
end
section
variable {P : Program} {kt et : TypeId} {κ β : Type} [DecidableEq κ]
variable {Q : Exit → Act → World → Prop} {n : Nat} {L : List (Nat × Value)} {H : Hp} {O : List Res} {ops : Array Oper} {rest : List Oper} {T t : TypeId}
theorem Seg.makeMap {d : Tmp} {pos : String} {af : Array Edge} (K : MKey P kt κ) (M : MElem P et β) (hd : Nat.blt d n = true) (k : ∀ B, Seg P ops Q rest n ((d, .map (some B)) :: L) H (mapR K M B [] :: O)) :
    Seg P ops Q ({ dst := some d, op := .makeMap t none, type := T, pos, after := af, guard := none } :: rest) n L H O :=
  Seg.opS (OpS.makeMap K M) hd (by rintro v H' O' _ ⟨B, rfl, rfl, rfl⟩; exact k B)
theorem Seg.mapUpdate {pos : String} {af : Array Edge} {K : MKey P kt κ} {M : MElem P et β} {x y u : Operand} {b : Nat} {m : List (κ × β)} {k : κ} {v : β} (i : Nat) (ht : P.underlying t = some (.map kt et)) (hx : ev L x = some (.map (some b))) (hy : ev L y = some (K.val k)) (hu : ev L u = some (M.val v)) (hk : K.ok k) (hv : M.ok v) (hn : m.length ≤ capN) (hi : O[i]? = some (mapR K M b m))
    (kk : Seg P ops Q rest n L H (O.set i (mapR K M b (fmPut m k v)))) :
    Seg P ops Q ({ dst := none, op := .mapUpdate t x y u, type := T, pos, after := af, guard := none } :: rest) n L H O :=
  Seg.opS0 (OpS.mapUpdate ht hx hy hu hk hv hn hi) (by rintro v H' O' _ ⟨rfl, rfl⟩; exact kk)
theorem Seg.insert {pos : String} {af : Array Edge} {K : MKey P kt κ} {M : MElem P et β} {x y u : Operand} {b : Nat} {m : List (κ × β)} {k : κ} {v : β} (i : Nat) (ht : P.underlying t = some (.map kt et)) (hx : ev L x = some (.map (some b))) (hy : ev L y = some (K.val k)) (hu : ev L u = some (M.val v)) (hk : K.ok k) (hv : M.ok v) (hn : m.length ≤ capN) (hi : O[i]? = some (mapR K M b m))
    (kk : Seg P ops Q rest n L H (O.set i (mapR K M b (fmPut m k v)))) :
    Seg P ops Q ({ dst := none, op := .insert t x y u, type := T, pos, after := af, guard := none } :: rest) n L H O :=
  Seg.opS0 (OpS.insert ht hx hy hu hk hv hn hi) (by rintro v H' O' _ ⟨rfl, rfl⟩; exact kk)
end
section
variable {P : Program} {T : TypeId} {E : Operand → Option Value} {H : Hp} {O : List Res}
theorem OpT.makeFunc {fn : Fn} {fs cs : List Operand} {vf vc : List Value} (hf : evlE E fs = some vf) (hc : evlE E cs = some vc) : OpT P (.makeFunc fn fs.toArray cs.toArray) T E H O (.func fn vf.toArray vc.toArray) := .of_run fun a w o ho _ he _ => by
  have h1 := evlE_spec (a := a) he hf
  have h2 := evlE_spec (a := a) he hc
  simp [execOp, ho, Instr.makeFunc, h1, h2]
theorem OpT.callC {x : Operand} {f : FuncId} {first : List Value} {args : List Operand} {vs : List Value} {tys : Array TypeId} {v : Value} (hent : Ent P f) (hx : E x = some (.func (.func f) first.toArray #[])) (ha : evlE E args = some vs) (ht : TriV P f (first ++ vs) H O v) : OpT P (.call { callee := .value x, args := args.toArray, argTypes := tys }) T E H O v := fun a w o ho _ he hs => by
  have hr : (execOp a.eval o).run P w = .ok (.enter f (first ++ vs).toArray) w := by
    have := hent.run (first ++ vs).toArray w
    simp [execOp, ho, resolve, Deferred.ofValue, he x _ hx, invoke, evlE_spec he ha] at this ⊢
    rw [this]
  simp only [Oper.quietAt, hr, Oper.quietUpon, true_and]
  exact ht w hs
end
end Go.GK
namespace Go.GK
def cBy : Cd UInt8 where
  sz := 1
  Lay _ b cs := cs = [.int .u8 (b.toNat : Nat)]
  len h := by subst h; rfl
  mono _ h := h
  one h := by subst h; intro u hu; simp at hu; subst hu; rfl
theorem layBy {H : Hp} : ∀ {l : Str} {xs : List Value}, LayL cBy H l xs ↔ xs = Lib.byteCells l
  | [], xs => Iff.rfl
  | b :: l, xs => by
    constructor
    · rintro ⟨cs, ys, rfl, h1, h2⟩
      rw [show cs = [.int .u8 (b.toNat : Nat)] from h1, layBy.1 h2]; rfl
    · intro h; exact ⟨[.int .u8 (b.toNat : Nat)], Lib.byteCells l, h, rfl, layBy.2 rfl⟩
section
variable {P : Program} {T : TypeId} {E : Operand → Option Value} {H : Hp} {O : List Res}
theorem OpS.appStr {s x : Operand} {t u e : TypeId} {v : Value} {i : Nat} {l str : Str} {xs : List Value} (ht : P.underlying t = some (.slice e)) (hu : P.underlying u = some .string) (hz : TI P e 1 1 (.int .u8 0)) (hs : E s = some v) (hx : E x = some (sv str))
    (hi : O[i]? = some (.row v e 1 l.length xs)) (hL : LayL cBy H l xs) (hv : v = .slice none 0 0 ∨ l ≠ []) (hb : l.length + str.length ≤ capN) :
    OpS P (.call { callee := .builtin .append, args := #[s, x], argTypes := #[t, u] }) T E H O (fun v' H' O' => H' = H ∧ (v' = .slice none 0 0 ∨ l ++ str ≠ []) ∧ LayL cBy H (l ++ str) (xs ++ Lib.byteCells str) ∧ O' = O.set i (.row v' e 1 (l ++ str).length (xs ++ Lib.byteCells str))) := by
  intro a w o next Q ho hT he hw k
  have hown := hw.ok i _ hi
  simp only [Res.ok] at hown
  obtain ⟨ii, hii, g1, g2, g3⟩ := hz.ex
  have hsz : (ByteArray.mk (Array.mk str)).size = str.length := rfl
  have hsc : Lib.strCells (ByteArray.mk (Array.mk str)) = Lib.byteCells str := rfl
  obtain ⟨v', w', hr, k1, k2, k3⟩ := Lib.run_append_own_string (P := P) w 0 t u o.type e ii ht hu hii g3 g1 g2 v l.length xs hown ⟨⟨str⟩⟩ (by rw [hsz]; simp only [maxLen, capN] at *; omega) (by rw [hsz]; simp only [capN] at *; omega) (Nat.zero_le _)
  rw [hsz, hsc] at k1
  rw [hsz] at k3
  have hL' : LayL cBy H (l ++ str) (xs ++ Lib.byteCells str) := hL.app (layBy.2 rfl)
  unfold Oper.wp
  simp only [sv] at hx
  simp [execOp, ho, resolve, invoke, builtin, he s _ hs, he x _ hx, hr, Result.andThen]
  refine k v' w' H _ (Hp.le.refl H) ⟨rfl, ?_, hL', rfl⟩ (hw.set hi k2 (by rw [List.length_append]; exact k1) (fun b hb' => ?_))
  · by_cases h : l ++ str = []
    · left
      simp at h
      obtain ⟨rfl, rfl⟩ := h
      rcases hv with hv | hv
      · exact k3.2 ⟨hv, rfl⟩
      · exact absurd rfl hv
    · exact .inr h
  · rcases hown.2 with ⟨rfl, hl0⟩ | ⟨g, cap, cur, rfl, _, hg, hnc, hcm, hcs, htake⟩
    · right
      have hx0 : xs = [] := List.eq_nil_of_length_eq_zero (by rw [hown.1, hl0, Nat.zero_mul])
      subst hx0
      obtain ⟨v2, w2, hr2, q1, _, _⟩ := Lib.run_append_own_string (P := P) w w.heap.size t u o.type e ii ht hu hii g3 g1 g2 (.slice none 0 0) 0 [] (World.ownsRow_nil w _ e _) ⟨⟨str⟩⟩ (by rw [hsz]; simp only [maxLen, capN] at *; omega) (by rw [hsz]; simp only [capN] at *; omega) (Nat.le_refl _)
      rw [hr] at hr2
      injection hr2 with e1 e2
      subst e1; subst e2
      exact (World.ownsRow.lt q1 b hb').1
    · by_cases hroom : l.length + str.length ≤ cap
      · left
        have hr2 := Lib.run_append_room_string (P := P) w t u o.type e ii ht hu hii g1 g l.length cap cur hg ⟨⟨str⟩⟩ hroom (by rw [hsz]; simp at hcs; omega)
        rw [hr] at hr2
        injection hr2 with e1 e2
        rw [e1] at hb'
        exact hb'
      · right
        have hcc : capN = 1099511627776 := rfl
        have hr2 := Lib.run_append_grow_string (P := P) w t u o.type e ii (.int .u8 0) ht hu hii g3 ⟨g, 0, none⟩ l.length cap xs (by rw [hown.1, g1]) (hown.cells (g := g) rfl) ⟨⟨str⟩⟩ (by rw [hsz]; omega) (by rw [hsz]; simp only [capN] at *; omega) (by rw [g2, hsz]; exact growslice_fits (by simp only [capN] at *; omega) (by simp only [capN] at *; omega))
        rw [hr] at hr2
        injection hr2 with e1 e2
        rw [e1] at hb'
        simp [Res.block, Value.ownBlock] at hb'
        omega
theorem OpT.eqNil {x y : Operand} {t Ty : TypeId} {te : TypeId} {j : TypeInfo} (hp : P.underlying t = some (.pointer te)) (hj : P.info? te = some j) (hx : E x = some (.pointer none)) (hy : E y = some (.pointer none)) : OpT P (.binOp .eql t x y Ty) T E H O (.bool true) := .of_run fun a w o ho _ he _ => by
  have h : (binOp .eql t (.pointer none) (.pointer none)).run P w = .ok (.bool true) w := by
    have h : ∀ d : Nat, (Op.equalIn (d + 1) t (.pointer none) (.pointer none)).run P w = .ok true w := fun d => by
      simp [Op.equalIn, sem_under hp, sizeOf, typeInfo, hj, sameAddr]
    simp only [binOp]
    show (do pure (.bool (← Op.equal t _ _)) : Sem Value).run P w = _
    unfold Op.equal Op.maxDepth
    simp [h 9999]
  simp [execOp, ho, he x _ hx, he y _ hy, eqGuard, h]
theorem OpT.eqNilS {x y : Operand} {t Ty : TypeId} {te : TypeId} {j : TypeInfo} {a : Addr} (hp : P.underlying t = some (.pointer te)) (hj : P.info? te = some j) (hx : E x = some (.pointer (some a))) (hy : E y = some (.pointer none)) : OpT P (.binOp .eql t x y Ty) T E H O (.bool false) := .of_run fun ac w o ho _ he _ => by
  have h : (binOp .eql t (.pointer (some a)) (.pointer none)).run P w = .ok (.bool false) w := by
    have h : ∀ d : Nat, (Op.equalIn (d + 1) t (.pointer (some a)) (.pointer none)).run P w = .ok false w := fun d => by
      simp [Op.equalIn, sem_under hp, sizeOf, typeInfo, hj, sameAddr]
    simp only [binOp]
    show (do pure (.bool (← Op.equal t _ _)) : Sem Value).run P w = _
    unfold Op.equal Op.maxDepth
    simp [h 9999]
  simp [execOp, ho, he x _ hx, he y _ hy, eqGuard, h]
theorem OpT.neSame {x y : Operand} {t Ty : TypeId} {te : TypeId} {j : TypeInfo} {b off : Nat} (hp : P.underlying t = some (.pointer te)) (hj : P.info? te = some j) (hx : E x = some (ptr b off)) (hy : E y = some (ptr b off)) : OpT P (.binOp .neq t x y Ty) T E H O (.bool false) := .of_run fun ac w o ho _ he _ => by
  have h := Lib.run_neq_ptr_same (P := P) w (tp := t) ⟨b, off, none⟩ hp hj
  simp only [ptr] at hx hy
  simp [execOp, ho, he x _ hx, he y _ hy, eqGuard, h]
theorem OpT.toUnsafe {x : Operand} {src dst t e : TypeId} {j : TypeInfo} {b i : Nat} {cs : Array Value} (hs : P.underlying src = some (.pointer t)) (hd : P.underlying dst = some .unsafePointer) (ht : P.info? t = some j) (hj : j.size ≠ 0) (hx : E x = some (ptr b 0)) (hi : O[i]? = some (.blk b (.cells cs e (0, 0)))) (h0 : 0 < cs.size) : OpT P (.convert src dst x) T E H O (ptr b 0) := .of_run fun ac w o ho _ he hw => by
  have hg := hw.ok i _ hi
  simp only [Res.ok] at hg
  have h := Lib.run_to_unsafe (P := P) w (src := src) (dst := dst) (cells := cs.size) (e := e) ⟨b, 0, none⟩ hs hd ht hj (by simp [World.shape?, hg]) h0
  simp only [ptr] at hx
  simp [execOp, ho, he x _ hx, h, ptr]
theorem OpT.ofUnsafe {x : Operand} {src dst u e : TypeId} {j : TypeInfo} {b i : Nat} {cs : Array Value} (hs : P.underlying src = some .unsafePointer) (hd : P.underlying dst = some (.pointer u)) (hu : P.info? u = some j) (hx : E x = some (ptr b 0)) (hi : O[i]? = some (.blk b (.cells cs e (0, 0)))) (hl : liesAt P P.depth e (cs.size / P.cellsOf e) 0 u 1 = true) : OpT P (.convert src dst x) T E H O (ptr b 0) := .of_run fun ac w o ho _ he hw => by
  have hg := hw.ok i _ hi
  simp only [Res.ok] at hg
  have h := Lib.run_from_unsafe (P := P) w (src := src) (dst := dst) (cells := cs.size) (e := e) ⟨b, 0, none⟩ hs hd hu (by simp [World.shape?, hg]) hl
  simp only [ptr] at hx
  simp [execOp, ho, he x _ hx, h, ptr]
theorem OpT.noEscape {x : Operand} {f : FuncId} {fn : Func} {v : Value} {tys : Array TypeId} (hf : P.funcs[f]? = some fn) (hname : (fn.name == "runtime.NumGoroutine") = false) (hb : fn.body.isNone = true) (hn : Extern.findNext fn = none) (he' : Extern.find fn = some Extern.AbiNoEscape.same) (hx : E x = some v) :
    OpT P (.call { callee := .value (.func f), args := #[x], argTypes := tys }) T E H O v := .of_run fun ac w o ho _ he hw => by
  have h := run_callFunc_extern hf hname hb hn he' #[v] w
  rw [Lib.run_noEscape] at h
  have hev : ac.eval (.func f) = .func (.func f) #[] #[] := rfl
  simp [execOp, ho, resolve, Deferred.ofValue, hev, invoke, he x _ hx, h]
theorem OpT.sliceDataNil {x : Operand} {t : TypeId} (hx : E x = some (.slice none 0 0)) : OpT P (.call { callee := .builtin .unsafeSliceData, args := #[x], argTypes := #[t] }) T E H O (.pointer none) := .of_run fun ac w o ho _ he hw => by
  have h := Lib.run_unsafeSliceData_nil (P := P) w #[t] o.type 0 0
  simp [execOp, ho, resolve, invoke, builtin, he x _ hx, h]
theorem OpT.sliceData {x : Operand} {t e : TypeId} {v : Value} {i n : Nat} {xs : List Value} (hx : E x = some v) (hi : O[i]? = some (.row v e 1 n xs)) (h0 : 0 < n) : OpT P (.call { callee := .builtin .unsafeSliceData, args := #[x], argTypes := #[t] }) T E H O (elemPtr v 0) := .of_run fun ac w o ho _ he hw => by
  have hown := hw.ok i _ hi
  simp only [Res.ok] at hown
  rcases hown.2 with ⟨_, hz⟩ | ⟨g, cap, cur, rfl, _, hg, hnc, hcm, hcs, htake⟩
  · omega
  · have h := Lib.run_unsafeSliceData_row (P := P) w #[t] o.type ⟨g, 0, none⟩ n cap (by omega)
    simp [execOp, ho, resolve, invoke, builtin, he x _ hx, h, elemPtr, Addr.add]
theorem OpT.unsafeStringNil {x y : Operand} {pt it : TypeId} {p : Option Addr} (hx : E x = some (.pointer p)) (hy : E y = some (.int .i64 0)) : OpT P (.call { callee := .builtin .unsafeString, args := #[x, y], argTypes := #[pt, it] }) T E H O (sv []) := .of_run fun ac w o ho _ he hw => by
  have h := Lib.run_unsafeString_none (P := P) w pt it o.type p
  simp [execOp, ho, resolve, invoke, builtin, he x _ hx, he y _ hy, h]
  rfl
theorem OpS.unsafeString {x y : Operand} {pt it e : TypeId} {v : Value} {i : Nat} {l : Str} {xs : List Value} (hp : P.underlying pt = some (.pointer e)) (hc : P.cellsOf e = 1) (hx : E x = some (elemPtr v 0)) (hy : E y = some (.int .i64 (l.length : Nat))) (hi : O[i]? = some (.row v e 1 l.length xs)) (hL : LayL cBy H l xs) (h0 : l ≠ []) :
    OpS P (.call { callee := .builtin .unsafeString, args := #[x, y], argTypes := #[pt, it] }) T E H O (fun u H' O' => H' = H ∧ O' = O.set i .emp ∧ u = sv l) := .of_run fun ac w o ho _ he hw => by
  have hown := hw.ok i _ hi
  simp only [Res.ok] at hown
  rcases hown.2 with ⟨_, hz⟩ | ⟨g, cap, cur, rfl, _, hg, hnc, hcm, hcs, htake⟩
  · exact absurd (List.length_eq_zero_iff.1 hz) h0
  · have hxs := layBy.1 hL
    have h := Lib.run_unsafeString_row (P := P) w pt it o.type e hp hc g cur.size (by simp [World.shape?, hg]) l h0 (by simp at hcs; omega) (by simp only [maxLen] at hcm; omega) (fun j x hj => hown.cells (g := g) rfl j _ (by rw [hxs]; simp [Lib.byteCells, hj]))
    refine ⟨sv l, w.freeze ⟨g, 0, none⟩ l.length, H, O.set i .emp, ?_, Hp.le.refl H, ⟨rfl, rfl, rfl⟩, hw.set hi (r' := .emp) ?_ trivial (fun b hb => by cases hb)⟩
    · simp only [elemPtr, Addr.add] at hx
      simp [execOp, ho, resolve, invoke, builtin, he x _ hx, he y _ hy, h]
      rfl
    · have hn0 : ¬ l.length = 0 := fun h => h0 (List.length_eq_zero_iff.1 h)
      unfold World.freeze
      rw [if_neg hn0]
      refine ⟨rfl, rfl, rfl, by simp, fun k hk hne => ?_⟩
      have : ¬ g = k := fun e => hne (by subst e; rfl)
      simp [Array.getElem?_modify, this]
end
section
variable {P : Program} {Q : Exit → Act → World → Prop} {n : Nat} {L : List (Nat × Value)} {H : Hp} {O : List Res} {ops : Array Oper} {rest : List Oper} {T : TypeId}
theorem Seg.appStr {d : Tmp} {pos : String} {af : Array Edge} {s x : Operand} {t u e : TypeId} {v : Value} {l str : Str} {xs : List Value} (i : Nat) (ht : P.underlying t = some (.slice e)) (hu : P.underlying u = some .string) (hz : TI P e 1 1 (.int .u8 0)) (hs : ev L s = some v) (hx : ev L x = some (sv str))
    (hi : O[i]? = some (.row v e 1 l.length xs)) (hL : LayL cBy H l xs) (hv : v = .slice none 0 0 ∨ l ≠ []) (hb : l.length + str.length ≤ capN) (hd : Nat.blt d n = true)
    (k : ∀ v' xs', (v' = .slice none 0 0 ∨ l ++ str ≠ []) → LayL cBy H (l ++ str) xs' → Seg P ops Q rest n ((d, v') :: L) H (O.set i (.row v' e 1 (l ++ str).length xs'))) :
    Seg P ops Q ({ dst := some d, op := .call { callee := .builtin .append, args := #[s, x], argTypes := #[t, u] }, type := T, pos, after := af, guard := none } :: rest) n L H O :=
  Seg.opS (OpS.appStr ht hu hz hs hx hi hL hv hb) hd (by rintro v' H' O' _ ⟨rfl, h1, h2, rfl⟩; exact k v' _ h1 h2)
end
end Go.GK
namespace Go.GK
open Go.Proofs
def LaidH (P : Program) (H : Hp) : Prop := ∀ w O, SH w H O → Lib.TabIs P w "internal/strconv.uint64pow10" .u64 Lib.pow10Tab
theorem LaidH.mono {P : Program} {H H' : Hp} (h : LaidH P H) (hl : H.le H') : LaidH P H' := fun w O hs => h w O (hs.weaken hl)
theorem grownDrew (w : World) (k : Nat) (os : Array Obj) : w.grownBy (Go.Sort.grow (w.drewN k) os) none :=
  ⟨rfl, rfl, rfl, by simp [Go.Sort.grow, World.drewN], fun b hb _ => by
    simp only [Go.Sort.grow, World.drewN]; rw [Array.getElem?_append_left hb]⟩
structure BldOk (H : Hp) (B : Nat) (a v : Value) (l : Str) (xs : List Value) : Prop where
  a : a = .pointer none ∨ a = ptr B 0
  v : v = .slice none 0 0 ∨ l ≠ []
  L : LayL cBy H l xs
theorem BldOk.new {H : Hp} {B : Nat} : BldOk H B (.pointer none) (.slice none 0 0) [] [] := ⟨.inl rfl, .inl rfl, rfl⟩
section
variable {P : Program} {H : Hp} {O : List Res}
theorem TriV.itoa {f : FuncId} {n : Int} (hc : ∀ (n : Int), -9223372036854775808 ≤ n → n ≤ 9223372036854775807 → ∀ (w : World), Lib.TabIs P w "internal/strconv.uint64pow10" .u64 Lib.pow10Tab → Calls P f #[.int .i64 n] w fun e w' => e = .returned (.string ⟨(Lib.itoa n).toArray⟩) ∧ ∃ k os, w' = Go.Sort.grow (w.drewN k) os)
    (hG : LaidH P H) (hn : F64 n) : TriV P f [.int .i64 n] H O (sv (Lib.itoa n)) := fun w hs =>
  (hc n hn.1 hn.2 w (hG w O hs)).mono fun e w' ⟨h1, k, os, h2⟩ => ⟨h1, by subst h2; exact hs.grown (grownDrew w k os)⟩
def insB {α : Type} (le : α → α → Bool) (x : α) : List α → List α
  | [] => [x]
  | y :: l => if le x y then x :: y :: l else y :: insB le x l
def isortB {α : Type} (le : α → α → Bool) : List α → List α
  | [] => []
  | x :: l => insB le x (isortB le l)
theorem insB_perm {α : Type} (le : α → α → Bool) (x : α) : ∀ l, (insB le x l).Perm (x :: l)
  | [] => .refl _
  | y :: l => by
    unfold insB; split
    · exact .refl _
    · exact ((insB_perm le x l).cons y).trans (.swap ..)
theorem isortB_perm {α : Type} (le : α → α → Bool) : ∀ l, (isortB le l).Perm l
  | [] => .refl _
  | x :: l => (insB_perm le x _).trans ((isortB_perm le l).cons x)
theorem insB_sorted {α : Type} {le : α → α → Bool} (S : α → Prop) (tr : ∀ a b c, S a → S b → S c → le a b = true → le b c = true → le a c = true) (to : ∀ a b, S a → S b → le a b = true ∨ le b a = true) (x : α) (hx : S x) : ∀ l, (∀ a ∈ l, S a) → l.Pairwise (fun a b => le a b = true) → (insB le x l).Pairwise (fun a b => le a b = true)
  | [], _, _ => by simp [insB]
  | y :: l, hl, h => by
    have hy := hl y (by simp)
    obtain ⟨h1, h2⟩ := List.pairwise_cons.1 h
    unfold insB; split
    · rename_i hle
      refine List.pairwise_cons.2 ⟨fun b hb => ?_, h⟩
      rcases List.mem_cons.1 hb with rfl | hb
      · exact hle
      · exact tr _ _ _ hx hy (hl b (by simp [hb])) hle (h1 b hb)
    · rename_i hle
      refine List.pairwise_cons.2 ⟨fun b hb => ?_, insB_sorted S tr to x hx l (fun a ha => hl a (by simp [ha])) h2⟩
      rcases List.mem_cons.1 ((insB_perm le x l).mem_iff.1 hb) with rfl | hb
      · exact (to _ _ hx hy).resolve_left hle
      · exact h1 b hb
theorem isortB_sorted {α : Type} {le : α → α → Bool} (S : α → Prop) (tr : ∀ a b c, S a → S b → S c → le a b = true → le b c = true → le a c = true) (to : ∀ a b, S a → S b → le a b = true ∨ le b a = true) : ∀ l, (∀ a ∈ l, S a) → (isortB le l).Pairwise (fun a b => le a b = true)
  | [], _ => .nil
  | x :: l, h => insB_sorted S tr to x (h x (by simp)) _ (fun a ha => h a (by simp [(isortB_perm le l).mem_iff.1 ha])) (isortB_sorted S tr to l fun a ha => h a (by simp [ha]))
theorem isortB_eq {α : Type} {le : α → α → Bool} (tr : ∀ a b c, le a b = true → le b c = true → le a c = true) (to : ∀ a b, le a b = true ∨ le b a = true) (an : ∀ a b, le a b = true → le b a = true → a = b) (l : List α) : isortB le l = l.mergeSort le :=
  List.Perm.eq_of_pairwise (le := fun a b => le a b = true) (fun a b _ _ h k => an a b h k) (isortB_sorted (fun _ => True) (fun a b c _ _ _ => tr a b c) (fun a b _ _ => to a b) l (fun _ _ => trivial)) (List.pairwise_mergeSort tr (fun a b => by rcases to a b with h | h <;> simp [h]) l) ((isortB_perm le l).trans (List.mergeSort_perm l le).symm)
theorem insB_map {α β : Type} (f : α → β) (le : β → β → Bool) (x : α) : ∀ l, insB le (f x) (l.map f) = (insB (fun a b => le (f a) (f b)) x l).map f
  | [] => rfl
  | y :: l => by
    simp only [List.map_cons, insB]; split
    · rfl
    · rw [insB_map f le x l]; rfl
theorem isortB_map {α β : Type} (f : α → β) (le : β → β → Bool) : ∀ l, isortB le (l.map f) = (isortB (fun a b => le (f a) (f b)) l).map f
  | [] => rfl
  | x :: l => by simp only [List.map_cons, isortB]; rw [isortB_map f le l, insB_map]
theorem LayL.ints {H : Hp} : ∀ {l : List Int} {xs : List Value}, LayL cI64 H l xs → xs = l.map (Value.int .i64)
  | [], xs, h => h
  | a :: l, _, ⟨cs, ys, e, h1, h2⟩ => by subst e; rw [show cs = [.int .i64 a] from h1, LayL.ints h2]; rfl
theorem ints_LayL {H : Hp} : ∀ (l : List Int), LayL cI64 H l (l.map (Value.int .i64))
  | [] => rfl
  | a :: l => ⟨[.int .i64 a], _, rfl, rfl, ints_LayL l⟩
def sortI (l : List Int) : List Int := isortB (fun x y => decide (x ≤ y)) l
theorem sortI_eq (l : List Int) : l.mergeSort (fun x y => decide (x ≤ y)) = sortI l := (isortB_eq (fun a b c h k => by simp at *; omega) (fun a b => by simp; omega) (fun a b h k => by simp at *; omega) l).symm
theorem Tri.sortI {f : FuncId} {l : List Int} {v : Value} {e : TypeId} {xs : List Value}
    (hc : ∀ (blk off cap : Nat) (zs : List Int) (w : World), Go.Sort.Holds (Value.int .i64) w blk off zs.toArray → blk < w.heap.size → zs.length < 4611686018427387904 → Calls P f #[.slice (some ⟨blk, off, none⟩) zs.length cap] w fun e w' =>
      e = .returned (.tuple #[]) ∧ ∃ n os, w' = Go.Sort.grow (Go.Sort.putRow (Value.int .i64) (Go.Sort.ahead w n) blk off (zs.mergeSort fun x y => decide (x ≤ y)).toArray) os)
    (h0 : ∀ (p : Option Addr) (cap : Nat) (w : World), Calls P f #[.slice p 0 cap] w fun e w' => e = .returned (.tuple #[]) ∧ w' = w)
    (hL : LayL cI64 H l xs) (hn : l.length ≤ capN) :
    Tri P f [v] H (.row v e 1 l.length xs :: O) (fun r H' O' => ∃ xs', .tuple #[] = r ∧ LayL cI64 H' (GK.sortI l) xs' ∧ .row v e 1 (GK.sortI l).length xs' :: O = O') := fun w hs => by
  have hx := LayL.ints hL
  subst hx
  have hlen : (GK.sortI l).length = l.length := by rw [← sortI_eq]; simp
  have hown := hs.ok 0 _ rfl
  simp only [Res.ok] at hown
  rcases hown.2 with ⟨rfl, hz⟩ | ⟨g, cap, cur, rfl, _, hg, hnc, hcm, hcs, htake⟩
  · have hl : l = [] := List.eq_nil_of_length_eq_zero hz
    subst hl
    refine (h0 none 0 w).mono fun e' w' ⟨g1, g2⟩ => ?_
    subst g2
    exact ⟨_, H, _, g1, Hp.le.refl H, hs, [], rfl, by simp [GK.sortI, isortB, LayL], by simp [GK.sortI, isortB]⟩
  · rw [Nat.mul_one] at htake
    have hgs : g < w.heap.size := (Array.getElem?_eq_some_iff.1 hg).1
    refine (hc g 0 cap l w (holds_of_blockI hg htake) hgs (by simp only [capN] at hn; omega)).mono fun e' w' ⟨g1, n, os, g2⟩ => ?_
    rw [sortI_eq] at g2
    subst g2
    refine ⟨_, H, _, g1, Hp.le.refl H, hs.set (i := 0) (r' := .row (.slice (some ⟨g, 0, none⟩) l.length cap) e 1 (GK.sortI l).length ((GK.sortI l).map (Value.int .i64))) rfl (grownBy_sortedI _) ?_ ?_, _, rfl, ints_LayL _, rfl⟩
    · show World.ownsRow _ 0 e 1 _ _ _
      have := ownsRow_sortedI (n := n) (os := os) (ss := l) (ts := GK.sortI l) hlen (Nat.zero_le _) hg hnc hcm hcs
      rw [hlen]; exact this
    · intro b hb; left; exact hb
end
end Go.GK
namespace Go.GK
def ofTo (lo hi k : Nat) (x : Nat) : Bool := decide (lo ≤ x) && decide (x ≤ hi) && decide (x < k)
def ofP (lo hi : Nat) (x : Nat) : Bool := decide (lo ≤ x) && decide (x ≤ hi)
theorem ofTo_zero (lo hi : Nat) : bcs (ofTo lo hi 0) = bcs (fun _ => false) := bcs_congr fun x _ => by simp [ofTo]
theorem ofTo_hit (lo hi k : Nat) (h1 : (lo : Int) ≤ k) (h2 : (k : Int) ≤ hi) : bcs (fun x => ofTo lo hi k x || x == k) = bcs (ofTo lo hi (k + 1)) := bcs_congr fun x _ => by
  rw [Bool.eq_iff_iff]; simp [ofTo]; omega
theorem ofTo_skip (lo hi k : Nat) (h : ¬ ((lo : Int) ≤ k ∧ (k : Int) ≤ hi)) : bcs (ofTo lo hi k) = bcs (ofTo lo hi (k + 1)) := bcs_congr fun x _ => by
  rw [Bool.eq_iff_iff]; simp [ofTo]; omega
theorem ofTo_done (lo hi k : Nat) (h : 256 ≤ k) : bcs (ofTo lo hi k) = bcs (ofP lo hi) := bcs_congr fun x _ => by
  rw [Bool.eq_iff_iff]; simp [ofTo, ofP]; omega
def mixTo (h p : Nat → Bool) (k x : Nat) : Bool := if x < 64 * k then h x else p x
theorem mix_zero (h p : Nat → Bool) : bcs p = bcs (mixTo h p 0) := bcs_congr fun x _ => by simp [mixTo]
theorem mix_done (h p : Nat → Bool) (k : Nat) (hk : 4 ≤ k) : bcs (mixTo h p k) = bcs h := bcs_congr fun x hx => by simp only [mixTo]; rw [if_pos (by omega)]
theorem mix_word (h p : Nat → Bool) (k : Nat) : word (mixTo h p k) k = word p k := by
  apply BitVec.eq_of_getLsbD_eq; intro j hj; rw [word_bit, word_bit]; simp only [mixTo]; rw [if_neg (by omega)]
theorem mix_get (h p : Nat → Bool) (k : Nat) (hk : k < 4) : (bcs (mixTo h p k))[k]? = some (w64 (word p k)) := by rw [bcs_get _ k hk, mix_word]
theorem bcs_setw (f g : Nat → Bool) (i : Nat) (w : BitVec 64) (hi : i < 4) (hw : word g i = w) (ho : ∀ j, j < 4 → j ≠ i → word g j = word f j) : (bcs f).setIfInBounds i (w64 w) = bcs g := by
  apply Array.ext_getElem?
  intro j
  rw [Array.getElem?_setIfInBounds]
  by_cases hj : j < 4
  · rw [bcs_get _ j hj, bcs_get _ j hj]
    by_cases e : i = j
    · subst e; simp [bcs_size, hi, hw]
    · simp [e]; rw [ho j hj (fun x => e x.symm)]
  · have h1 : (bcs f)[j]? = none := by simp [bcs_size]; omega
    have h2 : (bcs g)[j]? = none := by simp [bcs_size]; omega
    rw [h1, h2, bcs_size]
    by_cases e : i = j
    · omega
    · simp [e]
theorem mix_step (h p : Nat → Bool) (k : Nat) (w : BitVec 64) (hk : k < 4) (hw : w = word h k) : (bcs (mixTo h p k)).setIfInBounds k (w64 w) = bcs (mixTo h p (k + 1)) := by
  refine bcs_setw _ _ k w hk ?_ fun j hj hne => ?_
  · rw [hw]; apply BitVec.eq_of_getLsbD_eq; intro i hi; rw [word_bit, word_bit]; simp only [mixTo]; rw [if_pos (by omega)]
  · apply BitVec.eq_of_getLsbD_eq; intro i hi; rw [word_bit, word_bit]; simp only [mixTo]
    by_cases e : 64 * j + i < 64 * k
    · rw [if_pos e, if_pos (by omega)]
    · rw [if_neg e, if_neg (by omega)]
def listTo (p : Nat → Bool) (k : Nat) : List Nat := (List.range k).filter p
def cntTo (p : Nat → Bool) (k : Nat) : Nat := (listTo p k).length
def lst (p : Nat → Bool) : Nat := ((List.range 256).find? p).getD 0
def anyS (p : Nat → Bool) : Bool := ((List.range 256).find? p).isSome
theorem find_range (p : Nat → Bool) (k n : Nat) (hk : k < n) (h0 : ∀ x, x < k → p x = false) (h : p k = true) : (List.range n).find? p = some k := by
  rw [show n = k + (n - k) by omega, List.range_add, List.find?_append]
  have h1 : (List.range k).find? p = none := by
    rw [List.find?_eq_none]; intro x hx; simp [h0 x (List.mem_range.1 hx)]
  rw [h1, show n - k = (n - k - 1) + 1 by omega, List.range_succ_eq_map]
  simp [h]
theorem least_hit (p : Nat → Bool) (k : Nat) (hk : k < 256) (h0 : ∀ x, x < k → p x = false) (h : p k = true) : lst p = k ∧ anyS p = true := by
  simp [lst, anyS, find_range p k 256 hk h0 h]
theorem least_none (p : Nat → Bool) (k : Nat) (hk : 256 ≤ k) (h0 : ∀ x, x < k → p x = false) : lst p = 0 ∧ anyS p = false := by
  have h1 : (List.range 256).find? p = none := by
    rw [List.find?_eq_none]; intro x hx; simp [h0 x (by have := List.mem_range.1 hx; omega)]
  simp [lst, anyS, h1]
theorem none_succ (p : Nat → Bool) (k : Nat) (h0 : ∀ x, x < k → p x = false) (h : p k = false) : ∀ x, x < k + 1 → p x = false := fun x hx => by
  by_cases e : x = k
  · subst e; exact h
  · exact h0 x (by omega)
def encB (a : Nat × Nat) : List Value := [.int .u8 (a.1 : Int), .int .u8 (a.2 : Int)]
def setLast : List (Nat × Nat) → Nat → List (Nat × Nat)
  | [], _ => []
  | [a], k => [(a.1, k)]
  | a :: b :: l, k => a :: setLast (b :: l) k
theorem setLast_length : ∀ (l : List (Nat × Nat)) (k : Nat), (setLast l k).length = l.length
  | [], _ => rfl
  | [a], _ => rfl
  | a :: b :: l, k => by simp [setLast, setLast_length (b :: l) k]
theorem setLast_cells : ∀ (l : List (Nat × Nat)) (k : Nat), 0 < l.length → (l.flatMap encB).set ((l.length - 1) * 2 + 1) (.int .u8 (k : Int)) = (setLast l k).flatMap encB
  | [], _, h => by simp at h
  | [a], k, _ => by simp [setLast, encB]
  | a :: b :: l, k, _ => by
    have ih := setLast_cells (b :: l) k (by simp)
    simp only [setLast, List.flatMap_cons] at ih ⊢
    rw [← ih]
    simp only [encB, List.length_cons]
    rw [show (l.length + 1 + 1 - 1) * 2 + 1 = ((l.length + 1 - 1) * 2 + 1) + 1 + 1 by omega]
    rfl
def rgTo (p : Nat → Bool) : Nat → List (Nat × Nat)
  | 0 => []
  | k + 1 => if p k then (if 0 < k ∧ p (k - 1) = true then setLast (rgTo p k) k else rgTo p k ++ [(k, k)]) else rgTo p k
theorem rgTo_zero (p : Nat → Bool) : rgTo p 0 = [] := rfl
theorem rgTo_skip (p : Nat → Bool) (k : Nat) (h : p k = false) : rgTo p (k + 1) = rgTo p k := by simp [rgTo, h]
theorem rgTo_ext (p : Nat → Bool) (k : Nat) (h : p k = true) (h0 : 0 < k) (h1 : p (k - 1) = true) : rgTo p (k + 1) = setLast (rgTo p k) k := by simp [rgTo, h, h0, h1]
theorem rgTo_new (p : Nat → Bool) (k : Nat) (h : p k = true) (h1 : ¬ (0 < k ∧ p (k - 1) = true)) : rgTo p (k + 1) = rgTo p k ++ [(k, k)] := by
  simp only [rgTo, h, if_true]; rw [if_neg h1]
theorem rgTo_len (p : Nat → Bool) : ∀ k, (rgTo p k).length ≤ k
  | 0 => by simp [rgTo]
  | k + 1 => by
    have := rgTo_len p k
    simp only [rgTo]
    split
    · split
      · rw [setLast_length]; omega
      · simp; omega
    · omega
theorem rg_pos (p : Nat → Bool) (k : Nat) (h0 : 0 < k) (h : p (k - 1) = true) : 0 < (rgTo p k).length := by
  obtain ⟨j, rfl⟩ : ∃ j, k = j + 1 := ⟨k - 1, by omega⟩
  simp only [Nat.add_sub_cancel] at h
  by_cases h1 : 0 < j ∧ p (j - 1) = true
  · rw [rgTo_ext p j h h1.1 h1.2, setLast_length]
    exact rg_pos p j h1.1 h1.2
  · rw [rgTo_new p j h h1]; simp
theorem rg_ext_n (p : Nat → Bool) (k : Nat) (h : p k = true) (h0 : 0 < k) (h1 : p (k - 1) = true) : (rgTo p (k + 1)).length = (rgTo p k).length := by rw [rgTo_ext p k h h0 h1, setLast_length]
theorem rg_ext_xs (p : Nat → Bool) (k : Nat) (h : p k = true) (h0 : 0 < k) (h1 : p (k - 1) = true) : ((rgTo p k).flatMap encB).set (((rgTo p k).length - 1) * 2 + 1) (.int .u8 (k : Int)) = (rgTo p (k + 1)).flatMap encB := by
  rw [rgTo_ext p k h h0 h1, setLast_cells _ _ (rg_pos p k h0 h1)]
theorem encB_len (a : Nat × Nat) : (encB a).length = 2 := rfl
theorem rg_cells (p : Nat → Bool) (k : Nat) : ((rgTo p k).flatMap encB).length = (rgTo p k).length * 2 := flat_len encB 2 encB_len _
def hasI (p : Nat → Bool) (b : Int) : Bool := decide (0 ≤ b) && decide (b < 256) && p b.toNat
def runE (p : Nat → Bool) : Nat → Nat → Nat
  | 0, y => y
  | f + 1, y => if hasI p ((y : Int) + 1) then runE p f (y + 1) else y
def re (p : Nat → Bool) (y : Nat) : Nat := runE p (256 - y) y
theorem re_step (p : Nat → Bool) (y : Nat) (hy : y ≤ 255) (h : hasI p ((y : Int) + 1) = true) : re p (y + 1) = re p y := by
  unfold re
  rw [show 256 - y = (256 - (y + 1)) + 1 by omega]
  simp [runE, h]
theorem re_stop (p : Nat → Bool) (y : Nat) (hy : y ≤ 255) (h : hasI p ((y : Int) + 1) = false) : re p y = y := by
  unfold re
  rw [show 256 - y = (255 - y) + 1 by omega]
  simp [runE, h]
def rrTo (p : Nat → Bool) (k : Nat) : List (Nat × Nat) := ((List.range k).filter fun x => p x && !hasI p ((x : Int) - 1)).map fun x => (x, re p x)
theorem rrTo_def (p : Nat → Bool) (k : Nat) : rrTo p k = ((List.range k).filter fun x => p x && !hasI p ((x : Int) - 1)).map fun x => (x, re p x) := rfl
theorem hasI_neg (p : Nat → Bool) (b : Int) (h : b < 0) : hasI p b = false := by simp [hasI]; intro h'; omega
theorem hasI_big (p : Nat → Bool) (b : Int) (h : 256 ≤ b) : hasI p b = false := by simp [hasI]; intro _ h'; omega
theorem hasI_in (p : Nat → Bool) (n : Nat) (h : n < 256) : hasI p (n : Int) = p n := by
  have h1 : (n : Int) < 256 := by omega
  have h0 : (0 : Int) ≤ n := by omega
  simp [hasI, h1, h0]
attribute [irreducible] cntTo lst anyS listTo rgTo rrTo hasI re
end Go.GK
namespace Go.GK
abbrev St := Nat → Bool
def bcl (p : St) : List Value := (bcs p).toList
theorem bcl_len (p : St) : (bcl p).length = 4 := rfl
def nth (l : List St) (i : Nat) : St := l.getD i (fun _ => false)
theorem nth_some (l : List St) (i : Nat) (h : i < l.length) : l[i]? = some (nth l i) := by simp [nth, h]
theorem bcl_at (l : List St) (i : Nat) (h : i < l.length) : ∀ j u, (bcl (nth l i))[j]? = some u → (l.flatMap bcl)[i * 4 + j]? = some u := fun j u hu => by
  have hj : j < 4 := by have := (List.getElem?_eq_some_iff.1 hu).1; rwa [bcl_len] at this
  rw [flat_get bcl 4 bcl_len l i j _ (nth_some l i h) hj]; exact hu
theorem bcl_ne (p : St) : bcl p ≠ [] := by simp [bcl, bcs]
theorem take_succ_nth (l : List St) (i : Nat) (h : i < l.length) : l.take (i + 1) = l.take i ++ [nth l i] := by
  rw [List.take_add_one, nth_some l i h]; rfl
def alikeB (l : List St) (x y : Nat) : Bool := l.all fun p => p x == p y
def cls (l : List St) (x y : Nat) : Bool := decide (x ≤ y) && alikeB l x y
def rpSt (l : List St) : Nat → List St × St
  | 0 => ([], fun _ => false)
  | k + 1 => if (rpSt l k).2 k then rpSt l k else ((rpSt l k).1 ++ [cls l k], fun y => (rpSt l k).2 y || cls l k y)
def ne (p : St) : Bool := !eqS p (fun _ => false)
def cutA (p s : St) : St := fun x => p x && s x
def cutB (p s : St) : St := fun x => p x && (fun y => !s y) x
def sel (a b : St) (j : Nat) : St := if j = 0 then a else b
def two (p s : St) (j : Nat) : List St := ([cutA p s, cutB p s].take j).filter ne
def psStep (ps : List St) (s : St) : List St := ps.flatMap fun p => two p s 2
def psTo (l : List St) (i : Nat) : List St := (l.take i).foldl psStep [ofP 0 255]
def nx (l : List St) (i m j : Nat) : List St := psStep ((psTo l i).take m) (nth l i) ++ two (nth (psTo l i) m) (nth l i) j
theorem psTo_zero (l : List St) : psTo l 0 = [ofP 0 255] := rfl
theorem psTo_succ (l : List St) (i : Nat) (h : i < l.length) : psTo l (i + 1) = psStep (psTo l i) (nth l i) := by
  simp [psTo, take_succ_nth l i h, List.foldl_append]
theorem two_zero (p s : St) : two p s 0 = [] := rfl
theorem nx_zero (l : List St) (i : Nat) : nx l i 0 0 = [] := rfl
theorem two_hit (p s : St) (j : Nat) (hj : j < 2) (h : ne (sel (cutA p s) (cutB p s) j) = true) : two p s (j + 1) = two p s j ++ [sel (cutA p s) (cutB p s) j] := by
  match j, hj with
  | 0, _ => simp [two, sel] at h ⊢; simp [List.filter_cons, h]
  | 1, _ => simp only [two, sel] at h ⊢; simp only [List.take_succ_cons, List.take_zero, List.filter_cons, List.filter_nil]; simp at h; rw [h]; split <;> simp
theorem two_skip (p s : St) (j : Nat) (hj : j < 2) (h : ne (sel (cutA p s) (cutB p s) j) = false) : two p s (j + 1) = two p s j := by
  match j, hj with
  | 0, _ => simp [two, sel] at h ⊢; simp [List.filter_cons, h]
  | 1, _ => simp only [two, sel] at h ⊢; simp only [List.take_succ_cons, List.take_zero, List.filter_cons, List.filter_nil]; simp at h; rw [h]; simp
theorem nx_hit (l : List St) (i m j : Nat) (hj : j < 2) (h : ne (sel (cutA (nth (psTo l i) m) (nth l i)) (cutB (nth (psTo l i) m) (nth l i)) j) = true) : nx l i m (j + 1) = nx l i m j ++ [sel (cutA (nth (psTo l i) m) (nth l i)) (cutB (nth (psTo l i) m) (nth l i)) j] := by
  simp [nx, two_hit _ _ j hj h]
theorem nx_skip (l : List St) (i m j : Nat) (hj : j < 2) (h : ne (sel (cutA (nth (psTo l i) m) (nth l i)) (cutB (nth (psTo l i) m) (nth l i)) j) = false) : nx l i m (j + 1) = nx l i m j := by
  simp [nx, two_skip _ _ j hj h]
theorem nx_next (l : List St) (i m : Nat) (hm : m < (psTo l i).length) : nx l i (m + 1) 0 = nx l i m 2 := by
  simp [nx, two_zero, take_succ_nth _ m hm, psStep]
theorem nx_done (l : List St) (i m : Nat) (hi : i < l.length) (hm : (psTo l i).length ≤ m) : nx l i m 0 = psTo l (i + 1) := by
  simp [nx, two_zero, psTo_succ l i hi, List.take_of_length_le hm]
def cn (p : St) : Nat := cntTo p 256
theorem cn_eq (p : St) : cn p = ((List.range 256).filter p).length := by unfold cn cntTo listTo; rfl
theorem filter_split (p s : St) : ∀ l : List Nat, (l.filter (cutA p s)).length + (l.filter (cutB p s)).length = (l.filter p).length
  | [] => rfl
  | x :: l => by
    have ih := filter_split p s l
    have ha : cutA p s x = (p x && s x) := rfl
    have hb : cutB p s x = (p x && !s x) := rfl
    cases hp : p x <;> cases hs : s x <;> simp [List.filter_cons, ha, hb, hp, hs] <;> omega
theorem cn_split (p s : St) : cn (cutA p s) + cn (cutB p s) = cn p := by rw [cn_eq, cn_eq, cn_eq]; exact filter_split p s _
theorem cn_pos (p : St) (h : ne p = true) : 1 ≤ cn p := by
  rw [cn_eq]
  simp only [ne, Bool.not_eq_true', ← Bool.not_eq_true, eqS_iff] at h
  have : ∃ x, x < 256 ∧ p x = true := by
    refine Classical.byContradiction fun hn => h fun x hx => ?_
    cases hp : p x with
    | false => simp
    | true => exact absurd ⟨x, hx, hp⟩ hn
  obtain ⟨x, hx, hp⟩ := this
  exact List.length_pos_of_mem (List.mem_filter.2 ⟨List.mem_range.2 hx, hp⟩)
def tot (ps : List St) : Nat := (ps.map cn).sum
theorem tot_append (a b : List St) : tot (a ++ b) = tot a + tot b := by simp [tot]
theorem two_good (p s : St) (j : Nat) : (∀ q ∈ two p s j, ne q = true) ∧ tot (two p s j) ≤ cn p := by
  refine ⟨fun q hq => (List.mem_filter.1 hq).2, ?_⟩
  have hs := cn_split p s
  match j with
  | 0 => simp [two, tot]
  | 1 => simp only [two, List.take_succ_cons, List.take_zero, List.filter_cons, List.filter_nil]; split <;> simp [tot] <;> omega
  | j + 2 =>
    simp only [two, List.take_succ_cons, List.filter_cons]
    rw [show ([] : List St).take j = [] from List.take_nil]
    simp only [List.filter_nil]
    split <;> split <;> simp [tot] <;> omega
theorem step_good (ps : List St) (s : St) : (∀ q ∈ psStep ps s, ne q = true) ∧ tot (psStep ps s) ≤ tot ps := by
  induction ps with
  | nil => simp [psStep, tot]
  | cons p ps ih =>
    have h2 := two_good p s 2
    have e : psStep (p :: ps) s = two p s 2 ++ psStep ps s := by simp [psStep]
    rw [e]
    refine ⟨fun q hq => ?_, ?_⟩
    · rcases List.mem_append.1 hq with h | h
      · exact h2.1 q h
      · exact ih.1 q h
    · rw [tot_append]
      have : tot (p :: ps) = cn p + tot ps := by simp [tot]
      omega
theorem len_tot (ps : List St) (h : ∀ q ∈ ps, ne q = true) : ps.length ≤ tot ps := by
  induction ps with
  | nil => simp [tot]
  | cons p ps ih =>
    have := ih fun q hq => h q (by simp [hq])
    have h1 := cn_pos p (h p (by simp))
    have : tot (p :: ps) = cn p + tot ps := by simp [tot]
    simp only [List.length_cons]; omega
theorem full_ne : ne (ofP 0 255) = true := by decide +kernel
theorem psTo_good (l : List St) : ∀ i, (∀ q ∈ psTo l i, ne q = true) ∧ tot (psTo l i) ≤ 256
  | 0 => by
    refine ⟨fun q hq => ?_, ?_⟩
    · rw [psTo_zero] at hq; simp at hq; rw [hq]; exact full_ne
    · rw [psTo_zero]; simp [tot, cn_eq]; have := List.length_filter_le (ofP 0 255) (List.range 256); simpa using this
  | i + 1 => by
    have ih := psTo_good l i
    by_cases h : i < l.length
    · rw [psTo_succ l i h]
      have := step_good (psTo l i) (nth l i)
      exact ⟨this.1, Nat.le_trans this.2 ih.2⟩
    · have e : psTo l (i + 1) = psTo l i := by simp [psTo, List.take_of_length_le (show l.length ≤ i + 1 by omega), List.take_of_length_le (show l.length ≤ i by omega)]
      rw [e]; exact ih
theorem psTo_len (l : List St) (i : Nat) : (psTo l i).length ≤ 256 := Nat.le_trans (len_tot _ (psTo_good l i).1) (psTo_good l i).2
theorem tot_take (ps : List St) (m : Nat) (h : m < ps.length) : tot (ps.take m) + cn (nth ps m) ≤ tot ps := by
  have e : ps = ps.take m ++ nth ps m :: ps.drop (m + 1) := by
    have : nth ps m = ps[m] := by simp [nth, h]
    rw [this, List.getElem_cons_drop, List.take_append_drop]
  have : tot ps = tot (ps.take m) + (cn (nth ps m) + tot (ps.drop (m + 1))) := by
    conv => lhs; rw [e]
    rw [tot_append]; simp [tot]
  omega
theorem nx_len (l : List St) (i m j : Nat) (hm : m < (psTo l i).length) : (nx l i m j).length ≤ 256 := by
  have h1 := step_good ((psTo l i).take m) (nth l i)
  have h2 := two_good (nth (psTo l i) m) (nth l i) j
  have h3 := tot_take (psTo l i) m hm
  have h4 := (psTo_good l i).2
  refine Nat.le_trans (len_tot _ fun q hq => ?_) (?_ : tot (nx l i m j) ≤ 256)
  · rcases List.mem_append.1 hq with h | h
    · exact h1.1 q h
    · exact h2.1 q h
  · unfold nx; rw [tot_append]; omega
def stp (b : Nat) (s : List St × St) (p : St) : List St × St := if p b then (s.1 ++ [p], fun y => s.2 y || p y) else s
def outSt (ps : List St) : Nat → List St × St
  | 0 => ([], fun _ => false)
  | b + 1 => if (outSt ps b).2 b then outSt ps b else ps.foldl (stp b) (outSt ps b)
def outIn (ps : List St) (b m : Nat) : List St × St := (ps.take m).foldl (stp b) (outSt ps b)
theorem outSt_zero (ps : List St) : outSt ps 0 = ([], fun _ => false) := rfl
theorem outSt_skip (ps : List St) (b : Nat) (h : (outSt ps b).2 b = true) : outSt ps (b + 1) = outSt ps b := by simp [outSt, h]
theorem outSt_new (ps : List St) (b m : Nat) (h : (outSt ps b).2 b = false) (hm : ps.length ≤ m) : outSt ps (b + 1) = outIn ps b m := by simp [outSt, outIn, h, List.take_of_length_le hm]
theorem outIn_zero (ps : List St) (b : Nat) : outIn ps b 0 = outSt ps b := rfl
theorem outIn_hit (ps : List St) (b m : Nat) (hm : m < ps.length) (h : (nth ps m) b = true) : outIn ps b (m + 1) = ((outIn ps b m).1 ++ [nth ps m], fun y => (outIn ps b m).2 y || (nth ps m) y) := by
  simp only [outIn, take_succ_nth ps m hm, List.foldl_append, List.foldl_cons, List.foldl_nil]
  simp [stp, h]
theorem outIn_skip (ps : List St) (b m : Nat) (hm : m < ps.length) (h : (nth ps m) b = false) : outIn ps b (m + 1) = outIn ps b m := by
  simp only [outIn, take_succ_nth ps m hm, List.foldl_append, List.foldl_cons, List.foldl_nil]
  simp [stp, h]
theorem fold_len (b : Nat) : ∀ (ps : List St) (s : List St × St), (ps.foldl (stp b) s).1.length ≤ s.1.length + ps.length
  | [], s => by simp
  | p :: ps, s => by
    have := fold_len b ps (stp b s p)
    have h2 : (stp b s p).1.length ≤ s.1.length + 1 := by unfold stp; split <;> simp
    simp only [List.foldl_cons, List.length_cons]; omega
theorem outSt_len (ps : List St) (h : ps.length ≤ 256) : ∀ b, (outSt ps b).1.length ≤ 256 * b
  | 0 => by simp [outSt]
  | b + 1 => by
    have ih := outSt_len ps h b
    simp only [outSt]; split
    · omega
    · have := fold_len b ps (outSt ps b); omega
theorem outIn_len (ps : List St) (h : ps.length ≤ 256) (b m : Nat) : (outIn ps b m).1.length ≤ 256 * b + 256 := by
  have h1 := outSt_len ps h b
  have h2 := fold_len b (ps.take m) (outSt ps b)
  have h3 : (ps.take m).length ≤ 256 := by simp; omega
  unfold outIn; omega
def partsOf (l : List St) : List St := (outSt (psTo l l.length) 256).1
theorem cutA_eq (p s : St) : Value.agg (bcs (fun x => p x && s x)) = .agg (bcs (cutA p s)) := rfl
theorem cutB_eq (p s : St) : Value.agg (bcs (fun x => p x && (fun y => !s y) x)) = .agg (bcs (cutB p s)) := rfl
theorem ne_eq (p : St) : (!eqS p (fun _ => false)) = ne p := rfl
def bcs2 (a b : St) : Array Value := #[w64 (word a 0), w64 (word a 1), w64 (word a 2), w64 (word a 3), w64 (word b 0), w64 (word b 1), w64 (word b 2), w64 (word b 3)]
theorem bcs2_at (a b : St) (j : Nat) (h : j < 2) : Value.agg ((bcs2 a b).extract ((j : Int).toNat * 4) ((j : Int).toNat * 4 + 4)) = .agg (bcs (sel a b j)) := by
  match j, h with
  | 0, _ => rfl
  | 1, _ => rfl
theorem fill8 (z0 z1 z2 z3 z4 z5 z6 z7 x0 x1 x2 x3 x4 x5 x6 x7 : Value) : Instr.fill (fun i => some (i * 4, 4)) #[z0, z1, z2, z3, z4, z5, z6, z7] [(0, .agg #[x0, x1, x2, x3]), (1, .agg #[x4, x5, x6, x7])] = some #[x0, x1, x2, x3, x4, x5, x6, x7] := by
  simp [Instr.fill, Value.cells]
theorem fill2 (a b : St) : Instr.fill (fun i => some (i * 4, 4)) #[.int .u64 0, .int .u64 0, .int .u64 0, .int .u64 0, .int .u64 0, .int .u64 0, .int .u64 0, .int .u64 0] [(0, .agg (bcs a)), (1, .agg (bcs b))] = some (bcs2 a b) := fill8 _ _ _ _ _ _ _ _ _ _ _ _ _ _ _ _
attribute [irreducible] alikeB rpSt psTo nx outSt outIn nth cls ne cutA cutB
end Go.GK
namespace Go.GK
theorem setLast_app : ∀ (L : List (Nat × Nat)) (s e k : Nat), setLast (L ++ [(s, e)]) k = L ++ [(s, k)]
  | [], _, _, _ => rfl
  | [a], s, e, k => rfl
  | a :: b :: L, s, e, k => by
    have := setLast_app (b :: L) s e k
    simp only [List.cons_append, setLast] at this ⊢
    rw [this]
structure RgInv (p : Nat → Bool) (k : Nat) (l : List (Nat × Nat)) : Prop where
  run : ∀ a ∈ l, a.1 ≤ a.2 ∧ a.2 < k ∧ ∀ z, a.1 ≤ z → z ≤ a.2 → p z = true
  apart : l.Pairwise fun a b => a.2 + 2 ≤ b.1
  all : ∀ z, z < k → p z = true → ∃ a ∈ l, a.1 ≤ z ∧ z ≤ a.2
  last : 0 < k → p (k - 1) = true → ∃ L s, l = L ++ [(s, k - 1)]
theorem rg_inv (p : Nat → Bool) : ∀ k, RgInv p k (rgTo p k)
  | 0 => by
    rw [rgTo_zero]
    exact ⟨fun a h => by simp at h, .nil, fun z h => by omega, fun h => by omega⟩
  | k + 1 => by
    have ih := rg_inv p k
    by_cases hp : p k = true
    · by_cases hq : 0 < k ∧ p (k - 1) = true
      · rw [rgTo_ext p k hp hq.1 hq.2]
        obtain ⟨L, s, hL⟩ := ih.last hq.1 hq.2
        rw [hL, setLast_app]
        have hrun := ih.run; have hap := ih.apart; have hall := ih.all
        rw [hL] at hrun hap hall
        have hs := hrun (s, k - 1) (by simp)
        refine ⟨fun a ha => ?_, ?_, fun z hz hpz => ?_, fun _ _ => ⟨L, s, by simp⟩⟩
        · rcases List.mem_append.1 ha with h | h
          · have := hrun a (by simp [h]); exact ⟨this.1, by omega, this.2.2⟩
          · simp at h; subst h
            refine ⟨by simp only at hs ⊢; omega, by simp, fun z h1 h2 => ?_⟩
            simp only at h1 h2 hs
            by_cases e : z = k
            · subst e; exact hp
            · exact hs.2.2 z h1 (by omega)
        · rw [List.pairwise_append] at hap ⊢
          refine ⟨hap.1, by simp, fun a ha b hb => ?_⟩
          simp at hb; subst hb
          exact hap.2.2 a ha (s, k - 1) (by simp)
        · by_cases e : z = k
          · subst e; exact ⟨(s, z), by simp, by simp only at hs ⊢; omega, by simp⟩
          · obtain ⟨a, ha, h1, h2⟩ := hall z (by omega) hpz
            rcases List.mem_append.1 ha with h | h
            · exact ⟨a, by simp [h], h1, h2⟩
            · simp at h; subst h
              exact ⟨(s, k), by simp, h1, by simp only at h2 ⊢; omega⟩
      · rw [rgTo_new p k hp hq]
        refine ⟨fun a ha => ?_, ?_, fun z hz hpz => ?_, fun _ _ => ⟨rgTo p k, k, by simp⟩⟩
        · rcases List.mem_append.1 ha with h | h
          · have := ih.run a h; exact ⟨this.1, by omega, this.2.2⟩
          · simp at h; subst h
            exact ⟨by simp, by simp, fun z h1 h2 => by simp only at h1 h2; have : z = k := by omega
                                                       subst this; exact hp⟩
        · rw [List.pairwise_append]
          refine ⟨ih.apart, by simp, fun a ha b hb => ?_⟩
          simp at hb; subst hb
          have h1 := ih.run a ha
          have h2 : a.2 ≠ k - 1 := fun e => hq ⟨by omega, by rw [← e]; exact h1.2.2 a.2 h1.1 (Nat.le_refl _)⟩
          simp only; omega
        · by_cases e : z = k
          · subst e; exact ⟨(z, z), by simp, Nat.le_refl _, Nat.le_refl _⟩
          · obtain ⟨a, ha, h1, h2⟩ := ih.all z (by omega) hpz
            exact ⟨a, by simp [ha], h1, h2⟩
    · have hp' : p k = false := by simpa using hp
      rw [rgTo_skip p k hp']
      refine ⟨fun a ha => ?_, ih.apart, fun z hz hpz => ?_, fun _ h => ?_⟩
      · have := ih.run a ha; exact ⟨this.1, by omega, this.2.2⟩
      · have hne : z ≠ k := fun e => by rw [e, hp'] at hpz; cases hpz
        exact ih.all z (by omega) hpz
      · simp at h; rw [hp'] at h; cases h
theorem hasI_iff (p : Nat → Bool) (n : Nat) : hasI p (n : Int) = true ↔ n < 256 ∧ p n = true := by
  by_cases h : n < 256
  · rw [hasI_in p n h]; simp [h]
  · rw [hasI_big p n (by omega)]; simp [h]
theorem re_spec (p : Nat → Bool) : ∀ (d y : Nat), 255 - y = d → y ≤ 255 → y ≤ re p y ∧ re p y ≤ 255 ∧ (∀ z, y < z → z ≤ re p y → p z = true) ∧ ¬ (re p y + 1 < 256 ∧ p (re p y + 1) = true)
  | d, y, hd, hy => by
    cases h : hasI p ((y : Int) + 1) with
    | true =>
      have h1 := (hasI_iff p (y + 1)).1 (by simpa using h)
      have ih := re_spec p (255 - (y + 1)) (y + 1) rfl (by omega)
      rw [re_step p y hy h] at ih
      refine ⟨by omega, ih.2.1, fun z h2 h3 => ?_, ih.2.2.2⟩
      by_cases e : z = y + 1
      · subst e; exact h1.2
      · exact ih.2.2.1 z (by omega) h3
    | false =>
      rw [re_stop p y hy h]
      refine ⟨Nat.le_refl _, hy, fun z h1 h2 => by omega, fun h1 => ?_⟩
      have := (hasI_iff p (y + 1)).2 h1
      simp at this; rw [this] at h; cases h
  termination_by d => d
  decreasing_by omega
theorem re_uniq (p : Nat → Bool) (y e : Nat) (h1 : y ≤ e) (h2 : e ≤ 255) (h3 : ∀ z, y < z → z ≤ e → p z = true) (h4 : ¬ (e + 1 < 256 ∧ p (e + 1) = true)) : re p y = e := by
  obtain ⟨g1, g2, g3, g4⟩ := re_spec p _ y rfl (by omega)
  rcases Nat.lt_trichotomy (re p y) e with h | h | h
  · exact absurd ⟨by omega, h3 _ (by omega) (by omega)⟩ g4
  · exact h
  · exact absurd ⟨by omega, g3 _ (by omega) (by omega)⟩ h4
theorem sorted_ext : ∀ (a b : List Nat), a.Pairwise (· < ·) → b.Pairwise (· < ·) → (∀ x, x ∈ a ↔ x ∈ b) → a = b
  | [], [], _, _, _ => rfl
  | [], y :: b, _, _, h => by have := (h y).2 (by simp); simp at this
  | x :: a, [], _, _, h => by have := (h x).1 (by simp); simp at this
  | x :: a, y :: b, ha, hb, h => by
    rw [List.pairwise_cons] at ha hb
    have hxy : x = y := by
      have h1 := (h x).1 (by simp)
      have h2 := (h y).2 (by simp)
      rcases List.mem_cons.1 h1 with h1 | h1
      · exact h1
      · rcases List.mem_cons.1 h2 with h2 | h2
        · exact h2.symm
        · have := hb.1 x h1; have := ha.1 y h2; omega
    subst hxy
    congr 1
    refine sorted_ext a b ha.2 hb.2 fun z => ⟨fun hz => ?_, fun hz => ?_⟩
    · rcases List.mem_cons.1 ((h z).1 (by simp [hz])) with e | e
      · have := ha.1 z hz; omega
      · exact e
    · rcases List.mem_cons.1 ((h z).2 (by simp [hz])) with e | e
      · have := hb.1 z hz; omega
      · exact e
theorem range_sorted (n : Nat) : (List.range n).Pairwise (· < ·) := List.pairwise_lt_range
theorem pw_mem {l : List (Nat × Nat)} (h : l.Pairwise fun a b => a.2 + 2 ≤ b.1) {a b : Nat × Nat} (ha : a ∈ l) (hb : b ∈ l) : a = b ∨ a.2 + 2 ≤ b.1 ∨ b.2 + 2 ≤ a.1 := by
  induction l with
  | nil => simp at ha
  | cons x l ih =>
    rw [List.pairwise_cons] at h
    rcases List.mem_cons.1 ha with e1 | ha'
    · rcases List.mem_cons.1 hb with e2 | hb'
      · exact .inl (e1.trans e2.symm)
      · exact .inr (.inl (e1 ▸ h.1 b hb'))
    · rcases List.mem_cons.1 hb with e2 | hb'
      · exact .inr (.inr (e2 ▸ h.1 a ha'))
      · exact ih h.2 ha' hb'
theorem rg_rr (p : Nat → Bool) : rgTo p 256 = rrTo p 256 := by
  have I := rg_inv p 256
  generalize hl : rgTo p 256 = l at I
  have inside : ∀ a ∈ l, ∀ z, z < 256 → p z = true → z + 1 = a.1 ∨ z = a.2 + 1 → False := by
    intro a ha z hz hpz h
    obtain ⟨b, hb, h1, h2⟩ := I.all z hz hpz
    have r1 := I.run a ha
    rcases pw_mem I.apart ha hb with e | e | e
    · subst e; omega
    · omega
    · omega
  have hre : ∀ a ∈ l, a = (a.1, re p a.1) := by
    intro a ha
    have r1 := I.run a ha
    have : re p a.1 = a.2 := re_uniq p a.1 a.2 r1.1 (by omega) (fun z h1 h2 => r1.2.2 z (by omega) h2) (fun ⟨h1, h2⟩ => inside a ha _ h1 h2 (.inr rfl))
    rw [this]
  have hmap : l = (l.map (·.1)).map fun x => (x, re p x) := by
    rw [List.map_map]
    conv => lhs; rw [← List.map_id l]
    exact List.map_congr_left fun a ha => hre a ha
  rw [hmap]
  rw [rrTo_def]
  congr 1
  refine sorted_ext _ _ ?_ ((range_sorted 256).filter _) fun x => ?_
  · rw [List.pairwise_map]
    refine (I.apart.imp_of_mem fun {a b} ha _ h => ?_)
    have := (I.run a ha).1
    omega
  · simp only [List.mem_map, List.mem_filter, List.mem_range, Bool.and_eq_true, Bool.not_eq_true']
    constructor
    · rintro ⟨a, ha, rfl⟩
      have r1 := I.run a ha
      refine ⟨by omega, r1.2.2 a.1 (Nat.le_refl _) r1.1, ?_⟩
      cases h : hasI p ((a.1 : Int) - 1) with
      | false => rfl
      | true =>
        exfalso
        by_cases h0 : a.1 = 0
        · rw [h0] at h; rw [hasI_neg p _ (by omega)] at h; cases h
        · have e : ((a.1 : Int) - 1) = ((a.1 - 1 : Nat) : Int) := by omega
          rw [e] at h
          have := (hasI_iff p (a.1 - 1)).1 h
          exact inside a ha (a.1 - 1) this.1 this.2 (.inl (by omega))
    · rintro ⟨hx, hp, hs⟩
      obtain ⟨a, ha, h1, h2⟩ := I.all x hx hp
      refine ⟨a, ha, ?_⟩
      rcases Nat.lt_or_ge a.1 x with h | h
      · exfalso
        have r1 := I.run a ha
        have : hasI p ((x : Int) - 1) = true := by
          have e : ((x : Int) - 1) = ((x - 1 : Nat) : Int) := by omega
          rw [e]; exact (hasI_iff p (x - 1)).2 ⟨by omega, r1.2.2 _ (by omega) (by omega)⟩
        rw [this] at hs; cases hs
      · omega
def szs (l : List (Nat × Nat)) : Nat := (l.map fun a => a.2 + 1 - a.1).sum
end Go.GK
namespace Go.GK
structure OutInv (l : List St) (b : Nat) (out : List St) (sn : St) : Prop where
  cls : ∀ q ∈ out, ∀ x y, x < 256 → y < 256 → q x = true → (q y = true ↔ alikeB l x y = true)
  seen : ∀ x, x < 256 → (sn x = true ↔ ∃ q ∈ out, q x = true)
  upto : ∀ x, x < b → x < 256 → sn x = true
  apart : out.Pairwise fun p q => ∀ x, x < 256 → p x = true → q x = false
theorem out_step (l : List St) (b : Nat) (hb : b < 256) (out : List St) (seen p : St) (I : OutInv l b out seen) (hs : seen b = false) (hp : p b = true) (hc : ∀ x y, x < 256 → y < 256 → p x = true → (p y = true ↔ alikeB l x y = true)) :
    OutInv l (b + 1) (out ++ [p]) (fun y => seen y || p y) := by
  refine ⟨fun q hq x y hx hy h => ?_, fun x hx => ?_, fun x h1 h2 => ?_, ?_⟩
  · rcases List.mem_append.1 hq with h' | h'
    · exact I.cls q h' x y hx hy h
    · simp at h'; subst h'; exact hc x y hx hy h
  · simp only [Bool.or_eq_true, I.seen x hx, List.mem_append, List.mem_singleton]
    constructor
    · rintro (⟨q, hq, h⟩ | h)
      · exact ⟨q, .inl hq, h⟩
      · exact ⟨p, .inr rfl, h⟩
    · rintro ⟨q, hq | rfl, h⟩
      · exact .inl ⟨q, hq, h⟩
      · exact .inr h
  · by_cases e : x = b
    · subst e; simp [hp]
    · simp [I.upto x (by omega) h2]
  · rw [List.pairwise_append]
    refine ⟨I.apart, by simp, fun q hq p' hp' x hx hqx => ?_⟩
    simp at hp'; subst hp'
    cases hpx : p' x with
    | false => rfl
    | true =>
      exfalso
      have h1 := (hc x b hx hb hpx).1 hp
      have h2 := (I.cls q hq x b hx hb hqx).2 h1
      have h3 := (I.seen b hb).2 ⟨q, hq, h2⟩
      rw [hs] at h3; cases h3
end Go.GK
namespace Go.GK
def pr (l : List (Nat × Nat)) (i : Nat) : Nat × Nat := l.getD i (0, 0)
theorem pr_some (l : List (Nat × Nat)) (i : Nat) (h : i < l.length) : l[i]? = some (pr l i) := by simp [pr, h]
theorem pr_mem (l : List (Nat × Nat)) (i : Nat) (h : i < l.length) : pr l i ∈ l := List.mem_of_getElem? (pr_some l i h)
theorem rg_len (p : Nat → Bool) : (rgTo p 256).length ≤ 256 := rgTo_len p 256
theorem rg_pr (p : Nat → Bool) (i : Nat) (h : i < (rgTo p 256).length) : (pr (rgTo p 256) i).1 ≤ (pr (rgTo p 256) i).2 ∧ (pr (rgTo p 256) i).2 < 256 := by
  have := (rg_inv p 256).run _ (pr_mem _ i h); exact ⟨this.1, this.2.1⟩
def rgU (l : List (Nat × Nat)) (i : Nat) (z : Nat) : Bool := (l.take i).any fun a => ofP a.1 a.2 z
def rgN (l : List (Nat × Nat)) (i : Nat) : Nat := szs (l.take i)
def alikeTo (l : List St) (x y i : Nat) : Bool := alikeB (l.take i) x y
theorem parts_len (l : List St) : (partsOf l).length ≤ 65536 := by have := outSt_len (psTo l l.length) (psTo_len l l.length) 256; exact this
theorem lst_lt (p : Nat → Bool) : lst p < 256 := by
  unfold lst
  cases h : (List.range 256).find? p with
  | none => simp
  | some a => have := List.mem_of_find?_eq_some h; simp at this ⊢; exact this
attribute [irreducible] pr rgU rgN alikeTo
end Go.GK
namespace Go.GK
def rgD (p : BSet) : List (Int × Int) := (rgTo p 256).map fun a => ((a.1 : Int), (a.2 : Int))
def partsD (l : List BSet) : List BSet := partsOf l
section
variable {P : Program} {H : Hp} {O : List Res}
theorem layBs {H : Hp} : ∀ {l : List BSet} {xs : List Value}, LayL cBs H l xs ↔ xs = l.flatMap bcl
  | [], xs => Iff.rfl
  | p :: l, xs => by
    constructor
    · rintro ⟨cs, ys, rfl, h1, h2⟩
      rw [show cs = (bcs p).toList from h1, layBs.1 h2]; rfl
    · intro h; exact ⟨bcl p, l.flatMap bcl, h, rfl, layBs.2 rfl⟩
theorem layPr {H : Hp} : ∀ {l : List (Nat × Nat)}, (∀ a ∈ l, a.1 < 256 ∧ a.2 < 256) → LayL (cP cU8 cU8) H (l.map fun a => ((a.1 : Int), (a.2 : Int))) (l.flatMap encB)
  | [], _ => rfl
  | a :: l, h => ⟨encB a, l.flatMap encB, rfl, ⟨[.int .u8 (a.1 : Int)], [.int .u8 (a.2 : Int)], rfl, ⟨rfl, by have := h a (by simp); simp, by have := h a (by simp); simp; omega⟩, ⟨rfl, by simp, by have := h a (by simp); simp; omega⟩⟩, layPr fun b hb => h b (by simp [hb])⟩
theorem rg_bd (p : BSet) : ∀ a ∈ rgTo p 256, a.1 < 256 ∧ a.2 < 256 := fun a ha => by
  obtain ⟨i, hi, rfl⟩ := List.getElem_of_mem ha
  have := rg_pr p i hi
  have e : pr (rgTo p 256) i = (rgTo p 256)[i] := by have := pr_some (rgTo p 256) i hi; rw [List.getElem?_eq_getElem hi] at this; exact (Option.some.inj this).symm
  rw [e] at this; omega
theorem TriV.has_i {f : FuncId} {p : BSet} {b : Int} (hw : ∀ b : Nat, b < 256 → TriV P f [.agg (bcs p), .int .u8 (b : Int)] H O (.bool (p b))) (h0 : 0 ≤ b) (h1 : b ≤ 255) : TriV P f [.agg (bcs p), .int .u8 b] H O (.bool (p b.toNat)) := by
  have := hw b.toNat (by omega)
  rwa [Int.toNat_of_nonneg h0] at this
theorem Tri.ranges_i {f : FuncId} {p : BSet} (hw : Tri P f [.agg (bcs p)] H O (fun v H' O' => O' = O ∧ Sl H' v 2 (rgTo p 256).length ((rgTo p 256).flatMap encB))) : Tri P f [.agg (bcs p)] H O (fun v H' O' => (∃ v1, v1 = v ∧ SlD (cP cU8 cU8) H' (rgD p) v1) ∧ O = O') :=
  hw.mono fun v H' O' _ ⟨h1, h2⟩ => ⟨⟨v, rfl, SlD.of h2 (by simp [rgD]) (layPr (rg_bd p)) (by have := rg_len p; simp only [rgD, List.length_map]; omega)⟩, h1.symm⟩
theorem Tri.part_i {f : FuncId} {l : List BSet} {v : Value} (hw : ∀ (l : List St) (v : Value), Sl H v 4 l.length (l.flatMap bcl) → l.length ≤ 4294967296 → Tri P f [v] H O (fun v H' O' => O' = O ∧ Sl H' v 4 (partsOf l).length ((partsOf l).flatMap bcl)))
    (hl : SlD cBs H l v) (hn : l.length ≤ 4294967296) : Tri P f [v] H O (fun v H' O' => (∃ v1, v1 = v ∧ SlD cBs H' (partsD l) v1) ∧ O = O') := by
  obtain ⟨⟨xs, h1, h2⟩, h3⟩ := hl
  have e := layBs.1 h2
  subst e
  exact (hw l v h1 hn).mono fun v H' O' _ ⟨h1, h2⟩ => ⟨⟨v, rfl, SlD.of h2 rfl (layBs.2 rfl) (by have := parts_len l; show (partsOf l).length ≤ _; omega)⟩, h1.symm⟩
end
end Go.GK
namespace Go.GK
theorem zw (i : Nat) : w64 (word (fun _ => false) i) = .int .u64 0 := by
  have : word (fun _ => false) i = 0#64 := by
    apply BitVec.eq_of_getLsbD_eq
    intro j hj; rw [word_bit]; simp
  rw [this]; rfl
theorem bs0 : Value.agg #[.int .u64 0, .int .u64 0, .int .u64 0, .int .u64 0] = .agg #[w64 (word (fun _ => false) 0), w64 (word (fun _ => false) 1), w64 (word (fun _ => false) 2), w64 (word (fun _ => false) 3)] := by simp only [zw]
end Go.GK
namespace Go.GK
def SBnd (E : Operand → Option Value) (lo hi : Option Operand) (l h : Int) (n : Nat) : Prop :=
  (lo = none ∧ l = 0 ∨ ∃ p k, lo = some p ∧ E p = some (.int k l)) ∧ (hi = none ∧ h = (n : Int) ∨ ∃ p k, hi = some p ∧ E p = some (.int k h))
section
variable {P : Program} {T : TypeId} {E : Operand → Option Value} {H : Hp} {O : List Res} {α : Type} {c : Cd α}
theorem add_zero_addr (a : Addr) : a.add 0 = a := by cases a; simp [Addr.add]
theorem elem_of {t e : TypeId} (ht : P.underlying t = some (.slice e)) : P.underlying t = some (.slice (P.elem t)) := by simp [Program.elem, ht]
theorem elem_eq {t e : TypeId} (ht : P.underlying t = some (.slice e)) : P.elem t = e := by simp [Program.elem, ht]
theorem run_sl {t e : TypeId} {size bytes : Nat} {z : Value} {a : Option Addr} {n cap : Nat} {lo hi : Option Operand} {l h : Int} {ac : Act} (ht : P.underlying t = some (.slice e)) (hz : TI P e size bytes z) (hB : SBnd E lo hi l h n) (he : ∀ x v, E x = some v → ac.eval x = v)
    (h0 : 0 ≤ l) (h1 : l ≤ h) (h2 : h ≤ (n : Nat)) (h3 : n ≤ cap) (w : World) : (Instr.sliceAt t (.slice a n cap) (lo.map ac.eval) (hi.map ac.eval) none).run P w = .ok (sliced a l.toNat h.toNat cap size) w := by
  have ht' := elem_of ht
  have hs : (Go.sizeOf (P.elem t)).run P w = .ok size w := by rw [elem_eq ht]; exact hz.sizeOf
  rw [run_sliceAt_slice (h := ht')]
  obtain ⟨hl, hh⟩ := hB
  rcases hl with ⟨rfl, rfl⟩ | ⟨p, k, rfl, hp⟩ <;> rcases hh with ⟨rfl, rfl⟩ | ⟨q, k', rfl, hq⟩
  · simp only [Option.map_none]; rw [run_slice_all (t := t) (a := a) (len := n) (cap := cap) (ht := ht'), hs]; simp [Result.andThen]
  · simp only [Option.map_none, Option.map_some, he q _ hq]; rw [run_slice_h (t := t) (a := a) (len := n) (cap := cap) (ht := ht') (h0 := h1) (h2 := by omega), hs]; simp [Result.andThen]
  · simp only [Option.map_none, Option.map_some, he p _ hp]; rw [run_slice_l (t := t) (a := a) (len := n) (cap := cap) (ht := ht') (h0 := h0) (h1 := h1), hs]; simp [Result.andThen]
  · simp only [Option.map_some, he p _ hp, he q _ hq]; rw [run_slice_lh (t := t) (a := a) (len := n) (cap := cap) (ht := ht') (h0 := h0) (h1 := h1) (h2 := by omega), hs]; simp [Result.andThen]
theorem ownsRow_take {w : World} {base : Nat} {e : TypeId} {size g cap n h : Nat} {xs : List Value} (hh : h ≤ n)
    (ho : w.ownsRow base e size (.slice (some ⟨g, 0, none⟩) n cap) n xs) : w.ownsRow base e size (.slice (some ⟨g, 0, none⟩) h cap) h (xs.take (h * size)) := by
  obtain ⟨h1, h2⟩ := ho
  rcases h2 with ⟨h0, _⟩ | ⟨g', cap', cur, hv, hg, hh', hn, hcap, hsz, htake⟩
  · cases h0
  · cases hv
    refine ⟨by rw [List.length_take, h1]; exact Nat.min_eq_left (Nat.mul_le_mul_right _ hh), .inr ⟨g, cap, cur, rfl, hg, hh', by omega, hcap, hsz, ?_⟩⟩
    rw [← htake, List.take_take, Nat.min_eq_left (Nat.mul_le_mul_right _ hh)]
theorem OpS.sliceR {x y : Operand} {t e : TypeId} {bytes : Nat} {z v : Value} {l : List α} {xs : List Value} {k : IntKind} {h : Int} {i : Nat} (ht : P.underlying t = some (.slice e)) (hz : TI P e c.sz bytes z) (hx : E x = some v) (hy : E y = some (.int k h))
    (hi : O[i]? = some (.row v e c.sz l.length xs)) (hb : 0 ≤ h ∧ h ≤ (l.length : Nat)) :
    OpS P (.slice t x none (some y) none) T E H O (fun v' H' O' => H' = H ∧ O' = O.set i (.row v' e c.sz h.toNat (xs.take (h.toNat * c.sz)))) := .of_run fun ac w o ho _ he hw => by
  have hown := hw.ok i _ hi
  simp only [Res.ok] at hown
  have hB : SBnd E none (some y) 0 h l.length := ⟨.inl ⟨rfl, rfl⟩, .inr ⟨y, k, rfl, hy⟩⟩
  rcases hown.2 with ⟨rfl, h0⟩ | ⟨g, cap, cur, rfl, _, hg, hnc, hcm, hcs, htake⟩
  · have hz0 : h = 0 := by omega
    subst hz0
    have hr := run_sl (ac := ac) (a := none) (cap := 0) ht hz hB he (Int.le_refl 0) hb.1 hb.2 (by omega) w
    rw [h0] at hr
    refine ⟨.slice none 0 0, w, H, _, ?_, Hp.le.refl H, ⟨rfl, rfl⟩, hw.set hi (w' := w) (r' := .row (.slice none 0 0) e c.sz 0 (xs.take (0 * c.sz))) ⟨rfl, rfl, rfl, Nat.le_refl _, fun _ _ _ => rfl⟩ ?_ ?_⟩
    · have hr' : Sem.run P (Instr.sliceAt t (.slice none 0 0) none (some (ac.eval y)) none) w = .ok (.slice none 0 0) w := by simpa [sliced] using hr
      simp [execOp, ho, he x _ hx, hr', Result.andThen]
    · simpa [Res.ok] using World.ownsRow_nil w _ e c.sz
    · intro b hb; cases hb
  · have hr := run_sl (ac := ac) (a := some ⟨g, 0, none⟩) (cap := cap) ht hz hB he (Int.le_refl 0) hb.1 hb.2 hnc w
    have hv : sliced (some ⟨g, 0, none⟩) (0 : Int).toNat h.toNat cap c.sz = .slice (some ⟨g, 0, none⟩) h.toNat cap := by
      simp [sliced, add_zero_addr]
    rw [hv] at hr
    refine ⟨_, w, H, _, ?_, Hp.le.refl H, ⟨rfl, rfl⟩, hw.set hi (w' := w) (r' := .row (.slice (some ⟨g, 0, none⟩) h.toNat cap) e c.sz h.toNat (xs.take (h.toNat * c.sz))) ⟨rfl, rfl, rfl, Nat.le_refl _, fun _ _ _ => rfl⟩ (ownsRow_take (by omega) hown) ?_⟩
    · have hr' : Sem.run P (Instr.sliceAt t (.slice (some ⟨g, 0, none⟩) l.length cap) none (some (ac.eval y)) none) w = .ok (.slice (some ⟨g, 0, none⟩) h.toNat cap) w := by simpa using hr
      simp [execOp, ho, he x _ hx, hr', Result.andThen]
    · intro b hb; exact .inl hb
end
section
variable {P : Program} {Q : Exit → Act → World → Prop} {n : Nat} {L : List (Nat × Value)} {H : Hp} {O : List Res} {ops : Array Oper} {rest : List Oper} {T : TypeId} {α : Type} {c : Cd α}
theorem Seg.sliceR {d : Tmp} {pos : String} {af : Array Edge} {x y : Operand} {t e : TypeId} {bytes : Nat} {z v : Value} {l : List α} {xs : List Value} {kk : IntKind} {h : Int} (i : Nat) (hL : LayL c H l xs) (ht : P.underlying t = some (.slice e)) (hz : TI P e c.sz bytes z) (hx : ev L x = some v) (hy : ev L y = some (.int kk h))
    (hi : O[i]? = some (.row v e c.sz l.length xs)) (hb : 0 ≤ h ∧ h ≤ (l.length : Nat)) (hd : Nat.blt d n = true)
    (k : ∀ v' xs', LayL c H (l.take h.toNat) xs' → Seg P ops Q rest n ((d, v') :: L) H (O.set i (.row v' e c.sz (l.take h.toNat).length xs'))) :
    Seg P ops Q ({ dst := some d, op := .slice t x none (some y) none, type := T, pos, after := af, guard := none } :: rest) n L H O := by
  refine Seg.opS (OpS.sliceR (c := c) (l := l) ht hz hx hy hi hb) hd ?_
  rintro v' H' O' hl ⟨rfl, rfl⟩
  have := k v' _ (hL.take h.toNat)
  rwa [List.length_take, Nat.min_eq_left (by omega)] at this
end
end Go.GK
namespace Go.GK
open Go.Proofs Go.Shelf Go.Sort
def cmpLo (x y : Int × Int × Int) : Option Int := some (x.1 - y.1)
section
variable {α : Type} (cmp : α → α → Option Int)
def ltC (x y : α) : Bool := decide ((cmp x y).getD 0 < 0)
def CmpOk (l : List α) : Prop :=
  (∀ i j : Fin l.length, (cmp l[i] l[j]).isSome = true) ∧ (∀ i : Fin l.length, ltC cmp l[i] l[i] = false) ∧ (∀ i j k : Fin l.length, ltC cmp l[i] l[j] = true → ltC cmp l[j] l[k] = true → ltC cmp l[i] l[k] = true) ∧
  (∀ i j k : Fin l.length, ltC cmp l[i] l[j] = false → ltC cmp l[j] l[k] = false → ltC cmp l[i] l[k] = false) ∧ (∀ i j : Fin l.length, ltC cmp l[i] l[j] = false → ltC cmp l[j] l[i] = false → i = j)
instance (l : List α) : Decidable (CmpOk cmp l) := by unfold CmpOk; infer_instance
def sortF (l : List α) : List α := isortB (fun x y => !ltC cmp y x) l
theorem sortF_length (l : List α) : (sortF cmp l).length = l.length := (isortB_perm _ l).length_eq
end
theorem LayL.chunk {α : Type} {c : Cd α} {H : Hp} {l : List α} {xs : List Value} (h : LayL c H l xs) (i : Fin l.length) : c.Lay H l[i] ((xs.drop (i * c.sz)).take c.sz) := by
  obtain ⟨cs, h1, _, h3⟩ := h.get (i := i) (x := l[i]) (by simp)
  rw [← h3]; exact h1
theorem LayL.of_chunks {α : Type} {c : Cd α} {H : Hp} {ι : Type} (f : ι → α) (g : ι → List Value) (h : ∀ i, c.Lay H (f i) (g i)) : ∀ is : List ι, LayL c H (is.map f) (is.map g).flatten
  | [] => rfl
  | i :: is => ⟨g i, (is.map g).flatten, rfl, h i, LayL.of_chunks f g h is⟩
theorem flatK_list {β : Type} [Inhabited β] (enc : β → List Value) (k : Nat) (hk : ∀ x, (enc x).length = k) (d : Array β) : (flatK enc k d).toList = (d.toList.map enc).flatten := by
  have key : ∀ (l : List β) (t : Nat) (ht : t < l.length * k) (h2 : t < (l.map enc).flatten.length), (l.map enc).flatten[t] = (enc (l.toArray[t / k]!))[t % k]! := by
    intro l
    induction l with
    | nil => intro t ht; simp at ht
    | cons a l ih =>
      intro t ht h2
      simp only [List.map_cons, List.flatten_cons]
      have k0 : 0 < k := by rcases Nat.eq_zero_or_pos k with h | h
                            · subst h; simp at ht
                            · exact h
      by_cases hlt : t < k
      · rw [List.getElem_append_left (by rw [hk]; exact hlt), Nat.div_eq_of_lt hlt, Nat.mod_eq_of_lt hlt]
        have : t < (enc a).length := by rw [hk]; exact hlt
        simp [this]
      · have hl := hk a
        rw [List.getElem_append_right (by rw [hk]; omega)]
        have e : t - (enc a).length = t - k := by rw [hk]
        have hd : t / k = (t - k) / k + 1 := by rw [← Nat.sub_add_cancel (show k ≤ t by omega), Nat.add_sub_cancel, Nat.add_div_right _ k0]
        have hm : t % k = (t - k) % k := by rw [← Nat.sub_add_cancel (show k ≤ t by omega), Nat.add_sub_cancel, Nat.add_mod_right]
        have ih' := ih (t - k) (by simp only [List.length_cons, Nat.add_mul, Nat.one_mul] at ht; omega) (by simp only [List.map_cons, List.flatten_cons, List.length_append, hk] at h2; omega)
        rw [hd, hm]
        simp only [e]
        rw [ih']
        congr 2
        simp
  have hlen : ∀ l : List β, (l.map enc).flatten.length = l.length * k := by
    intro l; induction l with
    | nil => simp
    | cons a l ih => simp only [List.map_cons, List.flatten_cons, List.length_append, hk, List.length_cons, Nat.add_mul, Nat.one_mul, ih]; omega
  apply List.ext_getElem
  · simp [hlen]
  · intro t h1 h2
    have ht : t < d.size * k := by simpa using h1
    rw [key d.toList t (by simpa using ht) h2]
    simp [flatK]
theorem grownBy_sortK {β : Type} [Inhabited β] (enc : β → List Value) (k : Nat) (w : World) (g m : Nat) (d : Array β) (os : Array Obj) : w.grownBy (sortWorldK enc k w g 0 m d os) (some g) := by
  refine ⟨rfl, rfl, rfl, by simp [sortWorldK, putRowK], fun b hb hne => ?_⟩
  have : g ≠ b := fun e => hne (by rw [e])
  unfold sortWorldK
  rw [heap_grow_old _ _ (by simpa [putRowK] using hb)]
  simp [putRowK, putRow, mapBlock, Sort.ahead, Array.getElem?_modify, this]
theorem heap_sortK {β : Type} [Inhabited β] (enc : β → List Value) (k : Nat) {w : World} {g : Nat} (m : Nat) (d : Array β) (os : Array Obj) {cur : Array Value} {e : TypeId} {fr : Nat × Nat} (hb : w.heap[g]? = some (.cells cur e fr)) :
    (sortWorldK enc k w g 0 m d os).heap[g]? = some (.cells (putCells id 0 (flatK enc k d) cur) e fr) := by
  have hg : g < w.heap.size := (Array.getElem?_eq_some_iff.1 hb).1
  unfold sortWorldK
  rw [heap_grow_old _ _ (by simpa [putRowK] using hg)]
  simp [putRowK, putRow, mapBlock, Sort.ahead, Array.getElem?_modify, hb, onCells]
theorem take_putId (cur F : Array Value) (h : F.size ≤ cur.size) : (putCells id 0 F cur).toList.take F.size = F.toList := by
  apply List.ext_getElem?
  intro j
  by_cases hj : j < F.size
  · rw [List.getElem?_take_of_lt hj, Array.getElem?_toList]
    simp [putCells, hj, show j < cur.size by omega]
  · rw [List.getElem?_take_eq_none (by omega), List.getElem?_eq_none (by simp; omega)]
theorem map_finRange {α : Type} (l : List α) : (List.finRange l.length).map (fun i => l[i]) = l := by
  apply List.ext_getElem (by simp)
  intro i h1 h2; simp
section
variable {P : Program} {ρ : Ren} {H : Hp} {O : List Res} {α : Type} {c : Cd α}
theorem Tri.sortFn (Ly : SlLaysF0.n6 P ρ) (aE : ∀ w, (isAgg (ρ.t 24)).run P w = .ok true w) (zE : ∀ w, (Go.sizeOf (ρ.t 24)).run P w = .ok c.sz w) {g : Nat} (eg : ∀ args w, (callFunc g args).run P w = .ok (.enter g args) w) {cmp : α → α → Option Int}
    (hcmp : ∀ (H : Hp) (x y : α) (r : Int) (cs1 cs2 : List Value), c.Lay H x cs1 → c.Lay H y cs2 → cmp x y = some r → ∀ W, Calls P g #[.agg cs1.toArray, .agg cs2.toArray] W fun e w' => e = .returned (.int .i64 r) ∧ ∃ q os', w' = grow (W.drewN q) os')
    {l : List α} {v : Value} {e : TypeId} {xs : List Value} (hL : LayL c H l xs) (hok : CmpOk cmp l) (hn : l.length ≤ capN) :
    Tri P (ρ.f 6) [v, .func (.func g) #[] #[]] H (.row v e c.sz l.length xs :: O) (fun r H' O' => ∃ xs', .tuple #[] = r ∧ LayL c H' (sortF cmp l) xs' ∧ .row v e c.sz (sortF cmp l).length xs' :: O = O') := fun w hs => by
  have hlen := sortF_length cmp l
  have hown := hs.ok 0 _ rfl
  simp only [Res.ok] at hown
  by_cases hnil : l = []
  · subst hnil
    have hv : ∃ p cap, v = .slice p 0 cap := by
      rcases hown.2 with ⟨rfl, _⟩ | ⟨g, cap, cur, rfl, _⟩ <;> exact ⟨_, _, rfl⟩
    obtain ⟨p, cap, rfl⟩ := hv
    refine (AnyF.slices_SortFunc_none Ly p cap _ w).mono fun e' w' ⟨g1, g2⟩ => ?_
    subst g2
    exact ⟨_, H, _, g1, Hp.le.refl H, hs, xs, rfl, by simpa [sortF, isortB] using hL, by simp [sortF, isortB]⟩
  · have hpos : 0 < l.length := List.length_pos_iff.2 hnil
    rcases hown.2 with ⟨rfl, hz⟩ | ⟨b, cap, cur, rfl, _, hg, hnc, hcm, hcs, htake⟩
    · omega
    letI : Inhabited (Fin l.length) := ⟨⟨0, hpos⟩⟩
    let enc : Fin l.length → List Value := fun i => (xs.drop (i * c.sz)).take c.sz
    let cf : Fin l.length → Fin l.length → Int := fun i j => (cmp l[i] l[j]).getD 0
    have hk : ∀ i, (enc i).length = c.sz := fun i => c.len (hL.chunk i)
    have h1c : ∀ i, ∀ u ∈ enc i, u.oneCell' = true := fun i => c.one (hL.chunk i)
    obtain ⟨k1, k2, k3, k4, k5⟩ := hok
    have hO : SWO (ltOf cf) := ⟨k2, k3, k4⟩
    have hflat : (flatK enc c.sz (List.finRange l.length).toArray).toList = xs := by
      rw [flatK_list enc c.sz hk]
      have hx := hL.len
      apply List.ext_getElem?
      intro t
      have key : ∀ (n : Nat) (xs : List Value), xs.length = n * c.sz → ((List.finRange n).map fun i : Fin n => (xs.drop (i * c.sz)).take c.sz).flatten = xs := by
        intro n
        induction n with
        | zero => intro xs hx; simp at hx; subst hx; rfl
        | succ n ih =>
          intro xs hx
          rw [List.finRange_succ, List.map_cons, List.flatten_cons, List.map_map]
          have := ih (xs.drop c.sz) (by rw [List.length_drop, hx, Nat.add_mul]; omega)
          have e : (List.map ((fun i : Fin (n + 1) => (xs.drop (i * c.sz)).take c.sz) ∘ Fin.succ) (List.finRange n)) = (List.finRange n).map fun i : Fin n => ((xs.drop c.sz).drop (i * c.sz)).take c.sz := by
            apply List.map_congr_left
            intro i _
            simp only [Function.comp, Fin.val_succ, List.drop_drop]
            congr 2
            rw [Nat.add_mul]; omega
          rw [e, this]
          simp
      rw [show (List.finRange l.length).toArray.toList = List.finRange l.length from rfl, key l.length xs hx]
    have hsz : (List.finRange l.length).toArray.size = l.length := by simp
    have hbs : b < w.heap.size := (Array.getElem?_eq_some_iff.1 hg).1
    have hxl : xs.length = l.length * c.sz := hL.len
    have hH : HoldsK enc c.sz w b 0 (List.finRange l.length).toArray := by
      intro j hj
      have hF : flatK enc c.sz (List.finRange l.length).toArray = xs.toArray := by rw [← hflat]
      rw [hF] at hj ⊢
      have hj' : j < xs.length := by simpa using hj
      refine ⟨?_, by simp [World.frozen?, hg]⟩
      have := hown.cells (g := b) rfl j xs[j] (by simp [hj'])
      by_cases hj0 : j = 0
      · subst hj0; simpa [Addr.add, hj'] using this
      · simpa [Addr.add, hj', hj0] using this
    have main := AnyQ.slices_SortFunc_total Ly c.sz aE zE enc hk h1c cf hO g #[] b 0 cap (List.finRange l.length).toArray w eg
      (fun m os dk _ x y => by
        have hx := k1 x y
        obtain ⟨r, hr⟩ := Option.isSome_iff_exists.1 hx
        have hcf : cf x y = r := by show (cmp l[x] l[y]).getD 0 = r; rw [hr]; rfl
        rw [hcf]
        exact hcmp H l[x] l[y] r (enc x) (enc y) (hL.chunk x) (hL.chunk y) hr _)
      hH hbs (by simp only [capN] at hn; simp; omega) k5
    rw [hsz] at main
    refine main.mono fun e' w' ⟨g1, m, os, g2⟩ => ?_
    subst g2
    let d' : List (Fin l.length) := (List.finRange l.length).mergeSort fun x y => !(ltOf cf) y x
    have hd' : d'.map (fun i => l[i]) = sortF cmp l := by
      show ((List.finRange l.length).mergeSort _).map _ = _
      have e := isortB_eq (le := fun x y => !(ltOf cf) y x) (fun a b c h k => by
          have h' : ltOf cf b a = false := by simpa using h
          have k' : ltOf cf c b = false := by simpa using k
          have h4 : ltOf cf c a = false := k4 c b a k' h'
          simp [h4])
        (fun a b => by
          by_cases h : ltOf cf b a = true
          · right
            have : ltOf cf a b = false := by
              cases h2 : ltOf cf a b with
              | false => rfl
              | true => exact absurd (k3 b a b h h2) (by rw [k2 b]; simp)
            simp [this]
          · left; simp [Bool.eq_false_iff.2 h])
        (fun a b h k => by
          have h' : ltOf cf b a = false := by simpa using h
          have k' : ltOf cf a b = false := by simpa using k
          exact k5 a b k' h') (List.finRange l.length)
      have e2 := isortB_map (fun i : Fin l.length => l[i]) (fun x y => !ltC cmp y x) (List.finRange l.length)
      rw [map_finRange] at e2
      rw [← e]
      exact e2.symm
    have hd'l : d'.length = l.length := by simp [d']
    have hlay : LayL c H (sortF cmp l) (flatK enc c.sz d'.toArray).toList := by
      rw [flatK_list enc c.sz hk, ← hd']
      exact LayL.of_chunks (fun i => l[i]) enc (fun i => hL.chunk i) d'
    have hFs : (flatK enc c.sz d'.toArray).size = l.length * c.sz := by simp [hd'l]
    refine ⟨_, H, _, g1, Hp.le.refl H, hs.set (i := 0) (r' := .row (.slice (some ⟨b, 0, none⟩) l.length cap) e c.sz (sortF cmp l).length (flatK enc c.sz d'.toArray).toList) rfl (grownBy_sortK enc c.sz w b m d'.toArray os) ?_ ?_, _, rfl, hlay, rfl⟩
    · show World.ownsRow _ 0 e c.sz _ _ _
      rw [hlen]
      refine ⟨by simp [hFs], .inr ⟨b, cap, _, rfl, Nat.zero_le _, heap_sortK enc c.sz m d'.toArray os hg, hnc, hcm, by simp [putCells, hcs], ?_⟩⟩
      have hle : (flatK enc c.sz d'.toArray).size ≤ cur.size := by rw [hFs, hcs]; exact Nat.mul_le_mul_right _ hnc
      rw [← hFs]; exact take_putId cur _ hle
    · intro q hq; exact .inl hq
end
end Go.GK
namespace Go.GK
inductive Rx where
  | mk (kind : Int) (set : BSet) (subs : List Rx)
def Rx.kind : Rx → Int | .mk k _ _ => k
def Rx.set : Rx → BSet | .mk _ p _ => p
def Rx.subs : Rx → List Rx | .mk _ _ l => l
mutual
def LayRx (H : Hp) : Rx → List Value → Prop
  | .mk k p subs, cs => ∃ v xs, cs = .int .i64 k :: ((bcs p).toList ++ [v]) ∧ Sl H v 6 subs.length xs ∧ subs.length ≤ 9223372036854775807 ∧ LayRxL H subs xs
def LayRxL (H : Hp) : List Rx → List Value → Prop
  | [], xs => xs = []
  | a :: l, xs => ∃ cs ys, xs = cs ++ ys ∧ LayRx H a cs ∧ LayRxL H l ys
end
theorem LayRx.len {H : Hp} {a : Rx} {cs : List Value} (h : LayRx H a cs) : cs.length = 6 := by
  cases a with
  | mk k p subs => simp only [LayRx] at h; obtain ⟨v, xs, rfl, _⟩ := h; rfl
theorem LayRx.one {H : Hp} {a : Rx} {cs : List Value} (h : LayRx H a cs) : ∀ u ∈ cs, u.oneCell' = true := by
  cases a with
  | mk k p subs =>
    simp only [LayRx] at h; obtain ⟨v, xs, rfl, hs, _⟩ := h
    intro u hu
    simp only [List.mem_cons, List.mem_append, List.not_mem_nil, or_false] at hu
    rcases hu with rfl | hu | rfl
    · rfl
    · exact bcs_one _ u (by simpa using hu)
    · rcases hs.sl with ⟨rfl, _⟩ | ⟨a, cap, rfl⟩ <;> rfl
mutual
theorem LayRx.mono {H H' : Hp} (hl : H.le H') : ∀ (a : Rx) (cs : List Value), LayRx H a cs → LayRx H' a cs
  | .mk k p subs, cs, h => by
    simp only [LayRx] at h ⊢
    obtain ⟨v, xs, e, h1, h2, h3⟩ := h
    exact ⟨v, xs, e, h1.mono hl, h2, LayRxL.mono hl subs xs h3⟩
theorem LayRxL.mono {H H' : Hp} (hl : H.le H') : ∀ (l : List Rx) (xs : List Value), LayRxL H l xs → LayRxL H' l xs
  | [], _, h => by simp only [LayRxL] at h ⊢; exact h
  | a :: l, _, h => by
    simp only [LayRxL] at h ⊢
    obtain ⟨cs, ys, e, h1, h2⟩ := h
    exact ⟨cs, ys, e, LayRx.mono hl a cs h1, LayRxL.mono hl l ys h2⟩
end
def cRx : Cd Rx where
  sz := 6
  Lay := LayRx
  len h := LayRx.len h
  mono hl h := LayRx.mono hl _ _ h
  one h := LayRx.one h
theorem layRxL {H : Hp} : ∀ {l : List Rx} {xs : List Value}, LayRxL H l xs ↔ LayL cRx H l xs
  | [], xs => by simp only [LayRxL, LayL]
  | a :: l, xs => by
    simp only [LayRxL, LayL]
    constructor
    · rintro ⟨cs, ys, e, h1, h2⟩; exact ⟨cs, ys, e, h1, layRxL.1 h2⟩
    · rintro ⟨cs, ys, e, h1, h2⟩; exact ⟨cs, ys, e, h1, layRxL.2 h2⟩
theorem layRx {H : Hp} {a : Rx} {cs : List Value} : cRx.Lay H a cs ↔ ∃ v, cs = [.int .i64 a.kind, w64 (word a.set 0), w64 (word a.set 1), w64 (word a.set 2), w64 (word a.set 3), v] ∧ SlD cRx H a.subs v := by
  cases a with
  | mk k p subs =>
    show LayRx H (.mk k p subs) cs ↔ _
    simp only [LayRx]
    constructor
    · rintro ⟨v, xs, e, h1, h2, h3⟩; exact ⟨v, e, ⟨xs, h1, layRxL.1 h3⟩, h2⟩
    · rintro ⟨v, e, ⟨xs, h1, h3⟩, h2⟩; exact ⟨v, xs, e, h1, h2, layRxL.2 h3⟩
theorem layRx_mk {H : Hp} {k : Int} {p : BSet} {l : List Rx} {v : Value} (h : SlD cRx H l v) : cRx.Lay H (.mk k p l) [.int .i64 k, w64 (word p 0), w64 (word p 1), w64 (word p 2), w64 (word p 3), v] := layRx.2 ⟨v, rfl, h⟩
end Go.GK
namespace Go.GK
def cV : Cd Value where
  sz := 1
  Lay _ v cs := cs = [v] ∧ v.oneCell' = true
  len h := by rw [h.1]; rfl
  mono _ h := h
  one h := by rw [h.1]; intro u hu; simp at hu; subst hu; exact h.2
theorem layV {H : Hp} : ∀ {l xs : List Value}, LayL cV H l xs → xs = l
  | [], xs, h => h
  | a :: l, _, ⟨cs, ys, e, h1, h2⟩ => by subst e; rw [h1.1, layV h2]; rfl
theorem layV_of {H : Hp} : ∀ {l : List Value}, (∀ v ∈ l, v.oneCell' = true) → LayL cV H l l
  | [], _ => rfl
  | a :: l, h => ⟨[a], l, rfl, ⟨rfl, h a (by simp)⟩, layV_of fun v hv => h v (by simp [hv])⟩
section
variable {α : Type}
abbrev Fam (α : Type) := List (Value × List α × List Value)
def famR (e : TypeId) (sz : Nat) (F : Fam α) : List Res := F.map fun f => .row f.1 e sz f.2.1.length f.2.2
def famV (F : Fam α) : List Value := F.map (·.1)
structure FamOk (c : Cd α) (H : Hp) (D : List (List α)) (F : Fam α) : Prop where
  dat : F.map (·.2.1) = D
  lay : ∀ f ∈ F, LayL c H f.2.1 f.2.2
  one : ∀ f ∈ F, f.1.oneCell' = true
variable {c : Cd α} {H H' : Hp} {D : List (List α)} {F : Fam α}
theorem FamOk.mono (h : FamOk c H D F) (hl : H.le H') : FamOk c H' D F := ⟨h.dat, fun f hf => (h.lay f hf).mono hl, h.one⟩
theorem FamOk.nil : FamOk c H [] [] := ⟨rfl, nofun, nofun⟩
theorem FamOk.len (h : FamOk c H D F) : F.length = D.length := by rw [← h.dat]; simp
theorem FamOk.get {i : Int} {x : List α} (h : FamOk c H D F) (hx : idx D i = some x) : ∃ v xs, F[i.toNat]? = some (v, x, xs) ∧ LayL c H x xs ∧ idx (famV F) i = some v := by
  obtain ⟨⟨h0, h1⟩, h2⟩ := idx_some hx
  rw [← h.dat, List.getElem?_map] at h2
  cases hf : F[i.toNat]? with
  | none => rw [hf] at h2; cases h2
  | some f =>
    obtain ⟨v, y, xs⟩ := f
    rw [hf] at h2
    have e : y = x := by simpa using h2
    subst e
    refine ⟨v, xs, rfl, h.lay _ (List.mem_of_getElem? hf), ?_⟩
    unfold idx famV; rw [if_pos h0, List.getElem?_map, hf]; rfl
theorem FamOk.set {i : Nat} {v : Value} {y : List α} {xs : List Value} (h : FamOk c H D F) (hy : LayL c H y xs) (hv : v.oneCell' = true) : FamOk c H (D.set i y) (F.set i (v, y, xs)) := by
  refine ⟨by rw [List.map_set, h.dat], fun f hf => ?_, fun f hf => ?_⟩
  · rcases List.mem_or_eq_of_mem_set hf with hf | rfl
    · exact h.lay f hf
    · exact hy
  · rcases List.mem_or_eq_of_mem_set hf with hf | rfl
    · exact h.one f hf
    · exact hv
theorem FamOk.add (h : FamOk c H D F) : FamOk c H (D ++ [[]]) (F ++ [(.slice none 0 0, [], [])]) := by
  refine ⟨by simp [h.dat], fun f hf => ?_, fun f hf => ?_⟩
  · rcases List.mem_append.1 hf with hf | hf
    · exact h.lay f hf
    · simp at hf; subst hf; exact rfl
  · rcases List.mem_append.1 hf with hf | hf
    · exact h.one f hf
    · simp at hf; subst hf; rfl
theorem FamOk.row (h : FamOk c H D F) : LayL cV H (famV F) (famV F) := layV_of fun v hv => by
  simp only [famV, List.mem_map] at hv
  obtain ⟨f, hf, rfl⟩ := hv
  exact h.one f hf
theorem famV_set {i : Nat} {f : Value × List α × List Value} : famV (F.set i f) = (famV F).set i f.1 := by simp [famV, List.map_set]
theorem spl_set {xs : List Value} {i : Nat} {v : Value} (h : i < xs.length) : spl xs i [v] = xs.set i v := by
  unfold spl
  simp only [List.length_cons, List.length_nil]
  exact (List.set_eq_take_append_cons_drop (l := xs) (i := i) (a := v)).symm ▸ (by rw [if_pos h]; simp)
theorem famR_eraseIdx (e : TypeId) (sz : Nat) (i : Nat) : famR e sz (F.eraseIdx i) = (famR e sz F).eraseIdx i := by
  unfold famR
  induction F generalizing i with
  | nil => rfl
  | cons f F ih => cases i with
    | zero => rfl
    | succ i => simp [ih]
theorem famR_set (e : TypeId) (sz : Nat) (i : Nat) (f : Value × List α × List Value) : famR e sz (F.set i f) = (famR e sz F).set i (.row f.1 e sz f.2.1.length f.2.2) := by simp [famR, List.map_set]
theorem famR_get {e : TypeId} {sz i : Nat} {f : Value × List α × List Value} (h : F[i]? = some f) : (famR e sz F)[i]? = some (.row f.1 e sz f.2.1.length f.2.2) := by simp [famR, h]
variable {w : World} {A B R : List Res} {e : TypeId} {sz i : Nat} {f f' : Value × List α × List Value}
theorem lend_at (hi : F[i]? = some f) : (A ++ (famR e sz F ++ R))[A.length + i]? = some (.row f.1 e sz f.2.1.length f.2.2) := by
  have hlt : i < (famR e sz F).length := by have := (List.getElem?_eq_some_iff.1 hi).1; simpa [famR] using this
  rw [List.getElem?_append_right (by omega), Nat.add_sub_cancel_left, List.getElem?_append_left hlt]
  exact famR_get hi
theorem lend_erase (hi : F[i]? = some f) : (A ++ (famR e sz F ++ R)).eraseIdx (A.length + i) = A ++ (famR e sz (F.eraseIdx i) ++ R) := by
  have hlt : i < (famR e sz F).length := by have := (List.getElem?_eq_some_iff.1 hi).1; simpa [famR] using this
  rw [List.eraseIdx_append_of_length_le (by omega), Nat.add_sub_cancel_left, List.eraseIdx_append_of_lt_length hlt, famR_eraseIdx]
theorem SH.lend (hi : F[i]? = some f) (h : SH w H (A ++ (famR e sz F ++ R))) : SH w H (.row f.1 e sz f.2.1.length f.2.2 :: (A ++ (famR e sz (F.eraseIdx i) ++ R))) := by
  have := h.front (lend_at (A := A) (e := e) (sz := sz) (R := R) hi)
  rwa [lend_erase hi] at this
theorem SH.unlend (hi : F[i]? = some f) (h : SH w H (.row f'.1 e sz f'.2.1.length f'.2.2 :: (A ++ (famR e sz (F.eraseIdx i) ++ R)))) : SH w H (A ++ (famR e sz (F.set i f') ++ R)) := by
  have hlt : i < F.length := (List.getElem?_eq_some_iff.1 hi).1
  have hlt' : i < (famR e sz F).length := by simpa [famR] using hlt
  rw [← lend_erase (A := A) (e := e) (sz := sz) (R := R) hi] at h
  have := h.back (by simp; omega)
  rw [List.set_append_right _ _ (by omega), Nat.add_sub_cancel_left, List.set_append_left _ _ hlt'] at this
  rwa [famR_set]
theorem SH.grow (h : SH w H (A ++ (famR e sz F ++ R))) : SH w H (A ++ (famR e sz (F ++ [(.slice none 0 0, [], [])]) ++ R)) := by
  have h1 := h.nilRow e sz
  have hl : (famR e sz F).length = F.length := by simp [famR]
  refine h1.pick (fun j => if j < A.length + F.length then j + 1 else if j = A.length + F.length then 0 else j) (fun j s hs => ?_) (fun j k hj hk he => ?_)
  · have e1 : A ++ (famR e sz (F ++ [(.slice none 0 0, [], [])]) ++ R) = (A ++ famR e sz F) ++ (.row (.slice none 0 0) e sz 0 [] :: R) := by simp [famR]
    have e2 : A ++ (famR e sz F ++ R) = (A ++ famR e sz F) ++ R := by simp
    rw [e1] at hs
    rw [e2]
    have hlen : (A ++ famR e sz F).length = A.length + F.length := by simp [famR]
    by_cases h1 : j < A.length + F.length
    · rw [if_pos h1, List.getElem?_cons_succ]
      rw [List.getElem?_append_left (by omega)] at hs ⊢
      exact hs
    · rw [if_neg h1]
      by_cases h2 : j = A.length + F.length
      · rw [if_pos h2]
        rw [List.getElem?_append_right (by omega), hlen, h2, Nat.sub_self] at hs
        simpa using hs
      · rw [if_neg h2]
        obtain ⟨q, rfl⟩ : ∃ q, j = A.length + F.length + q + 1 := ⟨j - (A.length + F.length) - 1, by omega⟩
        rw [List.getElem?_append_right (by omega), hlen, show A.length + F.length + q + 1 - (A.length + F.length) = q + 1 by omega, List.getElem?_cons_succ] at hs
        rw [List.getElem?_cons_succ, List.getElem?_append_right (by omega), hlen, show A.length + F.length + q - (A.length + F.length) = q by omega]
        exact hs
  · split at he <;> split at he <;> (try split at he) <;> (try split at he) <;> omega
end
section
variable {α β : Type} {c : Cd α} {d : Cd β} {H : Hp} {D : List (List α)} {F : Fam α} {G : Fam β} {w : World} {A B R : List Res} {e e0 : TypeId} {sz sz0 i : Nat} {f f' : Value × List α × List Value}
variable {P : Program} {Q : Exit → Act → World → Prop} {n : Nat} {L : List (Nat × Value)} {x : Exit} {cd : Code}
theorem SH.lend2 (hi : F[i]? = some f) (h : SH w H (A ++ (famR e0 sz0 G ++ (famR e sz F ++ R)))) : SH w H (.row f.1 e sz f.2.1.length f.2.2 :: (A ++ (famR e0 sz0 G ++ (famR e sz (F.eraseIdx i) ++ R)))) := by
  rw [← List.append_assoc] at h ⊢; exact h.lend hi
theorem SH.unlend2 (hi : F[i]? = some f) (h : SH w H (.row f'.1 e sz f'.2.1.length f'.2.2 :: (A ++ (famR e0 sz0 G ++ (famR e sz (F.eraseIdx i) ++ R))))) : SH w H (A ++ (famR e0 sz0 G ++ (famR e sz (F.set i f') ++ R))) := by
  rw [← List.append_assoc] at h ⊢; exact h.unlend hi
theorem SH.grow2 (h : SH w H (A ++ (famR e0 sz0 G ++ (famR e sz F ++ R)))) : SH w H (A ++ (famR e0 sz0 G ++ (famR e sz (F ++ [(.slice none 0 0, [], [])]) ++ R))) := by
  rw [← List.append_assoc] at h ⊢; exact h.grow
theorem Wp.lend (A : List Res) (hi : F[i]? = some f) (k : Wp P cd Q n L H (.row f.1 e sz f.2.1.length f.2.2 :: (A ++ (famR e sz (F.eraseIdx i) ++ R)))) : Wp P cd Q n L H (A ++ (famR e sz F ++ R)) := fun a w hf hs => k a w hf (hs.lend hi)
theorem Wp.lend2 (A : List Res) (hi : F[i]? = some f) (k : Wp P cd Q n L H (.row f.1 e sz f.2.1.length f.2.2 :: (A ++ (famR e0 sz0 G ++ (famR e sz (F.eraseIdx i) ++ R))))) : Wp P cd Q n L H (A ++ (famR e0 sz0 G ++ (famR e sz F ++ R))) := fun a w hf hs => k a w hf (hs.lend2 hi)
theorem At.unlend (A : List Res) (f' : Value × List α × List Value) (hi : F[i]? = some f) (k : At Q x n L H (A ++ (famR e sz (F.set i f') ++ R))) : At Q x n L H (.row f'.1 e sz f'.2.1.length f'.2.2 :: (A ++ (famR e sz (F.eraseIdx i) ++ R))) := fun a w hf hs => k a w hf (hs.unlend hi)
theorem At.unlend2 (A : List Res) (f' : Value × List α × List Value) (hi : F[i]? = some f) (k : At Q x n L H (A ++ (famR e0 sz0 G ++ (famR e sz (F.set i f') ++ R)))) : At Q x n L H (.row f'.1 e sz f'.2.1.length f'.2.2 :: (A ++ (famR e0 sz0 G ++ (famR e sz (F.eraseIdx i) ++ R)))) := fun a w hf hs => k a w hf (hs.unlend2 hi)
theorem SH.freezeFam : ∀ {F : Fam α} {H : Hp}, (∀ f ∈ F, LayL c H f.2.1 f.2.2) → SH w H (A ++ (famR e c.sz F ++ R)) → ∃ H', H.le H' ∧ SH w H' (A ++ R) ∧ ∀ f ∈ F, SlD c H' f.2.1 f.1
  | [], H, _, h => ⟨H, Hp.le.refl H, h, nofun⟩
  | f :: F, H, hl, h => by
    have hi : (A ++ (famR e c.sz (f :: F) ++ R))[A.length]? = some (.row f.1 e c.sz f.2.1.length f.2.2) := by simp [famR]
    have hle := h.rowLe hi
    obtain ⟨H1, g1, g2, g3⟩ := h.freeze hi
    have he : (A ++ (famR e c.sz (f :: F) ++ R)).eraseIdx A.length = A ++ (famR e c.sz F ++ R) := by
      rw [List.eraseIdx_append_of_length_le (Nat.le_refl _), Nat.sub_self]; rfl
    rw [he] at g2
    obtain ⟨H2, k1, k2, k3⟩ := SH.freezeFam (fun f' hf' => (hl f' (by simp [hf'])).mono g1) g2
    have hs : SlD c H1 f.2.1 f.1 := SlD.of g3 rfl ((hl f (by simp)).mono g1) hle
    refine ⟨H2, g1.trans k1, k2, fun f' hf' => ?_⟩
    rcases List.mem_cons.1 hf' with rfl | hf'
    · exact hs.mono k1
    · exact k3 f' hf'
theorem famLay : ∀ {F : Fam α}, (∀ f ∈ F, SlD c H f.2.1 f.1) → LayL (cL c) H (F.map (·.2.1)) (famV F)
  | [], _ => rfl
  | f :: F, h => ⟨[f.1], famV F, rfl, ⟨f.1, rfl, h f (by simp)⟩, famLay fun g hg => h g (by simp [hg])⟩
theorem famV_len (h : FamOk c H D F) : (famV F).length = D.length := by rw [← h.len]; simp [famV]
end
section
variable {w : World} {H : Hp} {A B R : List Res}
theorem SH.rot (h : SH w H (A ++ (B ++ R))) : SH w H (B ++ (A ++ R)) := by
  refine h.pick (fun j => if j < B.length then A.length + j else if j < B.length + A.length then j - B.length else j) (fun j s hs => ?_) (fun j k hj hk he => ?_)
  · by_cases h1 : j < B.length
    · rw [if_pos h1]
      rw [List.getElem?_append_left h1] at hs
      rw [List.getElem?_append_right (by omega), Nat.add_sub_cancel_left, List.getElem?_append_left h1]; exact hs
    · rw [if_neg h1]
      rw [List.getElem?_append_right (by omega)] at hs
      by_cases h2 : j < B.length + A.length
      · rw [if_pos h2]
        rw [List.getElem?_append_left (by omega)] at hs ⊢
        exact hs
      · rw [if_neg h2]
        rw [List.getElem?_append_right (by omega)] at hs
        rw [List.getElem?_append_right (by omega), List.getElem?_append_right (by omega)]
        rw [show j - A.length - B.length = j - B.length - A.length by omega]; exact hs
  · split at he <;> split at he <;> (try split at he) <;> (try split at he) <;> omega
end
section
variable {α : Type} {F : Fam α} {i : Nat} {f : Value × List α × List Value}
theorem famSet (v : Value) (y : List α) (ys : List Value) : (famV F).set i v = famV (F.set i (v, y, ys)) := by rw [famV_set]
theorem famSpl (v : Value) (y : List α) (ys : List Value) (hi : F[i]? = some f) : spl (famV F) (i * 1 + 0) [v] = famV (F.set i (v, y, ys)) := by
  rw [Nat.mul_one, Nat.add_zero, spl_set (by have := (List.getElem?_eq_some_iff.1 hi).1; simpa [famV] using this)]
  exact famSet v y ys
theorem At.rowOne {Q : Exit → Act → World → Prop} {n : Nat} {L : List (Nat × Value)} {H : Hp} {O : List Res} {x : Exit} {i size m : Nat} {v : Value} {e : TypeId} {xs : List Value} (hi : O[i]? = some (.row v e size m xs)) (k : v.oneCell' = true → At Q x n L H O) : At Q x n L H O := fun a w hf hs => k (hs.rowOne hi) a w hf hs
end
theorem Seg.freezeFam {α : Type} {c : Cd α} {P : Program} {Q : Exit → Act → World → Prop} {ops : Array Oper} {rest : List Oper} {n : Nat} {L : List (Nat × Value)} {H : Hp} {R : List Res} {D : List (List α)} {F : Fam α} {e : TypeId} (A : List Res) (hN : FamOk c H D F) (k : ∀ H', H.le H' → LayL (cL c) H' D (famV F) → Seg P ops Q rest n L H' (A ++ R)) : Seg P ops Q rest n L H (A ++ (famR e c.sz F ++ R)) := fun a w hf hs => by
  obtain ⟨H', h1, h2, h3⟩ := hs.freezeFam hN.lay
  have h4 := famLay h3
  rw [hN.dat] at h4
  exact k H' h1 h4 a w hf h2
end Go.GK
namespace Go.GK
theorem wbits0 (a b c d : BitVec 64) : word (bitsOf a b c d) 0 = a := by
  apply BitVec.eq_of_getLsbD_eq; intro j hj; rw [word_bit]; simp [hj, bitsOf]
theorem wbits1 (a b c d : BitVec 64) : word (bitsOf a b c d) 1 = b := by
  apply BitVec.eq_of_getLsbD_eq; intro j hj; rw [word_bit]
  simp only [hj, decide_true, Bool.true_and, bitsOf]
  rw [if_neg (by omega), if_pos (by omega), show 64 * 1 + j - 64 = j by omega]
theorem wbits2 (a b c d : BitVec 64) : word (bitsOf a b c d) 2 = c := by
  apply BitVec.eq_of_getLsbD_eq; intro j hj; rw [word_bit]
  simp only [hj, decide_true, Bool.true_and, bitsOf]
  rw [if_neg (by omega), if_neg (by omega), if_pos (by omega), show 64 * 2 + j - 128 = j by omega]
theorem wbits3 (a b c d : BitVec 64) : word (bitsOf a b c d) 3 = d := by
  apply BitVec.eq_of_getLsbD_eq; intro j hj; rw [word_bit]
  simp only [hj, decide_true, Bool.true_and, bitsOf]
  rw [if_neg (by omega), if_neg (by omega), if_neg (by omega), show 64 * 3 + j - 192 = j by omega]
section
variable {P : Program} {T : TypeId} {E : Operand → Option Value} {H : Hp} {O : List Res} {x y : Operand} {Tx Ty : TypeId}
theorem OpT.shlI {k : IntKind} {a : BitVec 64} {e : Int} (hx : E x = some (w64 a)) (hy : E y = some (.int k e)) (h0 : 0 ≤ e) : OpT P (.binOp .shl Tx x y Ty) T E H O (w64 (a <<< e.toNat)) :=
  OpT.shlW (n := e.toNat) hx (by rw [hy, Int.toNat_of_nonneg h0])
theorem intAdd_w (a b : BitVec 64) : IntKind.u64.wrap ((a.toNat : Int) + (b.toNat : Int)) = ((a + b).toNat : Int) := by
  simp [IntKind.wrap, IntKind.signed, IntKind.bits, BitVec.toNat_add]
theorem OpT.addBv {a b : BitVec 64} (hx : E x = some (w64 a)) (hy : E y = some (w64 b)) : OpT P (.binOp .add Tx x y Ty) T E H O (w64 (a + b)) := by
  have h := OpT.addW (P := P) (T := T) (H := H) (O := O) (Tx := Tx) (Ty := Ty) (k := .u64) (m := (a.toNat : Int)) (n := (b.toNat : Int)) hx hy
  rwa [intAdd_w] at h
end
theorem layRx_mkB {H : Hp} {k : Int} {a b c d : BitVec 64} {l : List Rx} {v : Value} (h : SlD cRx H l v) : cRx.Lay H (.mk k (bitsOf a b c d) l) [.int .i64 k, w64 a, w64 b, w64 c, w64 d, v] := by
  have := layRx_mk (k := k) (p := bitsOf a b c d) h
  rwa [wbits0, wbits1, wbits2, wbits3] at this
section
variable {P : Program} {T : TypeId} {E : Operand → Option Value} {H : Hp} {O : List Res} {x : Operand}
theorem OpT.field1 {s i off ft : Nat} {d : TypeDesc} {cs : Array Value} {v : Value} (hF : Fld P s i off ft) (ht : P.underlying ft = some d) (hd : aggB d = false) (hx : E x = some (.agg cs)) (hv : cs[off]? = some v) : OpT P (.field s x i) T E H O v := .of_run fun ac w o ho _ he _ => by
  obtain ⟨fs, f, h1, h2, h3, h4, _⟩ := hF.ex
  subst h3; subst h4
  simp [execOp, ho, he x _ hx, Instr.field, sem_under h1, h2, part, run_isAgg ht, hd, hv, asAgg]
end
section
variable {P : Program} {T : TypeId} {E : Operand → Option Value} {H : Hp} {O : List Res} {α : Type} {c : Cd α}
theorem OpS.restF {op : Op} {e : TypeId} {l : List α} {xs : List Value} (h : OpS P op T E H (.emp :: O) (fun v H' O' => H' = H ∧ O' = .row v e c.sz l.length xs :: O)) (hL : LayL c H l xs) : OpS P op T E H O (fun v H' O' => O = O' ∧ SlD c H' l v) :=
  fun a w o next Q ho hT he hw k => h a w o next Q ho hT he (hw.push (World.grownBy.refl w none) trivial (fun b hb => by cases hb)) fun v w' H' O' hle hp hs => by
    obtain ⟨rfl, rfl⟩ := hp
    have hb := hs.rowLe (i := 0) rfl
    obtain ⟨H2, g1, g2, g3⟩ := hs.freeze (i := 0) rfl
    exact k v w' H2 _ (hle.trans g1) ⟨rfl, SlD.of g3 rfl (hL.mono g1) hb⟩ g2
theorem OpS.buildF2 {t e : TypeId} {len bytes : Nat} {z : Value} {zs cs : Array Value} {ps : List (Nat × Operand)} {vs : List (Nat × Value)} {vcs : List (Nat × Array Value)} {l : List α} (ht : P.underlying t = some (.slice e)) (hz : TI P e c.sz bytes z) (hzc : z.cells = zs)
    (hlen : Nat.ble (len * c.sz) 16777216 = true) (h0 : Nat.blt 0 (len * c.sz) = true) (hps : evp E ps = some vs) (hv : VC vs vcs) (hf : fillC (fun i => some (i * c.sz, c.sz)) ((Array.range (len * c.sz)).map (zs[· % zs.size]!)) vcs = some cs) (hcs : cs.size = len * c.sz) (hll : len = l.length) (hL : LayL c H l cs.toList) :
    OpS P (.buildSlice t len ps.toArray) T E H O (fun v H' O' => O = O' ∧ SlD c H' l v) := by
  subst hll
  exact OpS.restF ((OpS.buildR2 (ρ := fun _ => undef) (i := 0) 0 ht hz hzc hlen h0 hps hv hf hcs rfl).mono (by rintro v H' O' ⟨h1, h2, _⟩; exact ⟨h1, h2⟩)) hL
theorem OpS.buildF1 {t e : TypeId} {bytes : Nat} {z v : Value} {cs : List Value} {x : Operand} {y : α} (ht : P.underlying t = some (.slice e)) (hz : TI P e c.sz bytes z) (hlen : Nat.ble c.sz 16777216 = true) (h0 : Nat.blt 0 c.sz = true) (hx : E x = some v) (hc : v.cells.toList = cs) (hcs : cs.length = c.sz) (hL : LayL c H [y] cs) :
    OpS P (.buildSlice t 1 #[(0, x)]) T E H O (fun v H' O' => O = O' ∧ SlD c H' [y] v) :=
  OpS.restF ((OpS.buildR1 (ρ := fun _ => undef) (i := 0) 0 ht hz hlen h0 hx hc hcs rfl).mono (by rintro v H' O' ⟨h1, h2, _⟩; exact ⟨h1, h2⟩)) hL
end
end Go.GK
namespace Go.GK
open Go.RowKit Go.Deep
section
variable {H : Type} {enc : TypeId × Value → H} {P : Program} {w : World} {base : Nat} {spare : Nat → Bool} {held : Bool} {α β : Type}
def RdB (enc : TypeId × Value → H) (P : Program) (w : World) (base : Nat) (spare : Nat → Bool) (held : Bool) (N : Nat) (c : Cd α) (t : TypeId) : Prop :=
  ∀ n, n < N → ∀ cs y, cs.length = c.sz → DataW.trod enc P w base spare held n t cs = some y → ∃ a, c.Lay (Hp.of w) a cs
theorem RdB.i64 {N : Nat} {t : TypeId} (ht : P.underlying t = some (.int .i64)) : RdB enc P w base spare held N cI64 t := fun n _ cs y _ hy => by
  obtain ⟨m, h1, _, _⟩ := DataW.trod_int ht hy
  exact ⟨m, h1⟩
theorem RdB.u8 {N : Nat} {t : TypeId} (ht : P.underlying t = some (.int .u8)) : RdB enc P w base spare held N cU8 t := fun n _ cs y _ hy => by
  obtain ⟨m, h1, _, h2⟩ := DataW.trod_int ht hy
  have hb : 0 ≤ m ∧ m ≤ 255 := by simpa [Lit.wf, IntKind.min, IntKind.max, IntKind.signed, IntKind.bits] using h2
  exact ⟨m, h1, hb⟩
theorem RdB.b {N : Nat} {t : TypeId} (ht : P.underlying t = some .bool) : RdB enc P w base spare held N cB t := fun n _ cs y _ hy => by
  obtain ⟨b, h1, _⟩ := DataW.trod_bool ht hy
  exact ⟨b, h1⟩
theorem LayL_mk {c : Cd α} {Hh : Hp} : ∀ {l : List (α × List Value)}, (∀ x ∈ l, c.Lay Hh x.1 x.2) → LayL c Hh (l.map (·.1)) (l.flatMap (·.2))
  | [], _ => rfl
  | x :: l, h => ⟨x.2, l.flatMap (·.2), rfl, h x (by simp), LayL_mk fun y hy => h y (by simp [hy])⟩
theorem flat_len' {sz : Nat} : ∀ {l : List (α × List Value)}, (∀ x ∈ l, x.2.length = sz) → (l.flatMap (·.2)).length = l.length * sz
  | [], _ => by simp
  | x :: l, h => by
    rw [List.flatMap_cons, List.length_append, h x (by simp), flat_len' fun y hy => h y (by simp [hy]), List.length_cons, Nat.add_mul]; omega
theorem flat_get' {sz : Nat} : ∀ {l : List (α × List Value)} (_ : ∀ x ∈ l, x.2.length = sz) (i j : Nat) (x : α × List Value), l[i]? = some x → j < sz → (l.flatMap (·.2))[i * sz + j]? = x.2[j]?
  | [], _, i, j, x, h, _ => by simp at h
  | y :: l, hl, 0, j, x, h, hj => by
    simp at h; subst h
    rw [List.flatMap_cons, Nat.zero_mul, Nat.zero_add, List.getElem?_append_left (by rw [hl y (by simp)]; exact hj)]
  | y :: l, hl, i + 1, j, x, h, hj => by
    rw [List.flatMap_cons, List.getElem?_append_right (by rw [hl y (by simp), Nat.add_mul]; omega), hl y (by simp)]
    rw [show (i + 1) * sz + j - sz = i * sz + j by rw [Nat.add_mul]; omega]
    exact flat_get' (fun z hz => hl z (by simp [hz])) i j x (by simpa using h) hj
theorem RdB.sl {N : Nat} {c : Cd α} {t e : TypeId} (ht : P.underlying t = some (.slice e)) (hc : P.cellsOf e = c.sz) (h : RdB enc P w base spare held N c e) : RdB enc P w base spare held (N + 1) (cL c) t := fun n hn cs y _ hy => by
  have hfin : ∃ v, cs = [v] ∧ ∃ l : List α, SlD c (Hp.of w) l v := by
    rcases DataW.trod_slice ht hy with ⟨h0, _⟩ | ⟨a, len, cap, elems, rest, n', hfu, h0, _, hb, hl, hm, hlen, hel, _, _⟩
    · exact ⟨_, h0, [], SlD.nil⟩
    · obtain ⟨l, h1, h2⟩ := choose_list (Q := fun i (b : α × List Value) => c.Lay (Hp.of w) b.1 b.2 ∧ ∀ j u, b.2[j]? = some u → w.cell? (a.add (i * c.sz + j)) = some u) len fun i hi => by
        have he := hel i hi
        rw [show elems[i]? = some elems[i] by simp] at he
        simp only [Option.bind_eq_some_iff] at he
        obtain ⟨cs', hcs, htr⟩ := he
        obtain ⟨hbl, hlen', hcell⟩ := World.cells?_some hcs
        rw [hc] at hlen'
        obtain ⟨b, hR⟩ := h n' (by omega) cs' _ hlen' htr
        refine ⟨(b, cs'), hR, fun j u hj => ?_⟩
        have hj' : j < c.sz := by rw [← hlen']; exact (List.getElem?_eq_some_iff.1 hj).1
        have := hcell j (by rw [hc]; exact hj')
        rw [addr_add_add, hc, hj] at this
        exact this
      have hQ : ∀ x ∈ l, c.Lay (Hp.of w) x.1 x.2 := fun x hx => by
        obtain ⟨i, hi, rfl⟩ := List.getElem_of_mem hx
        exact (h2 i _ (List.getElem?_eq_getElem hi)).1
      have hsz : ∀ x ∈ l, x.2.length = c.sz := fun x hx => c.len (hQ x hx)
      refine ⟨_, h0, l.map (·.1), ⟨⟨l.flatMap (·.2), ⟨by rw [flat_len' hsz]; simp, .inr ⟨a, cap, by rw [List.length_map, h1]⟩, fun k u hk => ?_⟩, LayL_mk hQ⟩, by rw [List.length_map, h1]; unfold maxLen at hm; omega⟩⟩
      have hlt : k < l.length * c.sz := by rw [← flat_len' hsz]; exact (List.getElem?_eq_some_iff.1 hk).1
      have hs0 : 0 < c.sz := Nat.pos_of_ne_zero fun h => by rw [h] at hlt; simp at hlt
      have hi : k / c.sz < l.length := Nat.div_lt_of_lt_mul (by rw [Nat.mul_comm]; exact hlt)
      have hk2 : k = k / c.sz * c.sz + k % c.sz := by rw [Nat.mul_comm]; exact (Nat.div_add_mod k c.sz).symm
      have hg := flat_get' hsz (k / c.sz) (k % c.sz) l[k / c.sz] (List.getElem?_eq_getElem hi) (Nat.mod_lt _ hs0)
      rw [← hk2, hk] at hg
      have := (h2 (k / c.sz) l[k / c.sz] (List.getElem?_eq_getElem hi)).2 (k % c.sz) u hg.symm
      rw [← hk2] at this
      exact HCell.of_cell this
  obtain ⟨v, h1, l, h2⟩ := hfin
  exact ⟨l, v, h1, h2⟩
def RdF (enc : TypeId × Value → H) (P : Program) (w : World) (base : Nat) (spare : Nat → Bool) (held : Bool) (N : Nat) (c : Cd α) (off : Nat) (fs : List Field) : Prop :=
  ∀ n, n < N → ∀ cs : List Value, (∀ f ∈ fs, ∃ y, DataW.trod enc P w base spare held n f.type ((cs.drop f.offset).take (P.cellsOf f.type)) = some y) → off + c.sz ≤ cs.length → ∃ a, c.Lay (Hp.of w) a ((cs.drop off).take c.sz)
theorem RdF.one {N : Nat} {c : Cd α} {off : Nat} {f : Field} (h : RdB enc P w base spare held N c f.type) (hc : P.cellsOf f.type = c.sz) (ho : f.offset = off) : RdF enc P w base spare held N c off [f] := fun n hn cs hf hl => by
  obtain ⟨y, hy⟩ := hf f (by simp)
  rw [hc, ho] at hy
  exact h n hn _ y (by simp; omega) hy
theorem RdF.cons {N : Nat} {c : Cd α} {d : Cd β} {off : Nat} {f : Field} {fs : List Field} (h : RdB enc P w base spare held N c f.type) (hc : P.cellsOf f.type = c.sz) (ho : f.offset = off) (hr : RdF enc P w base spare held N d (off + c.sz) fs) :
    RdF enc P w base spare held N (cP c d) off (f :: fs) := fun n hn cs hf hl => by
  have hl : off + (c.sz + d.sz) ≤ cs.length := hl
  obtain ⟨a, ha⟩ := RdF.one h hc ho n hn cs (fun g hg => hf g (by simp at hg; simp [hg])) (by omega)
  obtain ⟨b, hb⟩ := hr n hn cs (fun g hg => hf g (by simp [hg])) (by omega)
  refine ⟨(a, b), _, _, ?_, ha, hb⟩
  show (cs.drop off).take (c.sz + d.sz) = _
  rw [List.take_add, List.drop_drop]
theorem RdB.st {N : Nat} {c : Cd α} {t : TypeId} {fs : Array Field} (ht : P.underlying t = some (.struct fs)) (h : RdF enc P w base spare held N c 0 fs.toList) : RdB enc P w base spare held (N + 1) c t := fun n hn cs y hl hy => by
  obtain ⟨xs, n', hfu, _, hlen, hxs, hx⟩ := DataW.trod_struct ht hy
  obtain ⟨a, ha⟩ := h n' (by omega) cs (fun f hf => by
    obtain ⟨i, hi, rfl⟩ := List.getElem_of_mem hf
    have := hx i fs.toList[i] (by simp at hi ⊢)
    rw [this]
    have hi' : i < xs.length := by rw [hxs]; simpa using hi
    exact ⟨xs[i], List.getElem?_eq_getElem hi'⟩) (by omega)
  refine ⟨a, ?_⟩
  rw [List.drop_zero, List.take_of_length_le (by omega)] at ha
  exact ha
theorem RdB.slArg {r : Reach} {b0 : Nat} {c : Cd α} {t e : TypeId} {v : Value} {d : DataW H} {p : List MemPlace} (ht : P.underlying t = some (.slice e)) (hc : P.cellsOf e = c.sz) (h : ∀ N, RdB enc P w base spare held N c e)
    (hv : Value.okWide P w r b0 t v) (hd : DataW.Trod enc P w base spare held t v d p) : ∃ l, SlD c (Hp.of w) l v := by
  obtain ⟨a, len, cap, rfl⟩ := Go.WideShapes.okWide_slice ht hv
  obtain ⟨fuel, hf⟩ := hd
  obtain ⟨l, v', h1, h2⟩ := RdB.sl ht hc (h fuel) fuel (by omega) _ _ rfl hf
  have h1 : [Value.slice a len cap] = [v'] := h1
  simp at h1; subst h1
  exact ⟨l, h2⟩
end
section
variable {α : Type} {c : Cd α} {H : Hp}
theorem LayL.mem : ∀ {l : List α} {xs : List Value}, LayL c H l xs → ∀ a ∈ l, ∃ cs, c.Lay H a cs
  | [], _, _, a, ha => by cases ha
  | b :: l, _, ⟨cs, ys, _, h1, h2⟩, a, ha => by
    rcases List.mem_cons.1 ha with rfl | ha
    · exact ⟨cs, h1⟩
    · exact LayL.mem h2 a ha
theorem SlD.mem {l : List α} {v : Value} (h : SlD c H l v) : ∀ a ∈ l, ∃ cs, c.Lay H a cs := by
  obtain ⟨⟨xs, _, h2⟩, _⟩ := h
  exact h2.mem
end
end Go.GK
namespace Go.GK
open Go.RowKit Go.Deep
section
variable {H : Type} {enc : TypeId × Value → H} {P : Program} {w : World} {base : Nat} {spare : Nat → Bool} {held : Bool}
theorem LaidH.of {W : World} {g : Nat} (hg : P.globalNamed "internal/strconv.uint64pow10" = some g) (h : Lib.TabIs P W "internal/strconv.uint64pow10" .u64 Lib.pow10Tab) : LaidH P (Hp.of W) := fun w O hs => by
  have hb := hs.below
  have hlt : g < W.heap.size := by
    unfold Lib.TabIs World.var? at h
    rw [hg] at h
    simp only [Option.bind_some] at h
    split at h
    · rename_i he
      exact (Array.getElem?_eq_some_iff.1 he).1
    · cases h
  exact Go.var?_below hb hg hlt h
end
end Go.GK
namespace Go.Proofs.YtjmbmodmepdmjaaGreatDoor
open Go.GK
theorem follows : Tryz.prog.follows .mixedOrders = true := by kernel_rfl
theorem ti3 : TI Tryz.prog 3 1 8 (.int .i64 0) := TI.of (by kernel_rfl)
theorem ti4 : TI Tryz.prog 4 1 1 (.bool false) := TI.of (by kernel_rfl)
theorem ti5 : TI Tryz.prog 5 1 1 (.int .u8 0) := TI.of (by kernel_rfl)
theorem ti22 : TI Tryz.prog 22 1 24 (.slice none 0 0) := TI.of (by kernel_rfl)
theorem ti26 : TI Tryz.prog 26 1 24 (.agg #[.slice none 0 0]) := TI.of (by kernel_rfl)
theorem ti32 : TI Tryz.prog 32 1 8 (.int .u64 0) := TI.of (by kernel_rfl)
theorem ti34 : TI Tryz.prog 34 4 32 (.agg #[.int .u64 0, .int .u64 0, .int .u64 0, .int .u64 0]) := TI.of (by kernel_rfl)
theorem ti37 : TI Tryz.prog 37 6 64 (.agg #[.int .i64 0, .int .u64 0, .int .u64 0, .int .u64 0, .int .u64 0, .slice none 0 0]) := TI.of (by kernel_rfl)
theorem ti41 : TI Tryz.prog 41 1 24 (.slice none 0 0) := TI.of (by kernel_rfl)
theorem ti43 : TI Tryz.prog 43 2 32 (.agg #[.bool false, .slice none 0 0]) := TI.of (by kernel_rfl)
theorem ti46 : TI Tryz.prog 46 3 16 (.agg #[.int .u8 0, .int .u8 0, .int .i64 0]) := TI.of (by kernel_rfl)
theorem ti52 : TI Tryz.prog 52 1 24 (.slice none 0 0) := TI.of (by kernel_rfl)
theorem ti55 : TI Tryz.prog 55 1 24 (.slice none 0 0) := TI.of (by kernel_rfl)
theorem ti63 : TI Tryz.prog 63 1 24 (.slice none 0 0) := TI.of (by kernel_rfl)
theorem ti64 : TI Tryz.prog 64 1 24 (.slice none 0 0) := TI.of (by kernel_rfl)
theorem ti66 : TI Tryz.prog 66 3 56 (.agg #[.slice none 0 0, .slice none 0 0, .int .i64 0]) := TI.of (by kernel_rfl)
theorem ti84 : TI Tryz.prog 84 4 96 (.agg #[.slice none 0 0, .slice none 0 0, .slice none 0 0, .slice none 0 0]) := TI.of (by kernel_rfl)
theorem ti91 : TI Tryz.prog 91 257 257 (.agg (List.replicate 257 (.bool false)).toArray) := TI.of (by kernel_rfl)
theorem ti94 : TI Tryz.prog 94 1 24 (.slice none 0 0) := TI.of (by kernel_rfl)
theorem ti96 : TI Tryz.prog 96 6 48 (.agg #[.int .u64 0, .int .u64 0, .int .u64 0, .int .u64 0, .int .i64 0, .int .i64 0]) := TI.of (by kernel_rfl)
theorem ti109 : TI Tryz.prog 109 5 40 (.agg #[.int .u64 0, .int .u64 0, .int .u64 0, .int .u64 0, .int .i64 0]) := TI.of (by kernel_rfl)
theorem ti113 : TI Tryz.prog 113 2 2 (.agg #[.int .u8 0, .int .u8 0]) := TI.of (by kernel_rfl)
theorem ti120 : TI Tryz.prog 120 1 8 (.pointer none) := TI.of (by kernel_rfl)
theorem ti121 : TI Tryz.prog 121 1 24 (.slice none 0 0) := TI.of (by kernel_rfl)
theorem ti123 : TI Tryz.prog 123 2 32 (.agg #[.pointer none, .slice none 0 0]) := TI.of (by kernel_rfl)
theorem ti133 : TI Tryz.prog 133 8 64 (.agg #[.int .u64 0, .int .u64 0, .int .u64 0, .int .u64 0, .int .u64 0, .int .u64 0, .int .u64 0, .int .u64 0]) := TI.of (by kernel_rfl)
theorem ent6 : Ent Tryz.prog 6 := ⟨Tryz.f6, Tryz.func6, by kernel_rfl, rfl⟩
theorem ent7 : Ent Tryz.prog 7 := ⟨Tryz.f7, Tryz.func7, by kernel_rfl, rfl⟩
theorem ent8 : Ent Tryz.prog 8 := ⟨Tryz.f8, Tryz.func8, by kernel_rfl, rfl⟩
theorem ent9 : Ent Tryz.prog 9 := ⟨Tryz.f9, Tryz.func9, by kernel_rfl, rfl⟩
theorem ent10 : Ent Tryz.prog 10 := ⟨Tryz.f10, Tryz.func10, by kernel_rfl, rfl⟩
theorem ent11 : Ent Tryz.prog 11 := ⟨Tryz.f11, Tryz.func11, by kernel_rfl, rfl⟩
theorem ent12 : Ent Tryz.prog 12 := ⟨Tryz.f12, Tryz.func12, by kernel_rfl, rfl⟩
theorem ent14 : Ent Tryz.prog 14 := ⟨Tryz.f14, Tryz.func14, by kernel_rfl, rfl⟩
theorem ent16 : Ent Tryz.prog 16 := ⟨Tryz.f16, Tryz.func16, by kernel_rfl, rfl⟩
theorem ent17 : Ent Tryz.prog 17 := ⟨Tryz.f17, Tryz.func17, by kernel_rfl, rfl⟩
theorem ent19 : Ent Tryz.prog 19 := ⟨Tryz.f19, Tryz.func19, by kernel_rfl, rfl⟩
theorem ent20 : Ent Tryz.prog 20 := ⟨Tryz.f20, Tryz.func20, by kernel_rfl, rfl⟩
theorem ent21 : Ent Tryz.prog 21 := ⟨Tryz.f21, Tryz.func21, by kernel_rfl, rfl⟩
theorem ent22 : Ent Tryz.prog 22 := ⟨Tryz.f22, Tryz.func22, by kernel_rfl, rfl⟩
theorem ent23 : Ent Tryz.prog 23 := ⟨Tryz.f23, Tryz.func23, by kernel_rfl, rfl⟩
theorem ent24 : Ent Tryz.prog 24 := ⟨Tryz.f24, Tryz.func24, by kernel_rfl, rfl⟩
theorem ent25 : Ent Tryz.prog 25 := ⟨Tryz.f25, Tryz.func25, by kernel_rfl, rfl⟩
theorem ent26 : Ent Tryz.prog 26 := ⟨Tryz.f26, Tryz.func26, by kernel_rfl, rfl⟩
theorem ent27 : Ent Tryz.prog 27 := ⟨Tryz.f27, Tryz.func27, by kernel_rfl, rfl⟩
theorem ent28 : Ent Tryz.prog 28 := ⟨Tryz.f28, Tryz.func28, by kernel_rfl, rfl⟩
theorem ent29 : Ent Tryz.prog 29 := ⟨Tryz.f29, Tryz.func29, by kernel_rfl, rfl⟩
theorem ent30 : Ent Tryz.prog 30 := ⟨Tryz.f30, Tryz.func30, by kernel_rfl, rfl⟩
theorem ent31 : Ent Tryz.prog 31 := ⟨Tryz.f31, Tryz.func31, by kernel_rfl, rfl⟩
theorem ent32 : Ent Tryz.prog 32 := ⟨Tryz.f32, Tryz.func32, by kernel_rfl, rfl⟩
theorem ent33 : Ent Tryz.prog 33 := ⟨Tryz.f33, Tryz.func33, by kernel_rfl, rfl⟩
theorem ent35 : Ent Tryz.prog 35 := ⟨Tryz.f35, Tryz.func35, by kernel_rfl, rfl⟩
theorem ent36 : Ent Tryz.prog 36 := ⟨Tryz.f36, Tryz.func36, by kernel_rfl, rfl⟩
theorem ent37 : Ent Tryz.prog 37 := ⟨Tryz.f37, Tryz.func37, by kernel_rfl, rfl⟩
theorem ent38 : Ent Tryz.prog 38 := ⟨Tryz.f38, Tryz.func38, by kernel_rfl, rfl⟩
theorem ent39 : Ent Tryz.prog 39 := ⟨Tryz.f39, Tryz.func39, by kernel_rfl, rfl⟩
theorem ent44 : Ent Tryz.prog 44 := ⟨Tryz.f44, Tryz.func44, by kernel_rfl, rfl⟩
theorem ent45 : Ent Tryz.prog 45 := ⟨Tryz.f45, Tryz.func45, by kernel_rfl, rfl⟩
theorem ent46 : Ent Tryz.prog 46 := ⟨Tryz.f46, Tryz.func46, by kernel_rfl, rfl⟩
theorem ent48 : Ent Tryz.prog 48 := ⟨Tryz.f48, Tryz.func48, by kernel_rfl, rfl⟩
theorem ent49 : Ent Tryz.prog 49 := ⟨Tryz.f49, Tryz.func49, by kernel_rfl, rfl⟩
theorem ent50 : Ent Tryz.prog 50 := ⟨Tryz.f50, Tryz.func50, by kernel_rfl, rfl⟩
theorem ent51 : Ent Tryz.prog 51 := ⟨Tryz.f51, Tryz.func51, by kernel_rfl, rfl⟩
theorem ent52 : Ent Tryz.prog 52 := ⟨Tryz.f52, Tryz.func52, by kernel_rfl, rfl⟩
theorem ent53 : Ent Tryz.prog 53 := ⟨Tryz.f53, Tryz.func53, by kernel_rfl, rfl⟩
theorem ent54 : Ent Tryz.prog 54 := ⟨Tryz.f54, Tryz.func54, by kernel_rfl, rfl⟩
theorem ent55 : Ent Tryz.prog 55 := ⟨Tryz.f55, Tryz.func55, by kernel_rfl, rfl⟩
theorem ent56 : Ent Tryz.prog 56 := ⟨Tryz.f56, Tryz.func56, by kernel_rfl, rfl⟩
theorem ent57 : Ent Tryz.prog 57 := ⟨Tryz.f57, Tryz.func57, by kernel_rfl, rfl⟩
theorem ent58 : Ent Tryz.prog 58 := ⟨Tryz.f58, Tryz.func58, by kernel_rfl, rfl⟩
theorem ent59 : Ent Tryz.prog 59 := ⟨Tryz.f59, Tryz.func59, by kernel_rfl, rfl⟩
theorem ent60 : Ent Tryz.prog 60 := ⟨Tryz.f60, Tryz.func60, by kernel_rfl, rfl⟩
theorem ent61 : Ent Tryz.prog 61 := ⟨Tryz.f61, Tryz.func61, by kernel_rfl, rfl⟩
theorem ent62 : Ent Tryz.prog 62 := ⟨Tryz.f62, Tryz.func62, by kernel_rfl, rfl⟩
theorem ent63 : Ent Tryz.prog 63 := ⟨Tryz.f63, Tryz.func63, by kernel_rfl, rfl⟩
theorem ent70 : Ent Tryz.prog 70 := ⟨Tryz.f70, Tryz.func70, by kernel_rfl, rfl⟩
theorem ent71 : Ent Tryz.prog 71 := ⟨Tryz.f71, Tryz.func71, by kernel_rfl, rfl⟩
theorem ent72 : Ent Tryz.prog 72 := ⟨Tryz.f72, Tryz.func72, by kernel_rfl, rfl⟩
theorem ent73 : Ent Tryz.prog 73 := ⟨Tryz.f73, Tryz.func73, by kernel_rfl, rfl⟩
theorem ent74 : Ent Tryz.prog 74 := ⟨Tryz.f74, Tryz.func74, by kernel_rfl, rfl⟩
theorem ent75 : Ent Tryz.prog 75 := ⟨Tryz.f75, Tryz.func75, by kernel_rfl, rfl⟩
theorem ent76 : Ent Tryz.prog 76 := ⟨Tryz.f76, Tryz.func76, by kernel_rfl, rfl⟩
theorem ent77 : Ent Tryz.prog 77 := ⟨Tryz.f77, Tryz.func77, by kernel_rfl, rfl⟩
theorem ent80 : Ent Tryz.prog 80 := ⟨Tryz.f80, Tryz.func80, by kernel_rfl, rfl⟩
theorem ent83 : Ent Tryz.prog 83 := ⟨Tryz.f83, Tryz.func83, by kernel_rfl, rfl⟩
theorem eqg34 : Tryz.prog.eqGuardType Tryz.prog.depth 34 = false := by kernel_rfl
theorem fl26_0 : Fld Tryz.prog 26 0 0 22 := Fld.of (k := 0) (by kernel_rfl)
theorem fl37_0 : Fld Tryz.prog 37 0 0 3 := Fld.of (k := 0) (by kernel_rfl)
theorem fl37_1 : Fld Tryz.prog 37 1 1 34 := Fld.of (k := 3) (by kernel_rfl)
theorem fl37_2 : Fld Tryz.prog 37 2 5 35 := Fld.of (k := 0) (by kernel_rfl)
theorem fl43_0 : Fld Tryz.prog 43 0 0 4 := Fld.of (k := 0) (by kernel_rfl)
theorem fl43_1 : Fld Tryz.prog 43 1 1 41 := Fld.of (k := 0) (by kernel_rfl)
theorem fl46_0 : Fld Tryz.prog 46 0 0 5 := Fld.of (k := 0) (by kernel_rfl)
theorem fl46_1 : Fld Tryz.prog 46 1 1 5 := Fld.of (k := 0) (by kernel_rfl)
theorem fl46_2 : Fld Tryz.prog 46 2 2 3 := Fld.of (k := 0) (by kernel_rfl)
theorem fl66_0 : Fld Tryz.prog 66 0 0 63 := Fld.of (k := 0) (by kernel_rfl)
theorem fl66_1 : Fld Tryz.prog 66 1 1 64 := Fld.of (k := 0) (by kernel_rfl)
theorem fl66_2 : Fld Tryz.prog 66 2 2 3 := Fld.of (k := 0) (by kernel_rfl)
theorem fl84_0 : Fld Tryz.prog 84 0 0 55 := Fld.of (k := 0) (by kernel_rfl)
theorem fl84_1 : Fld Tryz.prog 84 1 1 63 := Fld.of (k := 0) (by kernel_rfl)
theorem fl84_2 : Fld Tryz.prog 84 2 2 52 := Fld.of (k := 0) (by kernel_rfl)
theorem fl84_3 : Fld Tryz.prog 84 3 3 55 := Fld.of (k := 0) (by kernel_rfl)
theorem fl96_0 : Fld Tryz.prog 96 0 0 34 := Fld.of (k := 3) (by kernel_rfl)
theorem fl96_1 : Fld Tryz.prog 96 1 4 3 := Fld.of (k := 0) (by kernel_rfl)
theorem fl96_2 : Fld Tryz.prog 96 2 5 3 := Fld.of (k := 0) (by kernel_rfl)
theorem fl109_0 : Fld Tryz.prog 109 0 0 34 := Fld.of (k := 3) (by kernel_rfl)
theorem fl109_1 : Fld Tryz.prog 109 1 4 3 := Fld.of (k := 0) (by kernel_rfl)
theorem fl123_0 : Fld Tryz.prog 123 0 0 120 := Fld.of (k := 0) (by kernel_rfl)
theorem fl123_1 : Fld Tryz.prog 123 1 1 121 := Fld.of (k := 0) (by kernel_rfl)
theorem ints46 : intsB Tryz.prog 46 [.u8, .u8, .i64] = true := by kernel_rfl
theorem plf26 : placesOf Tryz.prog 26 = some [(0, 1)] := by kernel_rfl
theorem plf37 : placesOf Tryz.prog 37 = some [(0, 1), (1, 4), (5, 1)] := by kernel_rfl
theorem plf43 : placesOf Tryz.prog 43 = some [(0, 1), (1, 1)] := by kernel_rfl
theorem plf46 : placesOf Tryz.prog 46 = some [(0, 1), (1, 1), (2, 1)] := by kernel_rfl
theorem plf66 : placesOf Tryz.prog 66 = some [(0, 1), (1, 1), (2, 1)] := by kernel_rfl
theorem plf84 : placesOf Tryz.prog 84 = some [(0, 1), (1, 1), (2, 1), (3, 1)] := by kernel_rfl
theorem plf96 : placesOf Tryz.prog 96 = some [(0, 4), (4, 1), (5, 1)] := by kernel_rfl
theorem plf109 : placesOf Tryz.prog 109 = some [(0, 4), (4, 1)] := by kernel_rfl
abbrev u1 := Tryz.underlying1
abbrev u2 := Tryz.underlying2
abbrev u3 := Tryz.underlying3
abbrev u4 := Tryz.underlying4
abbrev u5 := Tryz.underlying5
abbrev u8 := Tryz.underlying8
abbrev u9 := Tryz.underlying9
abbrev u22 := Tryz.underlying22
abbrev u26 := Tryz.underlying26
abbrev u32 := Tryz.underlying32
abbrev u34 := Tryz.underlying34
abbrev u35 := Tryz.underlying35
abbrev u37 := Tryz.underlying37
abbrev u41 := Tryz.underlying41
abbrev u43 := Tryz.underlying43
abbrev u46 := Tryz.underlying46
abbrev u52 := Tryz.underlying52
abbrev u55 := Tryz.underlying55
abbrev u63 := Tryz.underlying63
abbrev u64 := Tryz.underlying64
abbrev u86 := Tryz.underlying86
abbrev u89 := Tryz.underlying89
abbrev u91 := Tryz.underlying91
abbrev u94 := Tryz.underlying94
abbrev u96 := Tryz.underlying96
abbrev u97 := Tryz.underlying97
abbrev u100 := Tryz.underlying100
abbrev u107 := Tryz.underlying107
abbrev u109 := Tryz.underlying109
abbrev u111 := Tryz.underlying111
abbrev u113 := Tryz.underlying113
end Go.Proofs.YtjmbmodmepdmjaaGreatDoor
namespace Go.Proofs
open Go.Shelf
def Tryz.laysM171_ren : Go.Shelf.Ren := ⟨fun | 171 => 71 | 243 => 84 | 246 => 105 | 283 => 115 | 284 => 116 | 285 => 117 | 286 => 118 | 129 => 95 | 317 => 121 | 318 => 122 | 319 => 123 | 320 => 124 | 337 => 125 | 338 => 126 | n => n, fun | 3 => 3 | 9 => 9 | 2 => 2 | 4 => 4 | 171 => 167 | 0 => 0 | 53 => 32 | 37 => 121 | 5 => 5 | 173 => 169 | 212 => 177 | 51 => 149 | 20 => 20 | 213 => 178 | 46 => 136 | 232 => 179 | 233 => 180 | n => n, fun | 17 => 0 | 18 => 1 | 19 => 2 | n => n⟩
theorem Tryz.laysM171 : Go.Proofs.LaysM.n171 Tryz.prog Tryz.laysM171_ren := {
  mixed := by kernel_rfl
  f129 := Tryz.func95.trans (congrArg some (by kernel_rfl))
  f171 := Tryz.func71.trans (congrArg some (by kernel_rfl))
  f243 := Tryz.func84.trans (congrArg some (by kernel_rfl))
  f246 := Tryz.func105.trans (congrArg some (by kernel_rfl))
  f283 := Tryz.func115.trans (congrArg some (by kernel_rfl))
  f284 := Tryz.func116.trans (congrArg some (by kernel_rfl))
  f285 := Tryz.func117.trans (congrArg some (by kernel_rfl))
  f286 := Tryz.func118.trans (congrArg some (by kernel_rfl))
  f317 := Tryz.func121.trans (congrArg some (by kernel_rfl))
  f318 := Tryz.func122.trans (congrArg some (by kernel_rfl))
  f319 := Tryz.func123.trans (congrArg some (by kernel_rfl))
  f320 := Tryz.func124.trans (congrArg some (by kernel_rfl))
  f337 := Tryz.func125.trans (congrArg some (by kernel_rfl))
  f338 := Tryz.func126.trans (congrArg some (by kernel_rfl))
  t0 := Tryz.underlying0
  a0 := Tryz.isAgg0
  z0 := Tryz.sizeOf0
  v0 := Tryz.zeroValue0
  t2 := Tryz.underlying2
  a2 := Tryz.isAgg2
  z2 := Tryz.sizeOf2
  v2 := Tryz.zeroValue2
  t3 := Tryz.underlying3
  a3 := Tryz.isAgg3
  z3 := Tryz.sizeOf3
  v3 := Tryz.zeroValue3
  t4 := Tryz.underlying4
  a4 := Tryz.isAgg4
  z4 := Tryz.sizeOf4
  v4 := Tryz.zeroValue4
  t5 := Tryz.underlying5
  a5 := Tryz.isAgg5
  z5 := Tryz.sizeOf5
  v5 := Tryz.zeroValue5
  t9 := Tryz.underlying9
  a9 := Tryz.isAgg9
  z9 := Tryz.sizeOf9
  v9 := Tryz.zeroValue9
  t20 := Tryz.underlying20
  a20 := Tryz.isAgg20
  z20 := Tryz.sizeOf20
  v20 := Tryz.zeroValue20
  t37 := Tryz.underlying121
  a37 := Tryz.isAgg121
  z37 := Tryz.sizeOf121
  v37 := Tryz.zeroValue121
  t46 := Tryz.underlying136
  a46 := Tryz.isAgg136
  z46 := Tryz.sizeOf136
  v46 := Tryz.zeroValue136
  t51 := Tryz.underlying149
  a51 := Tryz.isAgg149
  z51 := Tryz.sizeOf149
  v51 := Tryz.zeroValue149
  t53 := Tryz.underlying32
  a53 := Tryz.isAgg32
  z53 := Tryz.sizeOf32
  v53 := Tryz.zeroValue32
  t171 := Tryz.underlying167
  a171 := Tryz.isAgg167
  z171 := Tryz.sizeOf167
  v171 := Tryz.zeroValue167
  t173 := Tryz.underlying169
  a173 := Tryz.isAgg169
  z173 := Tryz.sizeOf169
  v173 := Tryz.zeroValue169
  t212 := Tryz.underlying177
  a212 := Tryz.isAgg177
  z212 := Tryz.sizeOf177
  v212 := Tryz.zeroValue177
  t213 := Tryz.underlying178
  a213 := Tryz.isAgg178
  z213 := Tryz.sizeOf178
  t232 := Tryz.underlying179
  a232 := Tryz.isAgg179
  z232 := Tryz.sizeOf179
  v232 := Tryz.zeroValue179
  t233 := Tryz.underlying180
  a233 := Tryz.isAgg180
  z233 := Tryz.sizeOf180
  v233 := Tryz.zeroValue180
  g17 := by kernel_rfl
  g18 := by kernel_rfl
  g19 := by kernel_rfl
  i0 := by kernel_rfl
  i2 := by kernel_rfl
  i3 := by kernel_rfl
  i4 := by kernel_rfl
  i5 := by kernel_rfl
  i9 := by kernel_rfl
  i20 := by kernel_rfl
  i37 := by kernel_rfl
  i46 := by kernel_rfl
  i51 := by kernel_rfl
  i53 := by kernel_rfl
  i171 := by kernel_rfl
  i173 := by kernel_rfl
  i212 := by kernel_rfl
  i232 := by kernel_rfl
  i233 := by kernel_rfl
  m17 := by kernel_rfl
  m18 := by kernel_rfl
  m19 := by kernel_rfl }
open Go.RowKit Go.Sort Go.Lib in

theorem Tryz.strconv_Itoa (n : Int) (h0 : -9223372036854775808 ≤ n) (h1 : n ≤ 9223372036854775807) (w : World) (htab : Lib.TabIs Tryz.prog w "internal/strconv.uint64pow10" .u64 Lib.pow10Tab) :
    Calls Tryz.prog 71 #[.int .i64 n] w fun e w' => e = .returned (.string ⟨(Lib.itoa n).toArray⟩) ∧ ∃ k os, w' = grow (w.drewN k) os := Any.strconv_Itoa Tryz.laysM171 n h0 h1 w htab
def Tryz.lays189_ren : Go.Shelf.Ren := ⟨fun | 189 => 59 | 125 => 79 | 257 => 78 | 128 => 94 | 129 => 95 | 294 => 85 | 295 => 86 | 296 => 87 | 297 => 88 | 298 => 89 | 299 => 90 | 216 => 91 | 300 => 92 | 301 => 93 | 328 => 106 | 329 => 107 | 330 => 108 | 331 => 109 | 332 => 110 | 215 => 111 | 343 => 119 | n => n, fun | 28 => 55 | 3 => 3 | 46 => 136 | 0 => 0 | 51 => 149 | 53 => 32 | 4 => 4 | 183 => 142 | 182 => 141 | 131 => 87 | 5 => 5 | 9 => 9 | 218 => 159 | 222 => 163 | 228 => 171 | 229 => 172 | n => n, fun | n => n⟩
theorem Tryz.lays189 : Go.Proofs.Lays.n189 Tryz.prog Tryz.lays189_ren := {
  mixed := by kernel_rfl
  f125 := Tryz.func79.trans (congrArg some (by kernel_rfl))
  f128 := Tryz.func94.trans (congrArg some (by kernel_rfl))
  f129 := Tryz.func95.trans (congrArg some (by kernel_rfl))
  f189 := Tryz.func59.trans (congrArg some (by kernel_rfl))
  f215 := Tryz.func111.trans (congrArg some (by kernel_rfl))
  f216 := Tryz.func91.trans (congrArg some (by kernel_rfl))
  f257 := Tryz.func78.trans (congrArg some (by kernel_rfl))
  f294 := Tryz.func85.trans (congrArg some (by kernel_rfl))
  f295 := Tryz.func86.trans (congrArg some (by kernel_rfl))
  f296 := Tryz.func87.trans (congrArg some (by kernel_rfl))
  f297 := Tryz.func88.trans (congrArg some (by kernel_rfl))
  f298 := Tryz.func89.trans (congrArg some (by kernel_rfl))
  f299 := Tryz.func90.trans (congrArg some (by kernel_rfl))
  f300 := Tryz.func92.trans (congrArg some (by kernel_rfl))
  f301 := Tryz.func93.trans (congrArg some (by kernel_rfl))
  f328 := Tryz.func106.trans (congrArg some (by kernel_rfl))
  f329 := Tryz.func107.trans (congrArg some (by kernel_rfl))
  f330 := Tryz.func108.trans (congrArg some (by kernel_rfl))
  f331 := Tryz.func109.trans (congrArg some (by kernel_rfl))
  f332 := Tryz.func110.trans (congrArg some (by kernel_rfl))
  f343 := Tryz.func119.trans (congrArg some (by kernel_rfl))
  t0 := Tryz.underlying0
  a0 := Tryz.isAgg0
  z0 := Tryz.sizeOf0
  v0 := Tryz.zeroValue0
  t3 := Tryz.underlying3
  a3 := Tryz.isAgg3
  z3 := Tryz.sizeOf3
  v3 := Tryz.zeroValue3
  t4 := Tryz.underlying4
  a4 := Tryz.isAgg4
  z4 := Tryz.sizeOf4
  v4 := Tryz.zeroValue4
  t5 := Tryz.underlying5
  a5 := Tryz.isAgg5
  z5 := Tryz.sizeOf5
  v5 := Tryz.zeroValue5
  t9 := Tryz.underlying9
  a9 := Tryz.isAgg9
  z9 := Tryz.sizeOf9
  v9 := Tryz.zeroValue9
  t28 := Tryz.underlying55
  a28 := Tryz.isAgg55
  z28 := Tryz.sizeOf55
  v28 := Tryz.zeroValue55
  t46 := Tryz.underlying136
  a46 := Tryz.isAgg136
  z46 := Tryz.sizeOf136
  v46 := Tryz.zeroValue136
  t51 := Tryz.underlying149
  a51 := Tryz.isAgg149
  z51 := Tryz.sizeOf149
  v51 := Tryz.zeroValue149
  t53 := Tryz.underlying32
  a53 := Tryz.isAgg32
  z53 := Tryz.sizeOf32
  v53 := Tryz.zeroValue32
  t131 := Tryz.underlying87
  a131 := Tryz.isAgg87
  z131 := Tryz.sizeOf87
  v131 := Tryz.zeroValue87
  t182 := Tryz.underlying141
  a182 := Tryz.isAgg141
  z182 := Tryz.sizeOf141
  v182 := Tryz.zeroValue141
  t183 := Tryz.underlying142
  a183 := Tryz.isAgg142
  z183 := Tryz.sizeOf142
  v183 := Tryz.zeroValue142
  t218 := Tryz.underlying159
  a218 := Tryz.isAgg159
  z218 := Tryz.sizeOf159
  v218 := Tryz.zeroValue159
  t222 := Tryz.underlying163
  a222 := Tryz.isAgg163
  z222 := Tryz.sizeOf163
  v222 := Tryz.zeroValue163
  t228 := Tryz.underlying171
  a228 := Tryz.isAgg171
  z228 := Tryz.sizeOf171
  v228 := Tryz.zeroValue171
  t229 := Tryz.underlying172
  a229 := Tryz.isAgg172
  z229 := Tryz.sizeOf172
  v229 := Tryz.zeroValue172 }
open Go.Sort Go.RowKit in
theorem Tryz.slices_Sort_int (blk off cap : Nat) (zs : List Int) (w : World) (hH : Holds (Value.int .i64) w blk off zs.toArray) (hblk : blk < w.heap.size) (hsz : zs.length < 4611686018427387904) :
    Calls Tryz.prog 59 #[.slice (some ⟨blk, off, none⟩) zs.length cap] w fun e w' =>
      e = .returned (.tuple #[]) ∧ ∃ n os, w' = grow (putRow (Value.int .i64) (Sort.ahead w n) blk off (zs.mergeSort fun x y => decide (x ≤ y)).toArray) os := Any.slices_Sort_int Tryz.lays189 blk off cap zs w hH hblk hsz
def Tryz.sortE_ren : Go.Shelf.Ren := ⟨fun | 6 => 63 | 15 => 79 | 14 => 81 | 28 => 94 | 29 => 95 | 20 => 96 | 21 => 97 | 22 => 98 | 23 => 99 | 24 => 100 | 25 => 101 | 26 => 102 | 27 => 103 | 46 => 112 | 47 => 107 | 48 => 108 | 49 => 113 | 50 => 114 | 57 => 120 | n => n, fun | 22 => 41 | 24 => 46 | 25 => 115 | 3 => 3 | 39 => 136 | 0 => 0 | 53 => 149 | 55 => 32 | 4 => 4 | 46 => 142 | 45 => 141 | 50 => 87 | 5 => 5 | 9 => 9 | 66 => 159 | 70 => 163 | 76 => 171 | 77 => 172 | n => n, fun | n => n⟩
theorem Tryz.sortE : Go.Proofs.SlLaysF0.n6 Tryz.prog Tryz.sortE_ren := {
  mixed := by kernel_rfl
  f6 := ⟨Tryz.f63.name, by decide, Tryz.func63.trans (congrArg some (by kernel_rfl))⟩
  f14 := ⟨Tryz.f81.name, by decide, Tryz.func81.trans (congrArg some (by kernel_rfl))⟩
  f15 := Tryz.func79.trans (congrArg some (by kernel_rfl))
  f20 := ⟨Tryz.f96.name, by decide, Tryz.func96.trans (congrArg some (by kernel_rfl))⟩
  f21 := ⟨Tryz.f97.name, by decide, Tryz.func97.trans (congrArg some (by kernel_rfl))⟩
  f22 := ⟨Tryz.f98.name, by decide, Tryz.func98.trans (congrArg some (by kernel_rfl))⟩
  f23 := ⟨Tryz.f99.name, by decide, Tryz.func99.trans (congrArg some (by kernel_rfl))⟩
  f24 := ⟨Tryz.f100.name, by decide, Tryz.func100.trans (congrArg some (by kernel_rfl))⟩
  f25 := ⟨Tryz.f101.name, by decide, Tryz.func101.trans (congrArg some (by kernel_rfl))⟩
  f26 := ⟨Tryz.f102.name, by decide, Tryz.func102.trans (congrArg some (by kernel_rfl))⟩
  f27 := ⟨Tryz.f103.name, by decide, Tryz.func103.trans (congrArg some (by kernel_rfl))⟩
  f28 := Tryz.func94.trans (congrArg some (by kernel_rfl))
  f29 := Tryz.func95.trans (congrArg some (by kernel_rfl))
  f46 := ⟨Tryz.f112.name, by decide, Tryz.func112.trans (congrArg some (by kernel_rfl))⟩
  f47 := Tryz.func107.trans (congrArg some (by kernel_rfl))
  f48 := Tryz.func108.trans (congrArg some (by kernel_rfl))
  f49 := ⟨Tryz.f113.name, by decide, Tryz.func113.trans (congrArg some (by kernel_rfl))⟩
  f50 := ⟨Tryz.f114.name, by decide, Tryz.func114.trans (congrArg some (by kernel_rfl))⟩
  f57 := ⟨Tryz.f120.name, by decide, Tryz.func120.trans (congrArg some (by kernel_rfl))⟩
  t0 := Tryz.underlying0
  a0 := Tryz.isAgg0
  z0 := Tryz.sizeOf0
  v0 := Tryz.zeroValue0
  t3 := Tryz.underlying3
  a3 := Tryz.isAgg3
  z3 := Tryz.sizeOf3
  v3 := Tryz.zeroValue3
  t4 := Tryz.underlying4
  a4 := Tryz.isAgg4
  z4 := Tryz.sizeOf4
  v4 := Tryz.zeroValue4
  t5 := Tryz.underlying5
  a5 := Tryz.isAgg5
  z5 := Tryz.sizeOf5
  v5 := Tryz.zeroValue5
  t9 := Tryz.underlying9
  a9 := Tryz.isAgg9
  z9 := Tryz.sizeOf9
  v9 := Tryz.zeroValue9
  t22 := Tryz.underlying41
  a22 := Tryz.isAgg41
  z22 := Tryz.sizeOf41
  v22 := Tryz.zeroValue41
  t25 := Tryz.underlying115
  a25 := Tryz.isAgg115
  z25 := Tryz.sizeOf115
  v25 := Tryz.zeroValue115
  t39 := Tryz.underlying136
  a39 := Tryz.isAgg136
  z39 := Tryz.sizeOf136
  v39 := Tryz.zeroValue136
  t45 := Tryz.underlying141
  a45 := Tryz.isAgg141
  z45 := Tryz.sizeOf141
  v45 := Tryz.zeroValue141
  t46 := Tryz.underlying142
  a46 := Tryz.isAgg142
  z46 := Tryz.sizeOf142
  v46 := Tryz.zeroValue142
  t50 := Tryz.underlying87
  a50 := Tryz.isAgg87
  z50 := Tryz.sizeOf87
  v50 := Tryz.zeroValue87
  t53 := Tryz.underlying149
  a53 := Tryz.isAgg149
  z53 := Tryz.sizeOf149
  v53 := Tryz.zeroValue149
  t55 := Tryz.underlying32
  a55 := Tryz.isAgg32
  z55 := Tryz.sizeOf32
  v55 := Tryz.zeroValue32
  t66 := Tryz.underlying159
  a66 := Tryz.isAgg159
  z66 := Tryz.sizeOf159
  v66 := Tryz.zeroValue159
  t70 := Tryz.underlying163
  a70 := Tryz.isAgg163
  z70 := Tryz.sizeOf163
  v70 := Tryz.zeroValue163
  t76 := Tryz.underlying171
  a76 := Tryz.isAgg171
  z76 := Tryz.sizeOf171
  v76 := Tryz.zeroValue171
  t77 := Tryz.underlying172
  a77 := Tryz.isAgg172
  z77 := Tryz.sizeOf172
  v77 := Tryz.zeroValue172 }
end Go.Proofs
