/- Sets of bytes as tests on numbers, and the four words that hold them. No program in sight. -/
import Derived.Test.YtjmbmodmepdmjaaDoorKitMem
namespace Go.GK

def word (p : Nat → Bool) (i : Nat) : BitVec 64 := (BitVec.ofBoolListLE ((List.range 64).map fun j => p (64 * i + j))).cast (by simp)
theorem word_bit (p : Nat → Bool) (i j : Nat) : (word p i).getLsbD j = (decide (j < 64) && p (64 * i + j)) := by
  simp only [word, BitVec.getLsbD_cast, BitVec.getLsbD_ofBoolListLE]
  by_cases h : j < 64
  · simp [h]
  · simp [h]
def bcs (p : Nat → Bool) : Array Value := #[w64 (word p 0), w64 (word p 1), w64 (word p 2), w64 (word p 3)]
def bs (p : Nat → Bool) : Value := .agg (bcs p)
theorem bcs_get (p : Nat → Bool) (i : Nat) (h : i < 4) : (bcs p)[i]? = some (w64 (word p i)) := by
  unfold bcs
  match i, h with
  | 0, _ => rfl
  | 1, _ => rfl
  | 2, _ => rfl
  | 3, _ => rfl
theorem bcs_congr {p q : Nat → Bool} (h : ∀ x, x < 256 → p x = q x) : bcs p = bcs q := by
  have e : ∀ i, i < 4 → word p i = word q i := fun i hi => by
    apply BitVec.eq_of_getLsbD_eq
    intro j hj
    rw [word_bit, word_bit, h _ (by omega)]
  unfold bcs
  rw [e 0 (by omega), e 1 (by omega), e 2 (by omega), e 3 (by omega)]
theorem w64_inj {a b : BitVec 64} (h : w64 a = w64 b) : a = b := by
  simp only [w64, Value.int.injEq, true_and] at h
  exact BitVec.eq_of_toNat_eq (by omega)
theorem bcs_inj {p q : Nat → Bool} (h : bcs p = bcs q) : ∀ x, x < 256 → p x = q x := by
  intro x hx
  have h1 := bcs_get p (x / 64) (by omega)
  rw [h, bcs_get q (x / 64) (by omega)] at h1
  have h2 := w64_inj (Option.some.inj h1)
  have h3 := word_bit p (x / 64) (x % 64)
  rw [← h2, word_bit] at h3
  have h4 : x % 64 < 64 := Nat.mod_lt _ (by decide)
  simp only [h4, decide_true, Bool.true_and] at h3
  rw [show 64 * (x / 64) + x % 64 = x by omega] at h3
  exact h3.symm
theorem bs_eq_iff {p q : Nat → Bool} : bs p = bs q ↔ ∀ x, x < 256 → p x = q x :=
  ⟨fun h => bcs_inj (by unfold bs at h; injection h), fun h => by unfold bs; rw [bcs_congr h]⟩
/- whatever four words -/
def bitsOf (a b c d : BitVec 64) (x : Nat) : Bool :=
  if x < 64 then a.getLsbD x else if x < 128 then b.getLsbD (x - 64) else if x < 192 then c.getLsbD (x - 128) else d.getLsbD (x - 192)
theorem bitsOf_bcs (a b c d : BitVec 64) : #[w64 a, w64 b, w64 c, w64 d] = bcs (bitsOf a b c d) := by
  have e0 : word (bitsOf a b c d) 0 = a := by
    apply BitVec.eq_of_getLsbD_eq; intro j hj; rw [word_bit]; simp [hj, bitsOf]
  have e1 : word (bitsOf a b c d) 1 = b := by
    apply BitVec.eq_of_getLsbD_eq; intro j hj; rw [word_bit]
    simp only [hj, decide_true, Bool.true_and, bitsOf]
    rw [if_neg (by omega), if_pos (by omega), show 64 * 1 + j - 64 = j by omega]
  have e2 : word (bitsOf a b c d) 2 = c := by
    apply BitVec.eq_of_getLsbD_eq; intro j hj; rw [word_bit]
    simp only [hj, decide_true, Bool.true_and, bitsOf]
    rw [if_neg (by omega), if_neg (by omega), if_pos (by omega), show 64 * 2 + j - 128 = j by omega]
  have e3 : word (bitsOf a b c d) 3 = d := by
    apply BitVec.eq_of_getLsbD_eq; intro j hj; rw [word_bit]
    simp only [hj, decide_true, Bool.true_and, bitsOf]
    rw [if_neg (by omega), if_neg (by omega), if_neg (by omega), show 64 * 3 + j - 192 = j by omega]
  unfold bcs
  rw [e0, e1, e2, e3]

theorem has_bit (p : Nat → Bool) (b : Nat) : ((word p (b / 64) >>> (b % 64)) &&& 1#64 = 1#64) ↔ p b = true := by
  have h4 : b % 64 < 64 := Nat.mod_lt _ (by decide)
  have h0 : (word p (b / 64) >>> (b % 64)).getLsbD 0 = p b := by
    rw [BitVec.getLsbD_ushiftRight, word_bit]
    simp only [Nat.add_zero, h4, decide_true, Bool.true_and]
    rw [show 64 * (b / 64) + b % 64 = b by omega]
  constructor
  · intro h
    rw [← h0]
    have := congrArg (fun v => BitVec.getLsbD v 0) h
    simpa using this
  · intro h
    apply BitVec.eq_of_getLsbD_eq
    intro j hj
    rw [BitVec.getLsbD_and]
    by_cases hj0 : j = 0
    · subst hj0; rw [h0, h]; simp
    · simp [BitVec.getLsbD_one, hj0]
theorem or_bit (p : Nat → Bool) (b : Nat) : word p (b / 64) ||| (1#64 <<< (b % 64)) = word (fun x => p x || x == b) (b / 64) := by
  have h4 : b % 64 < 64 := Nat.mod_lt _ (by decide)
  apply BitVec.eq_of_getLsbD_eq
  intro j hj
  rw [BitVec.getLsbD_or, word_bit, word_bit, BitVec.getLsbD_shiftLeft]
  simp only [hj, decide_true, Bool.true_and]
  congr 1
  by_cases e : j = b % 64
  · subst e
    rw [show 64 * (b / 64) + b % 64 = b by omega]
    simp
  · have : (64 * (b / 64) + j == b) = false := by rw [beq_eq_false_iff_ne]; omega
    rw [this]
    by_cases hl : j < b % 64
    · simp [hl]
    · have h5 : ¬ j - b % 64 = 0 := by omega
      simp [BitVec.getLsbD_one, h5]
theorem word_other (p : Nat → Bool) (b i : Nat) (h : i ≠ b / 64) : word (fun x => p x || x == b) i = word p i := by
  apply BitVec.eq_of_getLsbD_eq
  intro j hj
  rw [word_bit, word_bit]
  have : (64 * i + j == b) = false := by rw [beq_eq_false_iff_ne]; omega
  rw [this]; simp
theorem bcs_set (p : Nat → Bool) (b : Nat) (hb : b < 256) : (bcs p).setIfInBounds (b / 64) (w64 (word p (b / 64) ||| (1#64 <<< (b % 64)))) = bcs (fun x => p x || x == b) := by
  rw [or_bit]
  apply Array.ext_getElem?
  intro i
  rw [Array.getElem?_setIfInBounds]
  have hs : (bcs p).size = 4 := rfl
  by_cases hi : i < 4
  · rw [bcs_get _ i hi, bcs_get _ i hi]
    by_cases e : b / 64 = i
    · subst e; simp [hs, hi]
    · simp [e]; rw [word_other p b i (fun x => e x.symm)]
  · have h1 : (bcs p)[i]? = none := by simp [hs]; omega
    have h2 : (bcs (fun x => p x || x == b))[i]? = none := by simp [bcs]; omega
    rw [h1, h2, hs]
    by_cases e : b / 64 = i
    · omega
    · simp [e]
theorem word_or (p q : Nat → Bool) (i : Nat) : word p i ||| word q i = word (fun x => p x || q x) i := by
  apply BitVec.eq_of_getLsbD_eq; intro j hj; rw [BitVec.getLsbD_or, word_bit, word_bit, word_bit]; simp [hj]
theorem word_and (p q : Nat → Bool) (i : Nat) : word p i &&& word q i = word (fun x => p x && q x) i := by
  apply BitVec.eq_of_getLsbD_eq; intro j hj; rw [BitVec.getLsbD_and, word_bit, word_bit, word_bit]; simp [hj]
theorem word_not (p : Nat → Bool) (i : Nat) : ~~~ word p i = word (fun x => !p x) i := by
  apply BitVec.eq_of_getLsbD_eq; intro j hj; rw [BitVec.getLsbD_not, word_bit, word_bit]; simp [hj]
theorem bcs_empty : (#[.int .u64 0, .int .u64 0, .int .u64 0, .int .u64 0] : Array Value) = bcs (fun _ => false) := by
  have : word (fun _ => false) = fun _ => 0#64 := by
    funext i; apply BitVec.eq_of_getLsbD_eq; intro j hj; rw [word_bit]; simp
  unfold bcs; rw [this]; rfl
theorem bcs_one (p : Nat → Bool) : ∀ u ∈ bcs p, u.oneCell' = true := by
  intro u hu; simp [bcs] at hu; rcases hu with rfl | rfl | rfl | rfl <;> rfl
theorem bcs_size (p : Nat → Bool) : (bcs p).size = 4 := rfl
attribute [irreducible] word
end Go.GK
