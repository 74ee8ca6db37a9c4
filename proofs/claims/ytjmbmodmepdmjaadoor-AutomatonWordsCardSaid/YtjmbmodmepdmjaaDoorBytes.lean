/- The plain laws of the walks over sets of bytes. No program in sight. -/
import Derived.Test.YtjmbmodmepdmjaaDoorBs
namespace Go.GK
theorem has_rem (p : Nat → Bool) (b : Nat) : decide ((word p (b / 64) >>> (b % 64)) % 2#64 = 1#64) = p b := by
  rw [Bool.eq_iff_iff, decide_eq_true_iff, ← has_bit p b]
  have e : (word p (b / 64) >>> (b % 64)) % 2#64 = (word p (b / 64) >>> (b % 64)) &&& 1#64 := by
    apply BitVec.eq_of_toNat_eq
    rw [BitVec.toNat_umod, BitVec.toNat_and]
    exact (Nat.and_two_pow_sub_one_eq_mod _ 1).symm
  rw [e]
def ofTo (lo hi k : Nat) (x : Nat) : Bool := decide (lo ≤ x) && decide (x ≤ hi) && decide (x < k)
def ofP (lo hi : Nat) (x : Nat) : Bool := decide (lo ≤ x) && decide (x ≤ hi)
theorem ofTo_zero (lo hi : Nat) : bcs (ofTo lo hi 0) = bcs (fun _ => false) := bcs_congr fun x _ => by simp [ofTo]
theorem ofTo_hit (lo hi k : Nat) (h1 : (lo : Int) ≤ k) (h2 : (k : Int) ≤ hi) : bcs (fun x => ofTo lo hi k x || x == k) = bcs (ofTo lo hi (k + 1)) := bcs_congr fun x _ => by
  rw [Bool.eq_iff_iff]; simp [ofTo]; omega
theorem ofTo_skip (lo hi k : Nat) (h : ¬ ((lo : Int) ≤ k ∧ (k : Int) ≤ hi)) : bcs (ofTo lo hi k) = bcs (ofTo lo hi (k + 1)) := bcs_congr fun x _ => by
  rw [Bool.eq_iff_iff]; simp [ofTo]; omega
theorem ofTo_done (lo hi k : Nat) (h : 256 ≤ k) : bcs (ofTo lo hi k) = bcs (ofP lo hi) := bcs_congr fun x _ => by
  rw [Bool.eq_iff_iff]; simp [ofTo, ofP]; omega

/- word by word -/
def mixTo (h p : Nat → Bool) (k x : Nat) : Bool := if x < 64 * k then h x else p x
theorem mix_zero (h p : Nat → Bool) : bcs p = bcs (mixTo h p 0) := bcs_congr fun x _ => by simp [mixTo]
theorem mix_done (h p : Nat → Bool) (k : Nat) (hk : 4 ≤ k) : bcs (mixTo h p k) = bcs h := bcs_congr fun x hx => by simp only [mixTo]; rw [if_pos (by omega)]
theorem mix_word (h p : Nat → Bool) (k : Nat) : word (mixTo h p k) k = word p k := by
  apply BitVec.eq_of_getLsbD_eq; intro j hj; rw [word_bit, word_bit]; simp only [mixTo]; rw [if_neg (by omega)]
theorem mix_get (h p : Nat → Bool) (k : Nat) (hk : k < 4) : (bcs (mixTo h p k))[k]? = some (w64 (word p k)) := by rw [bcs_get _ k hk, mix_word]
theorem bcs_setw (f g : Nat → Bool) (i : Nat) (w : BitVec 64) (hi : i < 4) (hw : word g i = w) (ho : ∀ j, j < 4 → j ≠ i → word g j = word f j) : (bcs f).setIfInBounds i (w64 w) = bcs g := by
  apply Array.ext_getElem?
  intro j
  rw [Array.getElem?_setIfInBounds]
  by_cases hj : j < 4
  · rw [bcs_get _ j hj, bcs_get _ j hj]
    by_cases e : i = j
    · subst e; simp [bcs_size, hi, hw]
    · simp [e]; rw [ho j hj (fun x => e x.symm)]
  · have h1 : (bcs f)[j]? = none := by simp [bcs_size]; omega
    have h2 : (bcs g)[j]? = none := by simp [bcs_size]; omega
    rw [h1, h2, bcs_size]
    by_cases e : i = j
    · omega
    · simp [e]
theorem mix_step (h p : Nat → Bool) (k : Nat) (w : BitVec 64) (hk : k < 4) (hw : w = word h k) : (bcs (mixTo h p k)).setIfInBounds k (w64 w) = bcs (mixTo h p (k + 1)) := by
  refine bcs_setw _ _ k w hk ?_ fun j hj hne => ?_
  · rw [hw]; apply BitVec.eq_of_getLsbD_eq; intro i hi; rw [word_bit, word_bit]; simp only [mixTo]; rw [if_pos (by omega)]
  · apply BitVec.eq_of_getLsbD_eq; intro i hi; rw [word_bit, word_bit]; simp only [mixTo]
    by_cases e : 64 * j + i < 64 * k
    · rw [if_pos e, if_pos (by omega)]
    · rw [if_neg e, if_neg (by omega)]

/- byte by byte -/
def upTo (f : Nat → Bool) (k x : Nat) : Bool := f x && decide (x < k)
theorem upTo_zero (f : Nat → Bool) : bcs (fun _ => false) = bcs (upTo f 0) := bcs_congr fun x _ => by simp [upTo]
theorem upTo_hit (f : Nat → Bool) (k : Nat) (h : f k = true) : bcs (fun x => upTo f k x || x == k) = bcs (upTo f (k + 1)) := bcs_congr fun x _ => by
  by_cases e : x = k
  · subst e; simp [upTo, h]
  · have h1 : (x == k) = false := by simpa using e
    have h2 : (x < k + 1) ↔ (x < k) := by omega
    simp [upTo, h1, h2]
theorem upTo_skip (f : Nat → Bool) (k : Nat) (h : f k = false) : bcs (upTo f k) = bcs (upTo f (k + 1)) := bcs_congr fun x _ => by
  by_cases e : x = k
  · subst e; simp [upTo, h]
  · have h2 : (x < k + 1) ↔ (x < k) := by omega
    simp [upTo, h2]
theorem upTo_done (f : Nat → Bool) (k : Nat) (h : 256 ≤ k) : bcs (upTo f k) = bcs f := bcs_congr fun x hx => by
  have : x < k := by omega
  simp [upTo, this]

/- counting, the least one, the list -/
def listTo (p : Nat → Bool) (k : Nat) : List Nat := (List.range k).filter p
theorem listTo_hit (p : Nat → Bool) (k : Nat) (h : p k = true) : listTo p (k + 1) = listTo p k ++ [k] := by simp [listTo, List.range_succ, h]
theorem listTo_skip (p : Nat → Bool) (k : Nat) (h : p k = false) : listTo p (k + 1) = listTo p k := by simp [listTo, List.range_succ, h]
theorem listTo_len (p : Nat → Bool) (k : Nat) : (listTo p k).length ≤ k := by have := List.length_filter_le p (List.range k); simpa [listTo] using this
def cntTo (p : Nat → Bool) (k : Nat) : Nat := (listTo p k).length
theorem cntTo_le (p : Nat → Bool) (k : Nat) : cntTo p k ≤ k := listTo_len p k
theorem cntTo_hit (p : Nat → Bool) (k : Nat) (h : p k = true) : cntTo p (k + 1) = cntTo p k + 1 := by simp [cntTo, listTo_hit p k h]
theorem cntTo_skip (p : Nat → Bool) (k : Nat) (h : p k = false) : cntTo p (k + 1) = cntTo p k := by simp [cntTo, listTo_skip p k h]
def lst (p : Nat → Bool) : Nat := ((List.range 256).find? p).getD 0
def anyS (p : Nat → Bool) : Bool := ((List.range 256).find? p).isSome
theorem find_range (p : Nat → Bool) (k n : Nat) (hk : k < n) (h0 : ∀ x, x < k → p x = false) (h : p k = true) : (List.range n).find? p = some k := by
  rw [show n = k + (n - k) by omega, List.range_add, List.find?_append]
  have h1 : (List.range k).find? p = none := by
    rw [List.find?_eq_none]; intro x hx; simp [h0 x (List.mem_range.1 hx)]
  rw [h1, show n - k = (n - k - 1) + 1 by omega, List.range_succ_eq_map]
  simp [h]
theorem least_hit (p : Nat → Bool) (k : Nat) (hk : k < 256) (h0 : ∀ x, x < k → p x = false) (h : p k = true) : lst p = k ∧ anyS p = true := by
  simp [lst, anyS, find_range p k 256 hk h0 h]
theorem least_none (p : Nat → Bool) (k : Nat) (hk : 256 ≤ k) (h0 : ∀ x, x < k → p x = false) : lst p = 0 ∧ anyS p = false := by
  have h1 : (List.range 256).find? p = none := by
    rw [List.find?_eq_none]; intro x hx; simp [h0 x (by have := List.mem_range.1 hx; omega)]
  simp [lst, anyS, h1]
theorem none_succ (p : Nat → Bool) (k : Nat) (h0 : ∀ x, x < k → p x = false) (h : p k = false) : ∀ x, x < k + 1 → p x = false := fun x hx => by
  by_cases e : x = k
  · subst e; exact h
  · exact h0 x (by omega)
def encI (n : Nat) : List Value := [.int .i64 (n : Int)]
theorem upTo_lo (lo hi : Nat) : bcs (fun _ => false) = bcs (upTo (ofP lo hi) (lo + 0)) := bcs_congr fun x _ => by
  symm; rw [Bool.eq_false_iff]; simp [upTo, ofP]; intro h _; omega
theorem ofP_in (lo hi x : Nat) (h1 : lo ≤ x) (h2 : x ≤ hi) : ofP lo hi x = true := by simp [ofP, h1, h2]
theorem upTo_hi (lo hi k : Nat) (h : ¬ (k ≤ hi)) : bcs (upTo (ofP lo hi) k) = bcs (ofP lo hi) := bcs_congr fun x _ => by
  rw [Bool.eq_iff_iff]; simp [upTo, ofP]; omega
theorem cntTo_zero (p : Nat → Bool) : cntTo p 0 = 0 := rfl
theorem listTo_zero (p : Nat → Bool) : listTo p 0 = [] := rfl

/- ranges, from the left -/
def encB (a : Nat × Nat) : List Value := [.int .u8 (a.1 : Int), .int .u8 (a.2 : Int)]
def encZ (a : Nat × Nat) : List Value := [.int .i64 (a.1 : Int), .int .i64 (a.2 : Int)]
def setLast : List (Nat × Nat) → Nat → List (Nat × Nat)
  | [], _ => []
  | [a], k => [(a.1, k)]
  | a :: b :: l, k => a :: setLast (b :: l) k
theorem setLast_length : ∀ (l : List (Nat × Nat)) (k : Nat), (setLast l k).length = l.length
  | [], _ => rfl
  | [a], _ => rfl
  | a :: b :: l, k => by simp [setLast, setLast_length (b :: l) k]
theorem setLast_cells : ∀ (l : List (Nat × Nat)) (k : Nat), 0 < l.length → (l.flatMap encB).set ((l.length - 1) * 2 + 1) (.int .u8 (k : Int)) = (setLast l k).flatMap encB
  | [], _, h => by simp at h
  | [a], k, _ => by simp [setLast, encB]
  | a :: b :: l, k, _ => by
    have ih := setLast_cells (b :: l) k (by simp)
    simp only [setLast, List.flatMap_cons] at ih ⊢
    rw [← ih]
    simp only [encB, List.length_cons]
    rw [show (l.length + 1 + 1 - 1) * 2 + 1 = ((l.length + 1 - 1) * 2 + 1) + 1 + 1 by omega]
    rfl
def rgTo (p : Nat → Bool) : Nat → List (Nat × Nat)
  | 0 => []
  | k + 1 => if p k then (if 0 < k ∧ p (k - 1) = true then setLast (rgTo p k) k else rgTo p k ++ [(k, k)]) else rgTo p k
theorem rgTo_zero (p : Nat → Bool) : rgTo p 0 = [] := rfl
theorem rgTo_skip (p : Nat → Bool) (k : Nat) (h : p k = false) : rgTo p (k + 1) = rgTo p k := by simp [rgTo, h]
theorem rgTo_ext (p : Nat → Bool) (k : Nat) (h : p k = true) (h0 : 0 < k) (h1 : p (k - 1) = true) : rgTo p (k + 1) = setLast (rgTo p k) k := by simp [rgTo, h, h0, h1]
theorem rgTo_new (p : Nat → Bool) (k : Nat) (h : p k = true) (h1 : ¬ (0 < k ∧ p (k - 1) = true)) : rgTo p (k + 1) = rgTo p k ++ [(k, k)] := by
  simp only [rgTo, h, if_true]; rw [if_neg h1]
theorem rgTo_len (p : Nat → Bool) : ∀ k, (rgTo p k).length ≤ k
  | 0 => by simp [rgTo]
  | k + 1 => by
    have := rgTo_len p k
    simp only [rgTo]
    split
    · split
      · rw [setLast_length]; omega
      · simp; omega
    · omega
theorem rg_pos (p : Nat → Bool) (k : Nat) (h0 : 0 < k) (h : p (k - 1) = true) : 0 < (rgTo p k).length := by
  obtain ⟨j, rfl⟩ : ∃ j, k = j + 1 := ⟨k - 1, by omega⟩
  simp only [Nat.add_sub_cancel] at h
  by_cases h1 : 0 < j ∧ p (j - 1) = true
  · rw [rgTo_ext p j h h1.1 h1.2, setLast_length]
    exact rg_pos p j h1.1 h1.2
  · rw [rgTo_new p j h h1]; simp
theorem rg_ext_n (p : Nat → Bool) (k : Nat) (h : p k = true) (h0 : 0 < k) (h1 : p (k - 1) = true) : (rgTo p (k + 1)).length = (rgTo p k).length := by rw [rgTo_ext p k h h0 h1, setLast_length]
theorem rg_ext_xs (p : Nat → Bool) (k : Nat) (h : p k = true) (h0 : 0 < k) (h1 : p (k - 1) = true) : ((rgTo p k).flatMap encB).set (((rgTo p k).length - 1) * 2 + 1) (.int .u8 (k : Int)) = (rgTo p (k + 1)).flatMap encB := by
  rw [rgTo_ext p k h h0 h1, setLast_cells _ _ (rg_pos p k h0 h1)]
theorem encB_len (a : Nat × Nat) : (encB a).length = 2 := rfl
theorem encZ_len (a : Nat × Nat) : (encZ a).length = 2 := rfl
theorem rg_cells (p : Nat → Bool) (k : Nat) : ((rgTo p k).flatMap encB).length = (rgTo p k).length * 2 := flat_len encB 2 encB_len _

/- ranges, each run followed to its end -/
def hasI (p : Nat → Bool) (b : Int) : Bool := decide (0 ≤ b) && decide (b < 256) && p b.toNat
def runE (p : Nat → Bool) : Nat → Nat → Nat
  | 0, y => y
  | f + 1, y => if hasI p ((y : Int) + 1) then runE p f (y + 1) else y
def re (p : Nat → Bool) (y : Nat) : Nat := runE p (256 - y) y
theorem re_step (p : Nat → Bool) (y : Nat) (hy : y ≤ 255) (h : hasI p ((y : Int) + 1) = true) : re p (y + 1) = re p y := by
  unfold re
  rw [show 256 - y = (256 - (y + 1)) + 1 by omega]
  simp [runE, h]
theorem re_stop (p : Nat → Bool) (y : Nat) (hy : y ≤ 255) (h : hasI p ((y : Int) + 1) = false) : re p y = y := by
  unfold re
  rw [show 256 - y = (255 - y) + 1 by omega]
  simp [runE, h]
def rrTo (p : Nat → Bool) (k : Nat) : List (Nat × Nat) := ((List.range k).filter fun x => p x && !hasI p ((x : Int) - 1)).map fun x => (x, re p x)
theorem rrTo_def (p : Nat → Bool) (k : Nat) : rrTo p k = ((List.range k).filter fun x => p x && !hasI p ((x : Int) - 1)).map fun x => (x, re p x) := rfl
theorem rrTo_zero (p : Nat → Bool) : rrTo p 0 = [] := rfl
theorem rrTo_hit (p : Nat → Bool) (k : Nat) (h : p k = true) (h1 : hasI p ((k : Int) - 1) = false) : rrTo p (k + 1) = rrTo p k ++ [(k, re p k)] := by simp [rrTo, List.range_succ, h, h1]
theorem rrTo_skip (p : Nat → Bool) (k : Nat) (h : (p k && !hasI p ((k : Int) - 1)) = false) : rrTo p (k + 1) = rrTo p k := by
  simp only [rrTo, List.range_succ, List.filter_append, List.map_append]
  rw [show List.filter (fun x => p x && !hasI p ((x : Int) - 1)) [k] = [] by simp only [List.filter_cons, h]; simp]
  simp
theorem rrTo_len (p : Nat → Bool) (k : Nat) : (rrTo p k).length ≤ k := by
  have := List.length_filter_le (fun x : Nat => p x && !hasI p ((x : Int) - 1)) (List.range k); simpa [rrTo] using this
theorem hasI_neg (p : Nat → Bool) (b : Int) (h : b < 0) : hasI p b = false := by simp [hasI]; intro h'; omega
theorem hasI_big (p : Nat → Bool) (b : Int) (h : 256 ≤ b) : hasI p b = false := by simp [hasI]; intro _ h'; omega
theorem hasI_in (p : Nat → Bool) (n : Nat) (h : n < 256) : hasI p (n : Int) = p n := by
  have h1 : (n : Int) < 256 := by omega
  have h0 : (0 : Int) ≤ n := by omega
  simp [hasI, h1, h0]
theorem hasI_lt (p : Nat → Bool) (y : Nat) (h : hasI p ((y : Int) + 1) = true) : y + 1 ≤ 255 := by
  simp [hasI] at h; omega
/-END-/
attribute [irreducible] cntTo lst anyS listTo rgTo rrTo hasI re
end Go.GK
