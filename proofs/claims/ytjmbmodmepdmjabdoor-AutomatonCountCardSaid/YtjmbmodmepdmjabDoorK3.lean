import Derived.Test.YtjmbmodmepdmjabDoorK2
import Derived.Test.YtjmbmodmepdmjabDoorK1
import Derived.Shelf.SlSortCmp.NoneTotal
import Derived.WalkSmall
import Derived.ChangeMaps5
import Derived.Lib.LaidTab
/- The plain laws of the walks over sets of bytes. No program in sight. -/
namespace Go.GK
theorem has_rem (p : Nat → Bool) (b : Nat) : decide ((word p (b / 64) >>> (b % 64)) % 2#64 = 1#64) = p b := by
  rw [Bool.eq_iff_iff, decide_eq_true_iff, ← has_bit p b]
  have e : (word p (b / 64) >>> (b % 64)) % 2#64 = (word p (b / 64) >>> (b % 64)) &&& 1#64 := by
    apply BitVec.eq_of_toNat_eq
    rw [BitVec.toNat_umod, BitVec.toNat_and]
    exact (Nat.and_two_pow_sub_one_eq_mod _ 1).symm
  rw [e]
def ofTo (lo hi k : Nat) (x : Nat) : Bool := decide (lo ≤ x) && decide (x ≤ hi) && decide (x < k)
def ofP (lo hi : Nat) (x : Nat) : Bool := decide (lo ≤ x) && decide (x ≤ hi)
theorem ofTo_zero (lo hi : Nat) : bcs (ofTo lo hi 0) = bcs (fun _ => false) := bcs_congr fun x _ => by simp [ofTo]
theorem ofTo_hit (lo hi k : Nat) (h1 : (lo : Int) ≤ k) (h2 : (k : Int) ≤ hi) : bcs (fun x => ofTo lo hi k x || x == k) = bcs (ofTo lo hi (k + 1)) := bcs_congr fun x _ => by
  rw [Bool.eq_iff_iff]; simp [ofTo]; omega
theorem ofTo_skip (lo hi k : Nat) (h : ¬ ((lo : Int) ≤ k ∧ (k : Int) ≤ hi)) : bcs (ofTo lo hi k) = bcs (ofTo lo hi (k + 1)) := bcs_congr fun x _ => by
  rw [Bool.eq_iff_iff]; simp [ofTo]; omega
theorem ofTo_done (lo hi k : Nat) (h : 256 ≤ k) : bcs (ofTo lo hi k) = bcs (ofP lo hi) := bcs_congr fun x _ => by
  rw [Bool.eq_iff_iff]; simp [ofTo, ofP]; omega

/- word by word -/
def mixTo (h p : Nat → Bool) (k x : Nat) : Bool := if x < 64 * k then h x else p x
theorem mix_zero (h p : Nat → Bool) : bcs p = bcs (mixTo h p 0) := bcs_congr fun x _ => by simp [mixTo]
theorem mix_done (h p : Nat → Bool) (k : Nat) (hk : 4 ≤ k) : bcs (mixTo h p k) = bcs h := bcs_congr fun x hx => by simp only [mixTo]; rw [if_pos (by omega)]
theorem mix_word (h p : Nat → Bool) (k : Nat) : word (mixTo h p k) k = word p k := by
  apply BitVec.eq_of_getLsbD_eq; intro j hj; rw [word_bit, word_bit]; simp only [mixTo]; rw [if_neg (by omega)]
theorem mix_get (h p : Nat → Bool) (k : Nat) (hk : k < 4) : (bcs (mixTo h p k))[k]? = some (w64 (word p k)) := by rw [bcs_get _ k hk, mix_word]
theorem bcs_setw (f g : Nat → Bool) (i : Nat) (w : BitVec 64) (hi : i < 4) (hw : word g i = w) (ho : ∀ j, j < 4 → j ≠ i → word g j = word f j) : (bcs f).setIfInBounds i (w64 w) = bcs g := by
  apply Array.ext_getElem?
  intro j
  rw [Array.getElem?_setIfInBounds]
  by_cases hj : j < 4
  · rw [bcs_get _ j hj, bcs_get _ j hj]
    by_cases e : i = j
    · subst e; simp [bcs_size, hi, hw]
    · simp [e]; rw [ho j hj (fun x => e x.symm)]
  · have h1 : (bcs f)[j]? = none := by simp [bcs_size]; omega
    have h2 : (bcs g)[j]? = none := by simp [bcs_size]; omega
    rw [h1, h2, bcs_size]
    by_cases e : i = j
    · omega
    · simp [e]
theorem mix_step (h p : Nat → Bool) (k : Nat) (w : BitVec 64) (hk : k < 4) (hw : w = word h k) : (bcs (mixTo h p k)).setIfInBounds k (w64 w) = bcs (mixTo h p (k + 1)) := by
  refine bcs_setw _ _ k w hk ?_ fun j hj hne => ?_
  · rw [hw]; apply BitVec.eq_of_getLsbD_eq; intro i hi; rw [word_bit, word_bit]; simp only [mixTo]; rw [if_pos (by omega)]
  · apply BitVec.eq_of_getLsbD_eq; intro i hi; rw [word_bit, word_bit]; simp only [mixTo]
    by_cases e : 64 * j + i < 64 * k
    · rw [if_pos e, if_pos (by omega)]
    · rw [if_neg e, if_neg (by omega)]

/- byte by byte -/
def upTo (f : Nat → Bool) (k x : Nat) : Bool := f x && decide (x < k)
theorem upTo_zero (f : Nat → Bool) : bcs (fun _ => false) = bcs (upTo f 0) := bcs_congr fun x _ => by simp [upTo]
theorem upTo_hit (f : Nat → Bool) (k : Nat) (h : f k = true) : bcs (fun x => upTo f k x || x == k) = bcs (upTo f (k + 1)) := bcs_congr fun x _ => by
  by_cases e : x = k
  · subst e; simp [upTo, h]
  · have h1 : (x == k) = false := by simpa using e
    have h2 : (x < k + 1) ↔ (x < k) := by omega
    simp [upTo, h1, h2]
theorem upTo_skip (f : Nat → Bool) (k : Nat) (h : f k = false) : bcs (upTo f k) = bcs (upTo f (k + 1)) := bcs_congr fun x _ => by
  by_cases e : x = k
  · subst e; simp [upTo, h]
  · have h2 : (x < k + 1) ↔ (x < k) := by omega
    simp [upTo, h2]
theorem upTo_done (f : Nat → Bool) (k : Nat) (h : 256 ≤ k) : bcs (upTo f k) = bcs f := bcs_congr fun x hx => by
  have : x < k := by omega
  simp [upTo, this]

/- counting, the least one, the list -/
def listTo (p : Nat → Bool) (k : Nat) : List Nat := (List.range k).filter p
theorem listTo_hit (p : Nat → Bool) (k : Nat) (h : p k = true) : listTo p (k + 1) = listTo p k ++ [k] := by simp [listTo, List.range_succ, h]
theorem listTo_skip (p : Nat → Bool) (k : Nat) (h : p k = false) : listTo p (k + 1) = listTo p k := by simp [listTo, List.range_succ, h]
theorem listTo_len (p : Nat → Bool) (k : Nat) : (listTo p k).length ≤ k := by have := List.length_filter_le p (List.range k); simpa [listTo] using this
def cntTo (p : Nat → Bool) (k : Nat) : Nat := (listTo p k).length
theorem cntTo_le (p : Nat → Bool) (k : Nat) : cntTo p k ≤ k := listTo_len p k
theorem cntTo_hit (p : Nat → Bool) (k : Nat) (h : p k = true) : cntTo p (k + 1) = cntTo p k + 1 := by simp [cntTo, listTo_hit p k h]
theorem cntTo_skip (p : Nat → Bool) (k : Nat) (h : p k = false) : cntTo p (k + 1) = cntTo p k := by simp [cntTo, listTo_skip p k h]
def lst (p : Nat → Bool) : Nat := ((List.range 256).find? p).getD 0
def anyS (p : Nat → Bool) : Bool := ((List.range 256).find? p).isSome
theorem find_range (p : Nat → Bool) (k n : Nat) (hk : k < n) (h0 : ∀ x, x < k → p x = false) (h : p k = true) : (List.range n).find? p = some k := by
  rw [show n = k + (n - k) by omega, List.range_add, List.find?_append]
  have h1 : (List.range k).find? p = none := by
    rw [List.find?_eq_none]; intro x hx; simp [h0 x (List.mem_range.1 hx)]
  rw [h1, show n - k = (n - k - 1) + 1 by omega, List.range_succ_eq_map]
  simp [h]
theorem least_hit (p : Nat → Bool) (k : Nat) (hk : k < 256) (h0 : ∀ x, x < k → p x = false) (h : p k = true) : lst p = k ∧ anyS p = true := by
  simp [lst, anyS, find_range p k 256 hk h0 h]
theorem least_none (p : Nat → Bool) (k : Nat) (hk : 256 ≤ k) (h0 : ∀ x, x < k → p x = false) : lst p = 0 ∧ anyS p = false := by
  have h1 : (List.range 256).find? p = none := by
    rw [List.find?_eq_none]; intro x hx; simp [h0 x (by have := List.mem_range.1 hx; omega)]
  simp [lst, anyS, h1]
theorem none_succ (p : Nat → Bool) (k : Nat) (h0 : ∀ x, x < k → p x = false) (h : p k = false) : ∀ x, x < k + 1 → p x = false := fun x hx => by
  by_cases e : x = k
  · subst e; exact h
  · exact h0 x (by omega)
def encI (n : Nat) : List Value := [.int .i64 (n : Int)]
theorem upTo_lo (lo hi : Nat) : bcs (fun _ => false) = bcs (upTo (ofP lo hi) (lo + 0)) := bcs_congr fun x _ => by
  symm; rw [Bool.eq_false_iff]; simp [upTo, ofP]; intro h _; omega
theorem ofP_in (lo hi x : Nat) (h1 : lo ≤ x) (h2 : x ≤ hi) : ofP lo hi x = true := by simp [ofP, h1, h2]
theorem upTo_hi (lo hi k : Nat) (h : ¬ (k ≤ hi)) : bcs (upTo (ofP lo hi) k) = bcs (ofP lo hi) := bcs_congr fun x _ => by
  rw [Bool.eq_iff_iff]; simp [upTo, ofP]; omega
theorem cntTo_zero (p : Nat → Bool) : cntTo p 0 = 0 := rfl
theorem listTo_zero (p : Nat → Bool) : listTo p 0 = [] := rfl

/- ranges, from the left -/
def encB (a : Nat × Nat) : List Value := [.int .u8 (a.1 : Int), .int .u8 (a.2 : Int)]
def encZ (a : Nat × Nat) : List Value := [.int .i64 (a.1 : Int), .int .i64 (a.2 : Int)]
def setLast : List (Nat × Nat) → Nat → List (Nat × Nat)
  | [], _ => []
  | [a], k => [(a.1, k)]
  | a :: b :: l, k => a :: setLast (b :: l) k
theorem setLast_length : ∀ (l : List (Nat × Nat)) (k : Nat), (setLast l k).length = l.length
  | [], _ => rfl
  | [a], _ => rfl
  | a :: b :: l, k => by simp [setLast, setLast_length (b :: l) k]
theorem setLast_cells : ∀ (l : List (Nat × Nat)) (k : Nat), 0 < l.length → (l.flatMap encB).set ((l.length - 1) * 2 + 1) (.int .u8 (k : Int)) = (setLast l k).flatMap encB
  | [], _, h => by simp at h
  | [a], k, _ => by simp [setLast, encB]
  | a :: b :: l, k, _ => by
    have ih := setLast_cells (b :: l) k (by simp)
    simp only [setLast, List.flatMap_cons] at ih ⊢
    rw [← ih]
    simp only [encB, List.length_cons]
    rw [show (l.length + 1 + 1 - 1) * 2 + 1 = ((l.length + 1 - 1) * 2 + 1) + 1 + 1 by omega]
    rfl
def rgTo (p : Nat → Bool) : Nat → List (Nat × Nat)
  | 0 => []
  | k + 1 => if p k then (if 0 < k ∧ p (k - 1) = true then setLast (rgTo p k) k else rgTo p k ++ [(k, k)]) else rgTo p k
theorem rgTo_zero (p : Nat → Bool) : rgTo p 0 = [] := rfl
theorem rgTo_skip (p : Nat → Bool) (k : Nat) (h : p k = false) : rgTo p (k + 1) = rgTo p k := by simp [rgTo, h]
theorem rgTo_ext (p : Nat → Bool) (k : Nat) (h : p k = true) (h0 : 0 < k) (h1 : p (k - 1) = true) : rgTo p (k + 1) = setLast (rgTo p k) k := by simp [rgTo, h, h0, h1]
theorem rgTo_new (p : Nat → Bool) (k : Nat) (h : p k = true) (h1 : ¬ (0 < k ∧ p (k - 1) = true)) : rgTo p (k + 1) = rgTo p k ++ [(k, k)] := by
  simp only [rgTo, h, if_true]; rw [if_neg h1]
theorem rgTo_len (p : Nat → Bool) : ∀ k, (rgTo p k).length ≤ k
  | 0 => by simp [rgTo]
  | k + 1 => by
    have := rgTo_len p k
    simp only [rgTo]
    split
    · split
      · rw [setLast_length]; omega
      · simp; omega
    · omega
theorem rg_pos (p : Nat → Bool) (k : Nat) (h0 : 0 < k) (h : p (k - 1) = true) : 0 < (rgTo p k).length := by
  obtain ⟨j, rfl⟩ : ∃ j, k = j + 1 := ⟨k - 1, by omega⟩
  simp only [Nat.add_sub_cancel] at h
  by_cases h1 : 0 < j ∧ p (j - 1) = true
  · rw [rgTo_ext p j h h1.1 h1.2, setLast_length]
    exact rg_pos p j h1.1 h1.2
  · rw [rgTo_new p j h h1]; simp
theorem rg_ext_n (p : Nat → Bool) (k : Nat) (h : p k = true) (h0 : 0 < k) (h1 : p (k - 1) = true) : (rgTo p (k + 1)).length = (rgTo p k).length := by rw [rgTo_ext p k h h0 h1, setLast_length]
theorem rg_ext_xs (p : Nat → Bool) (k : Nat) (h : p k = true) (h0 : 0 < k) (h1 : p (k - 1) = true) : ((rgTo p k).flatMap encB).set (((rgTo p k).length - 1) * 2 + 1) (.int .u8 (k : Int)) = (rgTo p (k + 1)).flatMap encB := by
  rw [rgTo_ext p k h h0 h1, setLast_cells _ _ (rg_pos p k h0 h1)]
theorem encB_len (a : Nat × Nat) : (encB a).length = 2 := rfl
theorem encZ_len (a : Nat × Nat) : (encZ a).length = 2 := rfl
theorem rg_cells (p : Nat → Bool) (k : Nat) : ((rgTo p k).flatMap encB).length = (rgTo p k).length * 2 := flat_len encB 2 encB_len _

/- ranges, each run followed to its end -/
def hasI (p : Nat → Bool) (b : Int) : Bool := decide (0 ≤ b) && decide (b < 256) && p b.toNat
def runE (p : Nat → Bool) : Nat → Nat → Nat
  | 0, y => y
  | f + 1, y => if hasI p ((y : Int) + 1) then runE p f (y + 1) else y
def re (p : Nat → Bool) (y : Nat) : Nat := runE p (256 - y) y
theorem re_step (p : Nat → Bool) (y : Nat) (hy : y ≤ 255) (h : hasI p ((y : Int) + 1) = true) : re p (y + 1) = re p y := by
  unfold re
  rw [show 256 - y = (256 - (y + 1)) + 1 by omega]
  simp [runE, h]
theorem re_stop (p : Nat → Bool) (y : Nat) (hy : y ≤ 255) (h : hasI p ((y : Int) + 1) = false) : re p y = y := by
  unfold re
  rw [show 256 - y = (255 - y) + 1 by omega]
  simp [runE, h]
def rrTo (p : Nat → Bool) (k : Nat) : List (Nat × Nat) := ((List.range k).filter fun x => p x && !hasI p ((x : Int) - 1)).map fun x => (x, re p x)
theorem rrTo_def (p : Nat → Bool) (k : Nat) : rrTo p k = ((List.range k).filter fun x => p x && !hasI p ((x : Int) - 1)).map fun x => (x, re p x) := rfl
theorem rrTo_zero (p : Nat → Bool) : rrTo p 0 = [] := rfl
theorem rrTo_hit (p : Nat → Bool) (k : Nat) (h : p k = true) (h1 : hasI p ((k : Int) - 1) = false) : rrTo p (k + 1) = rrTo p k ++ [(k, re p k)] := by simp [rrTo, List.range_succ, h, h1]
theorem rrTo_skip (p : Nat → Bool) (k : Nat) (h : (p k && !hasI p ((k : Int) - 1)) = false) : rrTo p (k + 1) = rrTo p k := by
  simp only [rrTo, List.range_succ, List.filter_append, List.map_append]
  rw [show List.filter (fun x => p x && !hasI p ((x : Int) - 1)) [k] = [] by simp only [List.filter_cons, h]; simp]
  simp
theorem rrTo_len (p : Nat → Bool) (k : Nat) : (rrTo p k).length ≤ k := by
  have := List.length_filter_le (fun x : Nat => p x && !hasI p ((x : Int) - 1)) (List.range k); simpa [rrTo] using this
theorem hasI_neg (p : Nat → Bool) (b : Int) (h : b < 0) : hasI p b = false := by simp [hasI]; intro h'; omega
theorem hasI_big (p : Nat → Bool) (b : Int) (h : 256 ≤ b) : hasI p b = false := by simp [hasI]; intro _ h'; omega
theorem hasI_in (p : Nat → Bool) (n : Nat) (h : n < 256) : hasI p (n : Int) = p n := by
  have h1 : (n : Int) < 256 := by omega
  have h0 : (0 : Int) ≤ n := by omega
  simp [hasI, h1, h0]
theorem hasI_lt (p : Nat → Bool) (y : Nat) (h : hasI p ((y : Int) + 1) = true) : y + 1 ≤ 255 := by
  simp [hasI] at h; omega
/-END-/
attribute [irreducible] cntTo lst anyS listTo rgTo rrTo hasI re
end Go.GK
/- Partitions of the bytes by a list of sets: the plain law. No program in sight. -/
namespace Go.GK
abbrev St := Nat → Bool
def bcl (p : St) : List Value := (bcs p).toList
theorem bcl_len (p : St) : (bcl p).length = 4 := rfl
def nth (l : List St) (i : Nat) : St := l.getD i (fun _ => false)
theorem nth_some (l : List St) (i : Nat) (h : i < l.length) : l[i]? = some (nth l i) := by simp [nth, h]
theorem bcl_at (l : List St) (i : Nat) (h : i < l.length) : ∀ j u, (bcl (nth l i))[j]? = some u → (l.flatMap bcl)[i * 4 + j]? = some u := fun j u hu => by
  have hj : j < 4 := by have := (List.getElem?_eq_some_iff.1 hu).1; rwa [bcl_len] at this
  rw [flat_get bcl 4 bcl_len l i j _ (nth_some l i h) hj]; exact hu
theorem bcl_ne (p : St) : bcl p ≠ [] := by simp [bcl, bcs]
theorem bcl_one (p : St) : ∀ u ∈ bcl p, u.oneCell' = true := fun u hu => bcs_one p u (by simpa [bcl] using hu)
theorem take_succ_nth (l : List St) (i : Nat) (h : i < l.length) : l.take (i + 1) = l.take i ++ [nth l i] := by
  rw [List.take_add_one, nth_some l i h]; rfl

def alikeB (l : List St) (x y : Nat) : Bool := l.all fun p => p x == p y
theorem alike_yes (l : List St) (x y : Nat) (h : ∀ j, j < l.length → (nth l j) x = (nth l j) y) : alikeB l x y = true := by
  rw [alikeB, List.all_eq_true]
  intro p hp
  obtain ⟨i, hi, rfl⟩ := List.getElem_of_mem hp
  have := h i hi
  simp only [nth, List.getD_eq_getElem?_getD, List.getElem?_eq_getElem hi, Option.getD_some] at this
  simp [this]
theorem alike_no (l : List St) (x y i : Nat) (hi : i < l.length) (h : (!((nth l i) x == (nth l i) y)) = true) : alikeB l x y = false := by
  rw [Bool.eq_false_iff]
  intro h2
  rw [alikeB, List.all_eq_true] at h2
  have hm : nth l i ∈ l := List.mem_of_getElem? (nth_some l i hi)
  have := h2 _ hm
  simp_all
theorem alike_step (l : List St) (x y i : Nat) (h0 : ∀ j, j < i → (nth l j) x = (nth l j) y) (h : (!((nth l i) x == (nth l i) y)) = false) : ∀ j, j < i + 1 → (nth l j) x = (nth l j) y := fun j hj => by
  by_cases e : j = i
  · subst e; simpa using h
  · exact h0 j (by omega)

/- the reference's: each class by its least member -/
def cls (l : List St) (x y : Nat) : Bool := decide (x ≤ y) && alikeB l x y
def rpSt (l : List St) : Nat → List St × St
  | 0 => ([], fun _ => false)
  | k + 1 => if (rpSt l k).2 k then rpSt l k else ((rpSt l k).1 ++ [cls l k], fun y => (rpSt l k).2 y || cls l k y)
theorem rpSt_zero (l : List St) : rpSt l 0 = ([], fun _ => false) := rfl
theorem rpSt_skip (l : List St) (k : Nat) (h : (rpSt l k).2 k = true) : rpSt l (k + 1) = rpSt l k := by simp [rpSt, h]
theorem rpSt_new (l : List St) (k : Nat) (h : (rpSt l k).2 k = false) : rpSt l (k + 1) = ((rpSt l k).1 ++ [cls l k], fun y => (rpSt l k).2 y || cls l k y) := by simp [rpSt, h]
theorem rpSt_len (l : List St) : ∀ k, (rpSt l k).1.length ≤ k
  | 0 => by simp [rpSt]
  | k + 1 => by
    have := rpSt_len l k
    simp only [rpSt]; split
    · omega
    · simp; omega
/- the inner round -/
theorem cls_zero (l : List St) (x : Nat) : bcs (fun _ => false) = bcs (upTo (cls l x) (x + 0)) := bcs_congr fun y _ => by
  symm; rw [Bool.eq_false_iff]; simp [upTo, cls]; intro h; omega
theorem dn_zero (l : List St) (d : St) (x : Nat) : bcs d = bcs (fun y => d y || upTo (cls l x) (x + 0) y) := bcs_congr fun y _ => by
  have : upTo (cls l x) (x + 0) y = false := by rw [Bool.eq_false_iff]; simp [upTo, cls]; intro h; omega
  rw [this, Bool.or_false]
theorem cls_in (l : List St) (x j : Nat) (h : alikeB l x (x + j) = true) : cls l x (x + j) = true := by simp [cls, h]
theorem cls_out (l : List St) (x j : Nat) (h : alikeB l x (x + j) = false) : cls l x (x + j) = false := by simp [cls, h]
theorem dn_hit (d f : St) (k : Nat) (h : f k = true) : bcs (fun y => (d y || upTo f k y) || y == k) = bcs (fun y => d y || upTo f (k + 1) y) := bcs_congr fun y hy => by
  have := bcs_inj (upTo_hit f k h) y hy
  rw [← this, Bool.or_assoc]
theorem dn_skip (d f : St) (k : Nat) (h : f k = false) : bcs (fun y => d y || upTo f k y) = bcs (fun y => d y || upTo f (k + 1) y) := bcs_congr fun y hy => by
  rw [bcs_inj (upTo_skip f k h) y hy]
theorem dn_done (d f : St) (k : Nat) (h : 256 ≤ k) : bcs (fun y => d y || upTo f k y) = bcs (fun y => d y || f y) := bcs_congr fun y hy => by
  rw [bcs_inj (upTo_done f k h) y hy]

/- the program's: parts cut again and again -/
def ne (p : St) : Bool := !eqS p (fun _ => false)
def cutA (p s : St) : St := fun x => p x && s x
def cutB (p s : St) : St := fun x => p x && (fun y => !s y) x
def sel (a b : St) (j : Nat) : St := if j = 0 then a else b
def two (p s : St) (j : Nat) : List St := ([cutA p s, cutB p s].take j).filter ne
def psStep (ps : List St) (s : St) : List St := ps.flatMap fun p => two p s 2
def psTo (l : List St) (i : Nat) : List St := (l.take i).foldl psStep [ofP 0 255]
def nx (l : List St) (i m j : Nat) : List St := psStep ((psTo l i).take m) (nth l i) ++ two (nth (psTo l i) m) (nth l i) j
theorem psTo_zero (l : List St) : psTo l 0 = [ofP 0 255] := rfl
theorem psTo_succ (l : List St) (i : Nat) (h : i < l.length) : psTo l (i + 1) = psStep (psTo l i) (nth l i) := by
  simp [psTo, take_succ_nth l i h, List.foldl_append]
theorem two_zero (p s : St) : two p s 0 = [] := rfl
theorem nx_zero (l : List St) (i : Nat) : nx l i 0 0 = [] := rfl
theorem two_hit (p s : St) (j : Nat) (hj : j < 2) (h : ne (sel (cutA p s) (cutB p s) j) = true) : two p s (j + 1) = two p s j ++ [sel (cutA p s) (cutB p s) j] := by
  match j, hj with
  | 0, _ => simp [two, sel] at h ⊢; simp [List.filter_cons, h]
  | 1, _ => simp only [two, sel] at h ⊢; simp only [List.take_succ_cons, List.take_zero, List.filter_cons, List.filter_nil]; simp at h; rw [h]; split <;> simp
theorem two_skip (p s : St) (j : Nat) (hj : j < 2) (h : ne (sel (cutA p s) (cutB p s) j) = false) : two p s (j + 1) = two p s j := by
  match j, hj with
  | 0, _ => simp [two, sel] at h ⊢; simp [List.filter_cons, h]
  | 1, _ => simp only [two, sel] at h ⊢; simp only [List.take_succ_cons, List.take_zero, List.filter_cons, List.filter_nil]; simp at h; rw [h]; simp
theorem nx_hit (l : List St) (i m j : Nat) (hj : j < 2) (h : ne (sel (cutA (nth (psTo l i) m) (nth l i)) (cutB (nth (psTo l i) m) (nth l i)) j) = true) : nx l i m (j + 1) = nx l i m j ++ [sel (cutA (nth (psTo l i) m) (nth l i)) (cutB (nth (psTo l i) m) (nth l i)) j] := by
  simp [nx, two_hit _ _ j hj h]
theorem nx_skip (l : List St) (i m j : Nat) (hj : j < 2) (h : ne (sel (cutA (nth (psTo l i) m) (nth l i)) (cutB (nth (psTo l i) m) (nth l i)) j) = false) : nx l i m (j + 1) = nx l i m j := by
  simp [nx, two_skip _ _ j hj h]
theorem nx_next (l : List St) (i m : Nat) (hm : m < (psTo l i).length) : nx l i (m + 1) 0 = nx l i m 2 := by
  simp [nx, two_zero, take_succ_nth _ m hm, psStep]
theorem nx_done (l : List St) (i m : Nat) (hi : i < l.length) (hm : (psTo l i).length ≤ m) : nx l i m 0 = psTo l (i + 1) := by
  simp [nx, two_zero, psTo_succ l i hi, List.take_of_length_le hm]
theorem list_set (p q : List St) : p = q → p.flatMap bcl = q.flatMap bcl := fun h => by rw [h]

/- how many: the parts of one set -/
def cn (p : St) : Nat := cntTo p 256
theorem cn_eq (p : St) : cn p = ((List.range 256).filter p).length := by unfold cn cntTo listTo; rfl
theorem filter_split (p s : St) : ∀ l : List Nat, (l.filter (cutA p s)).length + (l.filter (cutB p s)).length = (l.filter p).length
  | [] => rfl
  | x :: l => by
    have ih := filter_split p s l
    have ha : cutA p s x = (p x && s x) := rfl
    have hb : cutB p s x = (p x && !s x) := rfl
    cases hp : p x <;> cases hs : s x <;> simp [List.filter_cons, ha, hb, hp, hs] <;> omega
theorem cn_split (p s : St) : cn (cutA p s) + cn (cutB p s) = cn p := by rw [cn_eq, cn_eq, cn_eq]; exact filter_split p s _
theorem cn_pos (p : St) (h : ne p = true) : 1 ≤ cn p := by
  rw [cn_eq]
  simp only [ne, Bool.not_eq_true', ← Bool.not_eq_true, eqS_iff] at h
  have : ∃ x, x < 256 ∧ p x = true := by
    refine Classical.byContradiction fun hn => h fun x hx => ?_
    cases hp : p x with
    | false => simp
    | true => exact absurd ⟨x, hx, hp⟩ hn
  obtain ⟨x, hx, hp⟩ := this
  exact List.length_pos_of_mem (List.mem_filter.2 ⟨List.mem_range.2 hx, hp⟩)
def tot (ps : List St) : Nat := (ps.map cn).sum
theorem tot_append (a b : List St) : tot (a ++ b) = tot a + tot b := by simp [tot]
theorem two_good (p s : St) (j : Nat) : (∀ q ∈ two p s j, ne q = true) ∧ tot (two p s j) ≤ cn p := by
  refine ⟨fun q hq => (List.mem_filter.1 hq).2, ?_⟩
  have hs := cn_split p s
  match j with
  | 0 => simp [two, tot]
  | 1 => simp only [two, List.take_succ_cons, List.take_zero, List.filter_cons, List.filter_nil]; split <;> simp [tot] <;> omega
  | j + 2 =>
    simp only [two, List.take_succ_cons, List.filter_cons]
    rw [show ([] : List St).take j = [] from List.take_nil]
    simp only [List.filter_nil]
    split <;> split <;> simp [tot] <;> omega
theorem step_good (ps : List St) (s : St) : (∀ q ∈ psStep ps s, ne q = true) ∧ tot (psStep ps s) ≤ tot ps := by
  induction ps with
  | nil => simp [psStep, tot]
  | cons p ps ih =>
    have h2 := two_good p s 2
    have e : psStep (p :: ps) s = two p s 2 ++ psStep ps s := by simp [psStep]
    rw [e]
    refine ⟨fun q hq => ?_, ?_⟩
    · rcases List.mem_append.1 hq with h | h
      · exact h2.1 q h
      · exact ih.1 q h
    · rw [tot_append]
      have : tot (p :: ps) = cn p + tot ps := by simp [tot]
      omega
theorem len_tot (ps : List St) (h : ∀ q ∈ ps, ne q = true) : ps.length ≤ tot ps := by
  induction ps with
  | nil => simp [tot]
  | cons p ps ih =>
    have := ih fun q hq => h q (by simp [hq])
    have h1 := cn_pos p (h p (by simp))
    have : tot (p :: ps) = cn p + tot ps := by simp [tot]
    simp only [List.length_cons]; omega
theorem full_ne : ne (ofP 0 255) = true := by decide +kernel
theorem psTo_good (l : List St) : ∀ i, (∀ q ∈ psTo l i, ne q = true) ∧ tot (psTo l i) ≤ 256
  | 0 => by
    refine ⟨fun q hq => ?_, ?_⟩
    · rw [psTo_zero] at hq; simp at hq; rw [hq]; exact full_ne
    · rw [psTo_zero]; simp [tot, cn_eq]; have := List.length_filter_le (ofP 0 255) (List.range 256); simpa using this
  | i + 1 => by
    have ih := psTo_good l i
    by_cases h : i < l.length
    · rw [psTo_succ l i h]
      have := step_good (psTo l i) (nth l i)
      exact ⟨this.1, Nat.le_trans this.2 ih.2⟩
    · have e : psTo l (i + 1) = psTo l i := by simp [psTo, List.take_of_length_le (show l.length ≤ i + 1 by omega), List.take_of_length_le (show l.length ≤ i by omega)]
      rw [e]; exact ih
theorem psTo_len (l : List St) (i : Nat) : (psTo l i).length ≤ 256 := Nat.le_trans (len_tot _ (psTo_good l i).1) (psTo_good l i).2
theorem tot_take (ps : List St) (m : Nat) (h : m < ps.length) : tot (ps.take m) + cn (nth ps m) ≤ tot ps := by
  have e : ps = ps.take m ++ nth ps m :: ps.drop (m + 1) := by
    have : nth ps m = ps[m] := by simp [nth, h]
    rw [this, List.getElem_cons_drop, List.take_append_drop]
  have : tot ps = tot (ps.take m) + (cn (nth ps m) + tot (ps.drop (m + 1))) := by
    conv => lhs; rw [e]
    rw [tot_append]; simp [tot]
  omega
theorem nx_len (l : List St) (i m j : Nat) (hm : m < (psTo l i).length) : (nx l i m j).length ≤ 256 := by
  have h1 := step_good ((psTo l i).take m) (nth l i)
  have h2 := two_good (nth (psTo l i) m) (nth l i) j
  have h3 := tot_take (psTo l i) m hm
  have h4 := (psTo_good l i).2
  refine Nat.le_trans (len_tot _ fun q hq => ?_) (?_ : tot (nx l i m j) ≤ 256)
  · rcases List.mem_append.1 hq with h | h
    · exact h1.1 q h
    · exact h2.1 q h
  · unfold nx; rw [tot_append]; omega

/- the parts in the order of their least members -/
def stp (b : Nat) (s : List St × St) (p : St) : List St × St := if p b then (s.1 ++ [p], fun y => s.2 y || p y) else s
def outSt (ps : List St) : Nat → List St × St
  | 0 => ([], fun _ => false)
  | b + 1 => if (outSt ps b).2 b then outSt ps b else ps.foldl (stp b) (outSt ps b)
def outIn (ps : List St) (b m : Nat) : List St × St := (ps.take m).foldl (stp b) (outSt ps b)
theorem outSt_zero (ps : List St) : outSt ps 0 = ([], fun _ => false) := rfl
theorem outSt_skip (ps : List St) (b : Nat) (h : (outSt ps b).2 b = true) : outSt ps (b + 1) = outSt ps b := by simp [outSt, h]
theorem outSt_new (ps : List St) (b m : Nat) (h : (outSt ps b).2 b = false) (hm : ps.length ≤ m) : outSt ps (b + 1) = outIn ps b m := by simp [outSt, outIn, h, List.take_of_length_le hm]
theorem outIn_zero (ps : List St) (b : Nat) : outIn ps b 0 = outSt ps b := rfl
theorem outIn_hit (ps : List St) (b m : Nat) (hm : m < ps.length) (h : (nth ps m) b = true) : outIn ps b (m + 1) = ((outIn ps b m).1 ++ [nth ps m], fun y => (outIn ps b m).2 y || (nth ps m) y) := by
  simp only [outIn, take_succ_nth ps m hm, List.foldl_append, List.foldl_cons, List.foldl_nil]
  simp [stp, h]
theorem outIn_skip (ps : List St) (b m : Nat) (hm : m < ps.length) (h : (nth ps m) b = false) : outIn ps b (m + 1) = outIn ps b m := by
  simp only [outIn, take_succ_nth ps m hm, List.foldl_append, List.foldl_cons, List.foldl_nil]
  simp [stp, h]
theorem fold_len (b : Nat) : ∀ (ps : List St) (s : List St × St), (ps.foldl (stp b) s).1.length ≤ s.1.length + ps.length
  | [], s => by simp
  | p :: ps, s => by
    have := fold_len b ps (stp b s p)
    have h2 : (stp b s p).1.length ≤ s.1.length + 1 := by unfold stp; split <;> simp
    simp only [List.foldl_cons, List.length_cons]; omega
theorem outSt_len (ps : List St) (h : ps.length ≤ 256) : ∀ b, (outSt ps b).1.length ≤ 256 * b
  | 0 => by simp [outSt]
  | b + 1 => by
    have ih := outSt_len ps h b
    simp only [outSt]; split
    · omega
    · have := fold_len b ps (outSt ps b); omega
theorem outIn_len (ps : List St) (h : ps.length ≤ 256) (b m : Nat) : (outIn ps b m).1.length ≤ 256 * b + 256 := by
  have h1 := outSt_len ps h b
  have h2 := fold_len b (ps.take m) (outSt ps b)
  have h3 : (ps.take m).length ≤ 256 := by simp; omega
  unfold outIn; omega
def partsOf (l : List St) : List St := (outSt (psTo l l.length) 256).1
def rpartsOf (l : List St) : List St := (rpSt l 256).1
theorem cutA_eq (p s : St) : Value.agg (bcs (fun x => p x && s x)) = .agg (bcs (cutA p s)) := rfl
theorem cutB_eq (p s : St) : Value.agg (bcs (fun x => p x && (fun y => !s y) x)) = .agg (bcs (cutB p s)) := rfl
theorem ne_eq (p : St) : (!eqS p (fun _ => false)) = ne p := rfl
def bcs2 (a b : St) : Array Value := #[w64 (word a 0), w64 (word a 1), w64 (word a 2), w64 (word a 3), w64 (word b 0), w64 (word b 1), w64 (word b 2), w64 (word b 3)]
theorem bcs2_at (a b : St) (j : Nat) (h : j < 2) : Value.agg ((bcs2 a b).extract ((j : Int).toNat * 4) ((j : Int).toNat * 4 + 4)) = .agg (bcs (sel a b j)) := by
  match j, h with
  | 0, _ => rfl
  | 1, _ => rfl
theorem fill8 (z0 z1 z2 z3 z4 z5 z6 z7 x0 x1 x2 x3 x4 x5 x6 x7 : Value) : Instr.fill (fun i => some (i * 4, 4)) #[z0, z1, z2, z3, z4, z5, z6, z7] [(0, .agg #[x0, x1, x2, x3]), (1, .agg #[x4, x5, x6, x7])] = some #[x0, x1, x2, x3, x4, x5, x6, x7] := by
  simp [Instr.fill, Value.cells]
theorem fill2 (a b : St) : Instr.fill (fun i => some (i * 4, 4)) #[.int .u64 0, .int .u64 0, .int .u64 0, .int .u64 0, .int .u64 0, .int .u64 0, .int .u64 0, .int .u64 0] [(0, .agg (bcs a)), (1, .agg (bcs b))] = some (bcs2 a b) := fill8 _ _ _ _ _ _ _ _ _ _ _ _ _ _ _ _
theorem alikeB_def (l : List St) (x y : Nat) : alikeB l x y = l.all fun p => p x == p y := rfl
theorem cutA_at (p s : St) (x : Nat) : cutA p s x = (p x && s x) := rfl
theorem cutB_at (p s : St) (x : Nat) : cutB p s x = (p x && !s x) := rfl
theorem cls_at (l : List St) (x y : Nat) : cls l x y = (decide (x ≤ y) && alikeB l x y) := rfl
theorem outIn_all (ps : List St) (b : Nat) : outIn ps b ps.length = ps.foldl (stp b) (outSt ps b) := by simp [outIn]
/-END-/
attribute [irreducible] alikeB rpSt psTo nx outSt outIn nth cls ne cutA cutB
end Go.GK
/- The ranges of a set, two ways: the plain law. No program in sight. -/
namespace Go.GK
theorem setLast_app : ∀ (L : List (Nat × Nat)) (s e k : Nat), setLast (L ++ [(s, e)]) k = L ++ [(s, k)]
  | [], _, _, _ => rfl
  | [a], s, e, k => rfl
  | a :: b :: L, s, e, k => by
    have := setLast_app (b :: L) s e k
    simp only [List.cons_append, setLast] at this ⊢
    rw [this]
structure RgInv (p : Nat → Bool) (k : Nat) (l : List (Nat × Nat)) : Prop where
  run : ∀ a ∈ l, a.1 ≤ a.2 ∧ a.2 < k ∧ ∀ z, a.1 ≤ z → z ≤ a.2 → p z = true
  apart : l.Pairwise fun a b => a.2 + 2 ≤ b.1
  all : ∀ z, z < k → p z = true → ∃ a ∈ l, a.1 ≤ z ∧ z ≤ a.2
  last : 0 < k → p (k - 1) = true → ∃ L s, l = L ++ [(s, k - 1)]
theorem rg_inv (p : Nat → Bool) : ∀ k, RgInv p k (rgTo p k)
  | 0 => by
    rw [rgTo_zero]
    exact ⟨fun a h => by simp at h, .nil, fun z h => by omega, fun h => by omega⟩
  | k + 1 => by
    have ih := rg_inv p k
    by_cases hp : p k = true
    · by_cases hq : 0 < k ∧ p (k - 1) = true
      · rw [rgTo_ext p k hp hq.1 hq.2]
        obtain ⟨L, s, hL⟩ := ih.last hq.1 hq.2
        rw [hL, setLast_app]
        have hrun := ih.run; have hap := ih.apart; have hall := ih.all
        rw [hL] at hrun hap hall
        have hs := hrun (s, k - 1) (by simp)
        refine ⟨fun a ha => ?_, ?_, fun z hz hpz => ?_, fun _ _ => ⟨L, s, by simp⟩⟩
        · rcases List.mem_append.1 ha with h | h
          · have := hrun a (by simp [h]); exact ⟨this.1, by omega, this.2.2⟩
          · simp at h; subst h
            refine ⟨by simp only at hs ⊢; omega, by simp, fun z h1 h2 => ?_⟩
            simp only at h1 h2 hs
            by_cases e : z = k
            · subst e; exact hp
            · exact hs.2.2 z h1 (by omega)
        · rw [List.pairwise_append] at hap ⊢
          refine ⟨hap.1, by simp, fun a ha b hb => ?_⟩
          simp at hb; subst hb
          exact hap.2.2 a ha (s, k - 1) (by simp)
        · by_cases e : z = k
          · subst e; exact ⟨(s, z), by simp, by simp only at hs ⊢; omega, by simp⟩
          · obtain ⟨a, ha, h1, h2⟩ := hall z (by omega) hpz
            rcases List.mem_append.1 ha with h | h
            · exact ⟨a, by simp [h], h1, h2⟩
            · simp at h; subst h
              exact ⟨(s, k), by simp, h1, by simp only at h2 ⊢; omega⟩
      · rw [rgTo_new p k hp hq]
        refine ⟨fun a ha => ?_, ?_, fun z hz hpz => ?_, fun _ _ => ⟨rgTo p k, k, by simp⟩⟩
        · rcases List.mem_append.1 ha with h | h
          · have := ih.run a h; exact ⟨this.1, by omega, this.2.2⟩
          · simp at h; subst h
            exact ⟨by simp, by simp, fun z h1 h2 => by simp only at h1 h2; have : z = k := by omega
                                                       subst this; exact hp⟩
        · rw [List.pairwise_append]
          refine ⟨ih.apart, by simp, fun a ha b hb => ?_⟩
          simp at hb; subst hb
          have h1 := ih.run a ha
          have h2 : a.2 ≠ k - 1 := fun e => hq ⟨by omega, by rw [← e]; exact h1.2.2 a.2 h1.1 (Nat.le_refl _)⟩
          simp only; omega
        · by_cases e : z = k
          · subst e; exact ⟨(z, z), by simp, Nat.le_refl _, Nat.le_refl _⟩
          · obtain ⟨a, ha, h1, h2⟩ := ih.all z (by omega) hpz
            exact ⟨a, by simp [ha], h1, h2⟩
    · have hp' : p k = false := by simpa using hp
      rw [rgTo_skip p k hp']
      refine ⟨fun a ha => ?_, ih.apart, fun z hz hpz => ?_, fun _ h => ?_⟩
      · have := ih.run a ha; exact ⟨this.1, by omega, this.2.2⟩
      · have hne : z ≠ k := fun e => by rw [e, hp'] at hpz; cases hpz
        exact ih.all z (by omega) hpz
      · simp at h; rw [hp'] at h; cases h
theorem hasI_iff (p : Nat → Bool) (n : Nat) : hasI p (n : Int) = true ↔ n < 256 ∧ p n = true := by
  by_cases h : n < 256
  · rw [hasI_in p n h]; simp [h]
  · rw [hasI_big p n (by omega)]; simp [h]
theorem re_spec (p : Nat → Bool) : ∀ (d y : Nat), 255 - y = d → y ≤ 255 → y ≤ re p y ∧ re p y ≤ 255 ∧ (∀ z, y < z → z ≤ re p y → p z = true) ∧ ¬ (re p y + 1 < 256 ∧ p (re p y + 1) = true)
  | d, y, hd, hy => by
    cases h : hasI p ((y : Int) + 1) with
    | true =>
      have h1 := (hasI_iff p (y + 1)).1 (by simpa using h)
      have ih := re_spec p (255 - (y + 1)) (y + 1) rfl (by omega)
      rw [re_step p y hy h] at ih
      refine ⟨by omega, ih.2.1, fun z h2 h3 => ?_, ih.2.2.2⟩
      by_cases e : z = y + 1
      · subst e; exact h1.2
      · exact ih.2.2.1 z (by omega) h3
    | false =>
      rw [re_stop p y hy h]
      refine ⟨Nat.le_refl _, hy, fun z h1 h2 => by omega, fun h1 => ?_⟩
      have := (hasI_iff p (y + 1)).2 h1
      simp at this; rw [this] at h; cases h
  termination_by d => d
  decreasing_by omega
theorem re_uniq (p : Nat → Bool) (y e : Nat) (h1 : y ≤ e) (h2 : e ≤ 255) (h3 : ∀ z, y < z → z ≤ e → p z = true) (h4 : ¬ (e + 1 < 256 ∧ p (e + 1) = true)) : re p y = e := by
  obtain ⟨g1, g2, g3, g4⟩ := re_spec p _ y rfl (by omega)
  rcases Nat.lt_trichotomy (re p y) e with h | h | h
  · exact absurd ⟨by omega, h3 _ (by omega) (by omega)⟩ g4
  · exact h
  · exact absurd ⟨by omega, g3 _ (by omega) (by omega)⟩ h4
theorem sorted_ext : ∀ (a b : List Nat), a.Pairwise (· < ·) → b.Pairwise (· < ·) → (∀ x, x ∈ a ↔ x ∈ b) → a = b
  | [], [], _, _, _ => rfl
  | [], y :: b, _, _, h => by have := (h y).2 (by simp); simp at this
  | x :: a, [], _, _, h => by have := (h x).1 (by simp); simp at this
  | x :: a, y :: b, ha, hb, h => by
    rw [List.pairwise_cons] at ha hb
    have hxy : x = y := by
      have h1 := (h x).1 (by simp)
      have h2 := (h y).2 (by simp)
      rcases List.mem_cons.1 h1 with h1 | h1
      · exact h1
      · rcases List.mem_cons.1 h2 with h2 | h2
        · exact h2.symm
        · have := hb.1 x h1; have := ha.1 y h2; omega
    subst hxy
    congr 1
    refine sorted_ext a b ha.2 hb.2 fun z => ⟨fun hz => ?_, fun hz => ?_⟩
    · rcases List.mem_cons.1 ((h z).1 (by simp [hz])) with e | e
      · have := ha.1 z hz; omega
      · exact e
    · rcases List.mem_cons.1 ((h z).2 (by simp [hz])) with e | e
      · have := hb.1 z hz; omega
      · exact e
theorem range_sorted (n : Nat) : (List.range n).Pairwise (· < ·) := List.pairwise_lt_range
theorem pw_mem {l : List (Nat × Nat)} (h : l.Pairwise fun a b => a.2 + 2 ≤ b.1) {a b : Nat × Nat} (ha : a ∈ l) (hb : b ∈ l) : a = b ∨ a.2 + 2 ≤ b.1 ∨ b.2 + 2 ≤ a.1 := by
  induction l with
  | nil => simp at ha
  | cons x l ih =>
    rw [List.pairwise_cons] at h
    rcases List.mem_cons.1 ha with e1 | ha'
    · rcases List.mem_cons.1 hb with e2 | hb'
      · exact .inl (e1.trans e2.symm)
      · exact .inr (.inl (e1 ▸ h.1 b hb'))
    · rcases List.mem_cons.1 hb with e2 | hb'
      · exact .inr (.inr (e2 ▸ h.1 a ha'))
      · exact ih h.2 ha' hb'
theorem rg_rr (p : Nat → Bool) : rgTo p 256 = rrTo p 256 := by
  have I := rg_inv p 256
  generalize hl : rgTo p 256 = l at I
  have inside : ∀ a ∈ l, ∀ z, z < 256 → p z = true → z + 1 = a.1 ∨ z = a.2 + 1 → False := by
    intro a ha z hz hpz h
    obtain ⟨b, hb, h1, h2⟩ := I.all z hz hpz
    have r1 := I.run a ha
    rcases pw_mem I.apart ha hb with e | e | e
    · subst e; omega
    · omega
    · omega
  have hre : ∀ a ∈ l, a = (a.1, re p a.1) := by
    intro a ha
    have r1 := I.run a ha
    have : re p a.1 = a.2 := re_uniq p a.1 a.2 r1.1 (by omega) (fun z h1 h2 => r1.2.2 z (by omega) h2) (fun ⟨h1, h2⟩ => inside a ha _ h1 h2 (.inr rfl))
    rw [this]
  have hmap : l = (l.map (·.1)).map fun x => (x, re p x) := by
    rw [List.map_map]
    conv => lhs; rw [← List.map_id l]
    exact List.map_congr_left fun a ha => hre a ha
  rw [hmap]
  rw [rrTo_def]
  congr 1
  refine sorted_ext _ _ ?_ ((range_sorted 256).filter _) fun x => ?_
  · rw [List.pairwise_map]
    refine (I.apart.imp_of_mem fun {a b} ha _ h => ?_)
    have := (I.run a ha).1
    omega
  · simp only [List.mem_map, List.mem_filter, List.mem_range, Bool.and_eq_true, Bool.not_eq_true']
    constructor
    · rintro ⟨a, ha, rfl⟩
      have r1 := I.run a ha
      refine ⟨by omega, r1.2.2 a.1 (Nat.le_refl _) r1.1, ?_⟩
      cases h : hasI p ((a.1 : Int) - 1) with
      | false => rfl
      | true =>
        exfalso
        by_cases h0 : a.1 = 0
        · rw [h0] at h; rw [hasI_neg p _ (by omega)] at h; cases h
        · have e : ((a.1 : Int) - 1) = ((a.1 - 1 : Nat) : Int) := by omega
          rw [e] at h
          have := (hasI_iff p (a.1 - 1)).1 h
          exact inside a ha (a.1 - 1) this.1 this.2 (.inl (by omega))
    · rintro ⟨hx, hp, hs⟩
      obtain ⟨a, ha, h1, h2⟩ := I.all x hx hp
      refine ⟨a, ha, ?_⟩
      rcases Nat.lt_or_ge a.1 x with h | h
      · exfalso
        have r1 := I.run a ha
        have : hasI p ((x : Int) - 1) = true := by
          have e : ((x : Int) - 1) = ((x - 1 : Nat) : Int) := by omega
          rw [e]; exact (hasI_iff p (x - 1)).2 ⟨by omega, r1.2.2 _ (by omega) (by omega)⟩
        rw [this] at hs; cases hs
      · omega
/- their sizes -/
def szs (l : List (Nat × Nat)) : Nat := (l.map fun a => a.2 + 1 - a.1).sum
theorem rg_sum (p : Nat → Bool) : ∀ k, szs (rgTo p k) = cntTo p k
  | 0 => by rw [rgTo_zero, cntTo_zero]; rfl
  | k + 1 => by
    have ih := rg_sum p k
    have I := rg_inv p k
    by_cases hp : p k = true
    · rw [cntTo_hit p k hp]
      by_cases hq : 0 < k ∧ p (k - 1) = true
      · obtain ⟨L, s, hL⟩ := I.last hq.1 hq.2
        rw [rgTo_ext p k hp hq.1 hq.2]
        rw [hL] at ih ⊢
        rw [setLast_app]
        have hs := (I.run (s, k - 1) (by rw [hL]; simp)).1
        simp [szs] at ih hs ⊢
        omega
      · rw [rgTo_new p k hp hq]
        simp [szs] at ih ⊢
        omega
    · have hp' : p k = false := by simpa using hp
      rw [rgTo_skip p k hp', cntTo_skip p k hp', ih]
end Go.GK
/- The partition, two ways: the plain law. No program in sight. -/
namespace Go.GK
theorem alike_iff (l : List St) (x y : Nat) : alikeB l x y = true ↔ ∀ s ∈ l, s x = s y := by
  rw [alikeB_def, List.all_eq_true]; simp
theorem alike_refl (l : List St) (x : Nat) : alikeB l x x = true := (alike_iff l x x).2 fun _ _ => rfl
theorem alike_symm {l : List St} {x y : Nat} (h : alikeB l x y = true) : alikeB l y x = true := (alike_iff l y x).2 fun s hs => ((alike_iff l x y).1 h s hs).symm
theorem alike_trans {l : List St} {x y z : Nat} (h : alikeB l x y = true) (k : alikeB l y z = true) : alikeB l x z = true := (alike_iff l x z).2 fun s hs => ((alike_iff l x y).1 h s hs).trans ((alike_iff l y z).1 k s hs)

/- a list of parts by the sets 'l' -/
structure Good (l ps : List St) : Prop where
  cls : ∀ p ∈ ps, ∀ x y, x < 256 → y < 256 → p x = true → (p y = true ↔ alikeB l x y = true)
  one : ∀ x, x < 256 → ∃ A p B, ps = A ++ p :: B ∧ p x = true ∧ (∀ q ∈ A, q x = false) ∧ ∀ q ∈ B, q x = false
theorem cutA_def (p s : St) (x : Nat) : cutA p s x = (p x && s x) := cutA_at p s x
theorem mem_two {p s q : St} (h : q ∈ two p s 2) : q = cutA p s ∨ q = cutB p s := by
  have := (List.mem_filter.1 h).1
  simpa using this
theorem ne_of {p : St} {x : Nat} (hx : x < 256) (h : p x = true) : ne p = true := by
  rw [← ne_eq]
  cases he : eqS p (fun _ => false) with
  | false => rfl
  | true => have := eqS_iff.1 he x hx; rw [h] at this; cases this
theorem good_step (l : List St) (ps : List St) (s : St) (h : Good l ps) : Good (l ++ [s]) (psStep ps s) := by
  have al : ∀ x y, alikeB (l ++ [s]) x y = true ↔ alikeB l x y = true ∧ s x = s y := fun x y => by
    rw [alike_iff, alike_iff]; simp [or_imp, forall_and]
  refine ⟨fun q hq x y hx hy hqx => ?_, fun x hx => ?_⟩
  · obtain ⟨p, hp, hq2⟩ := List.mem_flatMap.1 hq
    have hc := h.cls p hp x y hx hy
    rw [al]
    rcases mem_two hq2 with e | e
    · subst e
      rw [cutA_at] at hqx ⊢
      simp only [Bool.and_eq_true] at hqx ⊢
      rw [hc hqx.1, hqx.2]
      exact ⟨fun h => ⟨h.1, h.2.symm⟩, fun h => ⟨h.1, h.2.symm⟩⟩
    · subst e
      rw [cutB_at] at hqx ⊢
      simp only [Bool.and_eq_true, Bool.not_eq_true'] at hqx ⊢
      rw [hc hqx.1, hqx.2]
      exact ⟨fun h => ⟨h.1, h.2.symm⟩, fun h => ⟨h.1, h.2.symm⟩⟩
  · obtain ⟨A, p, B, hps, hpx, hA, hB⟩ := h.one x hx
    have none_in : ∀ C : List St, (∀ q ∈ C, q x = false) → ∀ q ∈ psStep C s, q x = false := by
      intro C hC q hq
      obtain ⟨p', hp', hq2⟩ := List.mem_flatMap.1 hq
      rcases mem_two hq2 with e | e
      · subst e; rw [cutA_at, hC p' hp']; rfl
      · subst e; rw [cutB_at, hC p' hp']; rfl
    have hstep : psStep ps s = psStep A s ++ (two p s 2 ++ psStep B s) := by rw [hps]; simp [psStep]
    have htwo : two p s 2 = [cutA p s, cutB p s].filter ne := rfl
    cases hsx : s x with
    | true =>
      have h1 : cutA p s x = true := by rw [cutA_at, hpx, hsx]; rfl
      have h2 : cutB p s x = false := by rw [cutB_at, hpx, hsx]; rfl
      have h3 := ne_of hx h1
      rw [hstep, htwo]
      simp only [List.filter_cons, h3, if_true, List.filter_nil]
      refine ⟨psStep A s, cutA p s, (if ne (cutB p s) = true then [cutB p s] else []) ++ psStep B s, by simp, h1, none_in A hA, fun q hq => ?_⟩
      rcases List.mem_append.1 hq with h | h
      · split at h
        · simp at h; subst h; exact h2
        · simp at h
      · exact none_in B hB q h
    | false =>
      have h1 : cutA p s x = false := by rw [cutA_at, hpx, hsx]; rfl
      have h2 : cutB p s x = true := by rw [cutB_at, hpx, hsx]; rfl
      have h3 := ne_of hx h2
      rw [hstep, htwo]
      simp only [List.filter_cons, h3, if_true, List.filter_nil]
      refine ⟨psStep A s ++ (if ne (cutA p s) = true then [cutA p s] else []), cutB p s, psStep B s, ?_, h2, fun q hq => ?_, none_in B hB⟩
      · split <;> simp
      · rcases List.mem_append.1 hq with h | h
        · exact none_in A hA q h
        · split at h
          · simp at h; subst h; exact h1
          · simp at h
theorem psTo_Good (l : List St) : ∀ i, i ≤ l.length → Good (l.take i) (psTo l i)
  | 0, _ => by
    rw [psTo_zero]
    refine ⟨fun p hp x y hx hy _ => ?_, fun x hx => ⟨[], ofP 0 255, [], rfl, by simp [ofP]; omega, by simp, by simp⟩⟩
    simp at hp; subst hp
    rw [alike_iff]; simp [ofP]; omega
  | i + 1, h => by
    rw [psTo_succ l i (by omega), take_succ_nth l i (by omega)]
    exact good_step _ _ _ (psTo_Good l i (by omega))
theorem parts_good (l : List St) : Good l (psTo l l.length) := by
  have := psTo_Good l l.length (Nat.le_refl _)
  rwa [List.take_length] at this

/- one step of the last part -/
theorem fold_none (b : Nat) : ∀ (A : List St) (s : List St × St), (∀ q ∈ A, q b = false) → A.foldl (stp b) s = s
  | [], s, _ => rfl
  | q :: A, s, h => by
    have : stp b s q = s := by simp [stp, h q (by simp)]
    rw [List.foldl_cons, this]; exact fold_none b A s fun q hq => h q (by simp [hq])
theorem fold_one (b : Nat) (ps A B : List St) (p : St) (s : List St × St) (h : ps = A ++ p :: B) (hp : p b = true) (hA : ∀ q ∈ A, q b = false) (hB : ∀ q ∈ B, q b = false) :
    ps.foldl (stp b) s = (s.1 ++ [p], fun y => s.2 y || p y) := by
  rw [h, List.foldl_append, fold_none b A s hA, List.foldl_cons, fold_none b B _ hB]
  simp [stp, hp]
structure OutInv (l : List St) (b : Nat) (out : List St) (sn : St) : Prop where
  cls : ∀ q ∈ out, ∀ x y, x < 256 → y < 256 → q x = true → (q y = true ↔ alikeB l x y = true)
  seen : ∀ x, x < 256 → (sn x = true ↔ ∃ q ∈ out, q x = true)
  upto : ∀ x, x < b → x < 256 → sn x = true
  apart : out.Pairwise fun p q => ∀ x, x < 256 → p x = true → q x = false
theorem out_step (l : List St) (b : Nat) (hb : b < 256) (out : List St) (seen p : St) (I : OutInv l b out seen) (hs : seen b = false) (hp : p b = true) (hc : ∀ x y, x < 256 → y < 256 → p x = true → (p y = true ↔ alikeB l x y = true)) :
    OutInv l (b + 1) (out ++ [p]) (fun y => seen y || p y) := by
  refine ⟨fun q hq x y hx hy h => ?_, fun x hx => ?_, fun x h1 h2 => ?_, ?_⟩
  · rcases List.mem_append.1 hq with h' | h'
    · exact I.cls q h' x y hx hy h
    · simp at h'; subst h'; exact hc x y hx hy h
  · simp only [Bool.or_eq_true, I.seen x hx, List.mem_append, List.mem_singleton]
    constructor
    · rintro (⟨q, hq, h⟩ | h)
      · exact ⟨q, .inl hq, h⟩
      · exact ⟨p, .inr rfl, h⟩
    · rintro ⟨q, hq | rfl, h⟩
      · exact .inl ⟨q, hq, h⟩
      · exact .inr h
  · by_cases e : x = b
    · subst e; simp [hp]
    · simp [I.upto x (by omega) h2]
  · rw [List.pairwise_append]
    refine ⟨I.apart, by simp, fun q hq p' hp' x hx hqx => ?_⟩
    simp at hp'; subst hp'
    cases hpx : p' x with
    | false => rfl
    | true =>
      exfalso
      have h1 := (hc x b hx hb hpx).1 hp
      have h2 := (I.cls q hq x b hx hb hqx).2 h1
      have h3 := (I.seen b hb).2 ⟨q, hq, h2⟩
      rw [hs] at h3; cases h3
theorem out_same (l : List St) : ∀ b, b ≤ 256 → OutInv l b (outSt (psTo l l.length) b).1 (outSt (psTo l l.length) b).2 ∧
    (outSt (psTo l l.length) b).1.map bcs = (rpSt l b).1.map bcs ∧ ∀ x, x < 256 → (outSt (psTo l l.length) b).2 x = (rpSt l b).2 x
  | 0, _ => by
    rw [outSt_zero, rpSt_zero]
    exact ⟨⟨by simp, by simp, by simp, by simp⟩, rfl, fun _ _ => rfl⟩
  | b + 1, h => by
    obtain ⟨I, e1, e2⟩ := out_same l b (by omega)
    cases hs : (outSt (psTo l l.length) b).2 b with
    | true =>
      rw [outSt_skip _ b hs, rpSt_skip l b (by rw [← e2 b (by omega)]; exact hs)]
      refine ⟨⟨I.cls, I.seen, fun x h1 h2 => ?_, I.apart⟩, e1, e2⟩
      by_cases e : x = b
      · subst e; exact hs
      · exact I.upto x (by omega) h2
    | false =>
      obtain ⟨A, p, B, hps, hpb, hA, hB⟩ := (parts_good l).one b (by omega)
      have hfold := fold_one b _ A B p (outSt (psTo l l.length) b) hps hpb hA hB
      have hnew : outSt (psTo l l.length) (b + 1) = ((outSt (psTo l l.length) b).1 ++ [p], fun y => (outSt (psTo l l.length) b).2 y || p y) := by
        rw [outSt_new _ b (psTo l l.length).length hs (Nat.le_refl _), outIn_all, hfold]
      have hmem : p ∈ psTo l l.length := by rw [hps]; simp
      have hc := (parts_good l).cls p hmem
      rw [hnew, rpSt_new l b (by rw [← e2 b (by omega)]; exact hs)]
      have hpc : ∀ y, y < 256 → p y = cls l b y := fun y hy => by
        rw [Bool.eq_iff_iff, hc b y (by omega) hy hpb, cls_at]
        simp only [Bool.and_eq_true, decide_eq_true_eq]
        refine ⟨fun h1 => ⟨?_, h1⟩, fun h1 => h1.2⟩
        rcases Nat.lt_or_ge y b with h2 | h2
        · exfalso
          have h3 := I.upto y h2 hy
          obtain ⟨q, hq, hqy⟩ := (I.seen y hy).1 h3
          have h4 := (I.cls q hq y b hy (by omega) hqy).2 (alike_symm h1)
          have h5 := (I.seen b (by omega)).2 ⟨q, hq, h4⟩
          rw [hs] at h5; cases h5
        · exact h2
      refine ⟨out_step l b (by omega) _ _ p I hs hpb hc, ?_, fun x hx => ?_⟩
      · simp only [List.map_append, List.map_cons, List.map_nil, e1]
        rw [bcs_congr hpc]
      · simp only [e2 x hx, hpc x hx]
theorem same_parts (l : List St) : (partsOf l).length = (rpartsOf l).length ∧ ∀ i, i < (partsOf l).length → eqS (nth (partsOf l) i) (nth (rpartsOf l) i) = true := by
  have e := (out_same l 256 (Nat.le_refl _)).2.1
  have hl : (partsOf l).length = (rpartsOf l).length := by have := congrArg List.length e; simpa [partsOf, rpartsOf] using this
  refine ⟨hl, fun i hi => ?_⟩
  have h1 : ((partsOf l).map bcs)[i]? = ((rpartsOf l).map bcs)[i]? := by
    show ((outSt (psTo l l.length) 256).1.map bcs)[i]? = ((rpSt l 256).1.map bcs)[i]?
    rw [e]
  simp only [List.getElem?_map, nth_some _ i hi, nth_some _ i (by omega : i < (rpartsOf l).length), Option.map_some, Option.some.injEq] at h1
  exact eqS_iff.2 (bcs_inj h1)
/- in one part exactly if in the same sets -/
theorem one_part (l : List St) (x y : Nat) (hx : x < 256) (hy : y < 256) : ∃ A p B, partsOf l = A ++ p :: B ∧ p x = true ∧ p y = alikeB l x y ∧ (∀ q ∈ A, q x = false) ∧ ∀ q ∈ B, q x = false := by
  have I := (out_same l 256 (Nat.le_refl _)).1
  obtain ⟨p, hp, hpx⟩ := (I.seen x hx).1 (I.upto x hx hx)
  obtain ⟨A, B, hAB⟩ := List.append_of_mem hp
  have hap := I.apart
  rw [hAB, List.pairwise_append, List.pairwise_cons] at hap
  refine ⟨A, p, B, hAB, hpx, ?_, fun q hq => ?_, fun q hq => hap.2.1.1 q hq x hx hpx⟩
  · rw [Bool.eq_iff_iff]; exact I.cls p hp x y hx hy hpx
  · have := hap.2.2 q hq p (by simp) x hx
    cases hqx : q x with
    | false => rfl
    | true => have := this hqx; rw [hpx] at this; cases this
/- what the law counts -/
def cntX (ps : List St) (x i : Nat) : Nat := ((ps.take i).filter fun p => p x).length
def togX (ps : List St) (x y i : Nat) : Bool := (ps.take i).foldl (fun t p => if p x then p y else t) false
theorem cntX_zero (ps : List St) (x : Nat) : cntX ps x 0 = 0 := rfl
theorem togX_zero (ps : List St) (x y : Nat) : togX ps x y 0 = false := rfl
theorem cntX_hit (ps : List St) (x i : Nat) (hi : i < ps.length) (h : (nth ps i) x = true) : cntX ps x (i + 1) = cntX ps x i + 1 := by simp [cntX, take_succ_nth ps i hi, h]
theorem cntX_skip (ps : List St) (x i : Nat) (hi : i < ps.length) (h : (nth ps i) x = false) : cntX ps x (i + 1) = cntX ps x i := by simp [cntX, take_succ_nth ps i hi, h]
theorem togX_hit (ps : List St) (x y i : Nat) (hi : i < ps.length) (h : (nth ps i) x = true) : togX ps x y (i + 1) = (nth ps i) y := by simp [togX, take_succ_nth ps i hi, h]
theorem togX_skip (ps : List St) (x y i : Nat) (hi : i < ps.length) (h : (nth ps i) x = false) : togX ps x y (i + 1) = togX ps x y i := by simp [togX, take_succ_nth ps i hi, h]
theorem cntX_le (ps : List St) (x i : Nat) : cntX ps x i ≤ i := by
  have := List.length_filter_le (fun p : St => p x) (ps.take i); simp at this; unfold cntX; omega
theorem split_end (l : List St) (x y i : Nat) (hx : x < 256) (hy : y < 256) (hi : (partsOf l).length ≤ i) : cntX (partsOf l) x i = 1 ∧ togX (partsOf l) x y i = alikeB l x y := by
  obtain ⟨A, p, B, e, h1, h2, hA, hB⟩ := one_part l x y hx hy
  have f0 : ∀ C : List St, (∀ q ∈ C, q x = false) → C.filter (fun p => p x) = [] := fun C hC => by
    rw [List.filter_eq_nil_iff]; intro q hq; simp [hC q hq]
  have g0 : ∀ (C : List St) (t : Bool), (∀ q ∈ C, q x = false) → C.foldl (fun t p => if p x then p y else t) t = t := by
    intro C
    induction C with
    | nil => intro t _; rfl
    | cons q C ih => intro t h; rw [List.foldl_cons, if_neg (by simp [h q (by simp)])]; exact ih t fun q hq => h q (by simp [hq])
  unfold cntX togX
  rw [List.take_of_length_le hi, e]
  constructor
  · rw [List.filter_append, f0 A hA, List.filter_cons, if_pos h1, f0 B hB]; rfl
  · rw [List.foldl_append, g0 A _ hA, List.foldl_cons, if_pos h1, g0 B _ hB, h2]
/- at no set -/
theorem parts_nil : partsOf [] = [ofP 0 255] := by
  have h1 : outSt (psTo [] 0) 1 = ([ofP 0 255], fun y => false || ofP 0 255 y) := by
    rw [outSt_new _ 0 1 (by rw [outSt_zero]) (by rw [psTo_zero]; simp), psTo_zero, show (1 : Nat) = [ofP 0 255].length from rfl, outIn_all]
    simp [stp, ofP, outSt_zero]
  have : ∀ b, b ≤ 255 → outSt (psTo [] 0) (b + 1) = ([ofP 0 255], fun y => false || ofP 0 255 y) := by
    intro b
    induction b with
    | zero => intro _; exact h1
    | succ b ih =>
      intro h
      have ih := ih (by omega)
      rw [outSt_skip _ (b + 1) (by rw [ih]; simp [ofP]; omega), ih]
  have := congrArg Prod.fst (this 255 (Nat.le_refl _))
  exact this
end Go.GK
/- Sets of bytes, and slices of them, as arguments. -/
namespace Go.GK
section
variable {H : Type} {enc : TypeId × Value → H} {P : Program} {w : World} {base : Nat} {spare : Nat → Bool} {held : Bool}
theorem word_of_trod {e : TypeId} {n : Nat} {c : Value} {y : DataW H × List MemPlace} (he : P.underlying e = some (.int .u64)) (h : DataW.trod enc P w base spare held n e [c] = some y) : ∃ a : BitVec 64, c = w64 a := by
  obtain ⟨m, h1, _, h2⟩ := DataW.trod_int he h
  simp only [List.cons.injEq, and_true] at h1
  subst h1
  have hb : 0 ≤ m ∧ m ≤ 18446744073709551615 := by simpa [Lit.wf, IntKind.min, IntKind.max, IntKind.signed, IntKind.bits] using h2
  refine ⟨BitVec.ofInt 64 m, ?_⟩
  unfold w64
  congr 1
  rw [BitVec.toNat_ofInt]
  omega
theorem bcl_of_trod {t e : TypeId} {n : Nat} {cs : List Value} {y : DataW H × List MemPlace} (ht : P.underlying t = some (.array 4 e)) (he : P.underlying e = some (.int .u64)) (h1 : P.cellsOf e = 1) (h4 : P.cellsOf t = 4) (h : DataW.trod enc P w base spare held n t cs = some y) : ∃ p : St, cs = bcl p := by
  obtain ⟨xs, m, _, _, hlen, _, hx⟩ := DataW.trod_array ht h
  rw [h4] at hlen
  have hw : ∀ i, i < 4 → ∃ a : BitVec 64, cs[i]? = some (w64 a) := fun i hi => by
    have := hx i hi
    rw [h1, Nat.mul_one] at this
    have hc : (cs.drop i).take 1 = [cs[i]] := by
      rw [List.drop_eq_getElem_cons (show i < cs.length by omega)]; rfl
    rw [hc] at this
    have hx' : ∃ y, xs[i]? = some y := ⟨xs[i], by simp⟩
    obtain ⟨y', hy'⟩ := hx'
    rw [hy'] at this
    obtain ⟨a, ha⟩ := word_of_trod he this
    exact ⟨a, by rw [← ha]; simp⟩
  obtain ⟨a, ha⟩ := hw 0 (by omega)
  obtain ⟨b, hb⟩ := hw 1 (by omega)
  obtain ⟨c, hc⟩ := hw 2 (by omega)
  obtain ⟨d, hd⟩ := hw 3 (by omega)
  refine ⟨bitsOf a b c d, ?_⟩
  unfold bcl
  rw [← bitsOf_bcs]
  match cs, hlen with
  | [x0, x1, x2, x3], _ => simp at ha hb hc hd; simp [ha, hb, hc, hd]
theorem open_bytes {r : Reach} {b0 : Nat} {t e : TypeId} {v : Value} {d : DataW H} {p : List MemPlace} (ht : P.underlying t = some (.array 4 e)) (he : P.underlying e = some (.int .u64)) (h1 : P.cellsOf e = 1) (h4 : P.cellsOf t = 4)
    (hv : Value.okWide P w r b0 t v) (h : DataW.Trod enc P w base spare held t v d p) : ∃ q : St, v = .agg (bcs q) := by
  simp only [Value.okWide, ht] at hv
  obtain ⟨cs, rfl, _⟩ := hv
  obtain ⟨fuel, hf⟩ := h
  obtain ⟨q, hq⟩ := bcl_of_trod ht he h1 h4 hf
  refine ⟨q, ?_⟩
  simp only [Value.cells, bcl] at hq
  congr 1
  exact Array.toList_inj.1 hq
theorem open_bsl {r : Reach} {b0 : Nat} {t e u : TypeId} {v : Value} {d : DataW H} {p : List MemPlace} (ht : P.underlying t = some (.slice e)) (he : P.underlying e = some (.array 4 u)) (hu : P.underlying u = some (.int .u64)) (h1 : P.cellsOf u = 1) (h4 : P.cellsOf e = 4)
    (hv : Value.okWide P w r b0 t v) (h : DataW.Trod enc P w base spare held t v d p) : ∃ l : List St, Sl (Hp.of w) v 4 l.length (l.flatMap bcl) := by
  obtain ⟨a, len, cap, rfl⟩ := Go.WideShapes.okWide_slice ht hv
  obtain ⟨fuel, hf⟩ := h
  obtain ⟨l, hl, _⟩ := sl_of_trod (en := bcl) ht h4 bcl_len (fun _ => True) (fun n cs y _ hy => by obtain ⟨q, hq⟩ := bcl_of_trod he hu h1 h4 hy; exact ⟨q, hq, trivial⟩) hf
  exact ⟨l, hl⟩
end
theorem nat_of_u8 {a : Int} (h : (Lit.int .u8 a).wf = true) : ∃ n : Nat, a = (n : Int) ∧ n < 256 := by
  have hb : 0 ≤ a ∧ a ≤ 255 := by simpa [Lit.wf, IntKind.min, IntKind.max, IntKind.signed, IntKind.bits] using h
  exact ⟨a.toNat, by omega, by omega⟩
end Go.GK
/- More plain laws over sets of bytes: the first of the list, the ranges' cells, the union of ranges. No program in sight. -/
namespace Go.GK
theorem cntTo_eq (p : Nat → Bool) (k : Nat) : cntTo p k = (listTo p k).length := by unfold cntTo; rfl
theorem list_find (p : Nat → Bool) : (listTo p 256)[0]? = (List.range 256).find? p := by
  unfold listTo; rw [← List.head?_eq_getElem?, List.head?_filter]
theorem list_none (p : Nat → Bool) (h : (listTo p 256).length = 0) : lst p = 0 ∧ anyS p = false := by
  have h1 := list_find p
  rw [List.getElem?_eq_none (by omega)] at h1
  unfold lst anyS
  rw [← h1]; exact ⟨rfl, rfl⟩
theorem list_some (p : Nat → Bool) (h : 0 < (listTo p 256).length) : (listTo p 256)[0]? = some (lst p) ∧ anyS p = true := by
  have h1 := list_find p
  have h2 := List.getElem?_eq_getElem h
  rw [h2] at h1
  unfold lst anyS
  rw [← h1]; exact ⟨h2, rfl⟩
theorem listTo_cell (p : Nat → Bool) (h : 0 < (listTo p 256).length) : ((listTo p 256).flatMap encI)[0]? = some (.int .i64 ((lst p : Nat) : Int)) := by
  have := flat_get encI 1 (fun _ => rfl) (listTo p 256) 0 0 _ (list_some p h).1 (by omega)
  simpa [encI] using this
theorem cntTo_pos (p : Nat → Bool) (h : ¬ (((listTo p 256).length : Nat) : Int) = 0) : 0 < (listTo p 256).length := by omega
def pr (l : List (Nat × Nat)) (i : Nat) : Nat × Nat := l.getD i (0, 0)
theorem pr_some (l : List (Nat × Nat)) (i : Nat) (h : i < l.length) : l[i]? = some (pr l i) := by simp [pr, h]
theorem pr_mem (l : List (Nat × Nat)) (i : Nat) (h : i < l.length) : pr l i ∈ l := List.mem_of_getElem? (pr_some l i h)
theorem pr_b0 (l : List (Nat × Nat)) (i : Nat) (h : i < l.length) : (l.flatMap encB)[i * 2]? = some (.int .u8 (((pr l i).1 : Nat) : Int)) := by
  have := flat_get encB 2 encB_len l i 0 _ (pr_some l i h) (by omega); simpa [encB] using this
theorem pr_b1 (l : List (Nat × Nat)) (i : Nat) (h : i < l.length) : (l.flatMap encB)[i * 2 + 1]? = some (.int .u8 (((pr l i).2 : Nat) : Int)) := by
  have := flat_get encB 2 encB_len l i 1 _ (pr_some l i h) (by omega); simpa [encB] using this
theorem pr_z0 (l : List (Nat × Nat)) (i : Nat) (h : i < l.length) : (l.flatMap encZ)[i * 2]? = some (.int .i64 (((pr l i).1 : Nat) : Int)) := by
  have := flat_get encZ 2 encZ_len l i 0 _ (pr_some l i h) (by omega); simpa [encZ] using this
theorem pr_z1 (l : List (Nat × Nat)) (i : Nat) (h : i < l.length) : (l.flatMap encZ)[i * 2 + 1]? = some (.int .i64 (((pr l i).2 : Nat) : Int)) := by
  have := flat_get encZ 2 encZ_len l i 1 _ (pr_some l i h) (by omega); simpa [encZ] using this
/- the ranges of a set -/
theorem rg_len (p : Nat → Bool) : (rgTo p 256).length ≤ 256 := rgTo_len p 256
theorem rg_pr (p : Nat → Bool) (i : Nat) (h : i < (rgTo p 256).length) : (pr (rgTo p 256) i).1 ≤ (pr (rgTo p 256) i).2 ∧ (pr (rgTo p 256) i).2 < 256 := by
  have := (rg_inv p 256).run _ (pr_mem _ i h); exact ⟨this.1, this.2.1⟩
theorem rg_gap (p : Nat → Bool) (i : Nat) (h : i < (rgTo p 256).length) (h0 : 0 < i) : (pr (rgTo p 256) (i - 1)).2 + 2 ≤ (pr (rgTo p 256) i).1 := by
  have ha := (rg_inv p 256).apart
  have := List.pairwise_iff_getElem.1 ha (i - 1) i (by omega) h (by omega)
  have e1 := pr_some (rgTo p 256) i h
  have e2 := pr_some (rgTo p 256) (i - 1) (by omega)
  rw [List.getElem?_eq_getElem h] at e1
  rw [List.getElem?_eq_getElem (show i - 1 < _ by omega)] at e2
  injection e1 with e1; injection e2 with e2
  rw [e1, e2] at this; exact this
def rgU (l : List (Nat × Nat)) (i : Nat) (z : Nat) : Bool := (l.take i).any fun a => ofP a.1 a.2 z
def rgN (l : List (Nat × Nat)) (i : Nat) : Nat := szs (l.take i)
theorem rgU_zero (l : List (Nat × Nat)) : bcs (fun _ => false) = bcs (rgU l 0) := bcs_congr fun x _ => by simp [rgU]
theorem rgN_zero (l : List (Nat × Nat)) : rgN l 0 = 0 := by simp [rgN, szs]
theorem take_succ_pr (l : List (Nat × Nat)) (i : Nat) (h : i < l.length) : l.take (i + 1) = l.take i ++ [pr l i] := by
  rw [List.take_add_one, pr_some l i h]; rfl
theorem rgU_succ (l : List (Nat × Nat)) (i : Nat) (h : i < l.length) : (fun z => rgU l i z || ofP (pr l i).1 (pr l i).2 z) = rgU l (i + 1) := by
  funext z; simp [rgU, take_succ_pr l i h]
theorem rgN_succ (l : List (Nat × Nat)) (i : Nat) (h : i < l.length) : rgN l (i + 1) = rgN l i + ((pr l i).2 + 1 - (pr l i).1) := by
  simp [rgN, take_succ_pr l i h, szs]
theorem rgN_step (p : Nat → Bool) (i : Nat) (h : i < (rgTo p 256).length) : ((rgN (rgTo p 256) (i + 1) : Nat) : Int) = ((rgN (rgTo p 256) i : Nat) : Int) + (pr (rgTo p 256) i).2 - (pr (rgTo p 256) i).1 + 1 := by
  have h1 := rgN_succ (rgTo p 256) i h
  have h2 := rg_pr p i h
  omega
theorem szs_take (l : List (Nat × Nat)) (i : Nat) : szs (l.take i) ≤ szs l := by
  have h : szs (l.take i) + szs (l.drop i) = szs l := by
    simp only [szs]; rw [← List.sum_append_nat, ← List.map_append, List.take_append_drop]
  omega
theorem rgN_le (p : Nat → Bool) (i : Nat) : rgN (rgTo p 256) i ≤ 256 := by
  have h1 := szs_take (rgTo p 256) i
  have h2 := rg_sum p 256
  have h3 := cntTo_le p 256
  unfold rgN; omega
theorem rgU_done (p : Nat → Bool) (i : Nat) (h : (rgTo p 256).length ≤ i) : eqS (rgU (rgTo p 256) i) p = true := eqS_iff.2 fun z hz => by
  have I := rg_inv p 256
  unfold rgU
  rw [List.take_of_length_le h, Bool.eq_iff_iff]
  simp only [List.any_eq_true, ofP, Bool.and_eq_true, decide_eq_true_eq]
  constructor
  · rintro ⟨a, ha, h1, h2⟩; exact (I.run a ha).2.2 z h1 h2
  · intro hp; obtain ⟨a, ha, h1, h2⟩ := I.all z hz hp; exact ⟨a, ha, h1, h2⟩
theorem rgN_done (p : Nat → Bool) (i : Nat) (h : (rgTo p 256).length ≤ i) : rgN (rgTo p 256) i = cntTo p 256 := by
  unfold rgN; rw [List.take_of_length_le h, rg_sum]
/- alike so far -/
def alikeTo (l : List St) (x y i : Nat) : Bool := alikeB (l.take i) x y
theorem alikeTo_zero (l : List St) (x y : Nat) : alikeTo l x y 0 = true := by simp [alikeTo, alikeB_def]
theorem alikeTo_succ (l : List St) (x y i : Nat) (h : i < l.length) : alikeTo l x y (i + 1) = (alikeTo l x y i && (nth l i x == nth l i y)) := by
  simp [alikeTo, alikeB_def, take_succ_nth l i h]
theorem alikeTo_yes (l : List St) (x y i : Nat) (h : i < l.length) (h1 : alikeTo l x y i = true) : alikeTo l x y (i + 1) = (nth l i x == nth l i y) := by rw [alikeTo_succ l x y i h, h1]; rfl
theorem alikeTo_no (l : List St) (x y i : Nat) (h : i < l.length) (h1 : ¬ alikeTo l x y i = true) : alikeTo l x y (i + 1) = false := by
  rw [alikeTo_succ l x y i h]; simp at h1; rw [h1]; rfl
theorem alikeTo_done (l : List St) (x y i : Nat) (h : l.length ≤ i) : alikeTo l x y i = alikeB l x y := by unfold alikeTo; rw [List.take_of_length_le h]
theorem parts_len (l : List St) : (partsOf l).length ≤ 65536 := by have := outSt_len (psTo l l.length) (psTo_len l l.length) 256; exact this
theorem lst_lt (p : Nat → Bool) : lst p < 256 := by
  unfold lst
  cases h : (List.range 256).find? p with
  | none => simp
  | some a => have := List.mem_of_find?_eq_some h; simp at this ⊢; exact this
attribute [irreducible] pr rgU rgN alikeTo
end Go.GK
/- The program's byteset, in the words of plain functions. -/
namespace Go.GK
def orS (p q : BSet) : BSet := fun t => p t || q t
def andS (p q : BSet) : BSet := fun t => p t && q t
def notS (p : BSet) : BSet := fun t => !p t
def rgD (p : BSet) : List (Int × Int) := (rgTo p 256).map fun a => ((a.1 : Int), (a.2 : Int))
def partsD (l : List BSet) : List BSet := partsOf l
section
variable {P : Program} {H : Hp} {O : List Res}
theorem layBs {H : Hp} : ∀ {l : List BSet} {xs : List Value}, LayL cBs H l xs ↔ xs = l.flatMap bcl
  | [], xs => Iff.rfl
  | p :: l, xs => by
    constructor
    · rintro ⟨cs, ys, rfl, h1, h2⟩
      rw [show cs = (bcs p).toList from h1, layBs.1 h2]; rfl
    · intro h; exact ⟨bcl p, l.flatMap bcl, h, rfl, layBs.2 rfl⟩
theorem layPr {H : Hp} : ∀ {l : List (Nat × Nat)}, (∀ a ∈ l, a.1 < 256 ∧ a.2 < 256) → LayL (cP cU8 cU8) H (l.map fun a => ((a.1 : Int), (a.2 : Int))) (l.flatMap encB)
  | [], _ => rfl
  | a :: l, h => ⟨encB a, l.flatMap encB, rfl, ⟨[.int .u8 (a.1 : Int)], [.int .u8 (a.2 : Int)], rfl, ⟨rfl, by have := h a (by simp); simp, by have := h a (by simp); simp; omega⟩, ⟨rfl, by simp, by have := h a (by simp); simp; omega⟩⟩, layPr fun b hb => h b (by simp [hb])⟩
theorem rg_bd (p : BSet) : ∀ a ∈ rgTo p 256, a.1 < 256 ∧ a.2 < 256 := fun a ha => by
  obtain ⟨i, hi, rfl⟩ := List.getElem_of_mem ha
  have := rg_pr p i hi
  have e : pr (rgTo p 256) i = (rgTo p 256)[i] := by have := pr_some (rgTo p 256) i hi; rw [List.getElem?_eq_getElem hi] at this; exact (Option.some.inj this).symm
  rw [e] at this; omega
theorem TriV.has_i {f : FuncId} {p : BSet} {b : Int} (hw : ∀ b : Nat, b < 256 → TriV P f [.agg (bcs p), .int .u8 (b : Int)] H O (.bool (p b))) (h0 : 0 ≤ b) (h1 : b ≤ 255) : TriV P f [.agg (bcs p), .int .u8 b] H O (.bool (p b.toNat)) := by
  have := hw b.toNat (by omega)
  rwa [Int.toNat_of_nonneg h0] at this
theorem TriV.of_i {f : FuncId} {lo hi : Int} (hw : ∀ lo hi : Nat, lo < 256 → hi < 256 → TriV P f [.int .u8 (lo : Int), .int .u8 (hi : Int)] H O (bs (ofP lo hi))) (h0 : 0 ≤ lo) (h1 : lo ≤ 255) (h2 : 0 ≤ hi) (h3 : hi ≤ 255) : TriV P f [.int .u8 lo, .int .u8 hi] H O (bs (ofP lo.toNat hi.toNat)) := by
  have := hw lo.toNat hi.toNat (by omega) (by omega)
  rwa [Int.toNat_of_nonneg h0, Int.toNat_of_nonneg h2] at this
theorem Tri.ranges_i {f : FuncId} {p : BSet} (hw : Tri P f [.agg (bcs p)] H O (fun v H' O' => O' = O ∧ Sl H' v 2 (rgTo p 256).length ((rgTo p 256).flatMap encB))) : Tri P f [.agg (bcs p)] H O (fun v H' O' => (∃ v1, v1 = v ∧ SlD (cP cU8 cU8) H' (rgD p) v1) ∧ O = O') :=
  hw.mono fun v H' O' _ ⟨h1, h2⟩ => ⟨⟨v, rfl, SlD.of h2 (by simp [rgD]) (layPr (rg_bd p)) (by have := rg_len p; simp only [rgD, List.length_map]; omega)⟩, h1.symm⟩
theorem Tri.part_i {f : FuncId} {l : List BSet} {v : Value} (hw : ∀ (l : List St) (v : Value), Sl H v 4 l.length (l.flatMap bcl) → l.length ≤ 4294967296 → Tri P f [v] H O (fun v H' O' => O' = O ∧ Sl H' v 4 (partsOf l).length ((partsOf l).flatMap bcl)))
    (hl : SlD cBs H l v) (hn : l.length ≤ 4294967296) : Tri P f [v] H O (fun v H' O' => (∃ v1, v1 = v ∧ SlD cBs H' (partsD l) v1) ∧ O = O') := by
  obtain ⟨⟨xs, h1, h2⟩, h3⟩ := hl
  have e := layBs.1 h2
  subst e
  exact (hw l v h1 hn).mono fun v H' O' _ ⟨h1, h2⟩ => ⟨⟨v, rfl, SlD.of h2 rfl (layBs.2 rfl) (by have := parts_len l; show (partsOf l).length ≤ _; omega)⟩, h1.symm⟩
end
end Go.GK
namespace Go.GK
theorem zw (i : Nat) : w64 (word (fun _ => false) i) = .int .u64 0 := by
  have : word (fun _ => false) i = 0#64 := by
    apply BitVec.eq_of_getLsbD_eq
    intro j hj; rw [word_bit]; simp
  rw [this]; rfl
theorem bs0 : Value.agg #[.int .u64 0, .int .u64 0, .int .u64 0, .int .u64 0] = .agg #[w64 (word (fun _ => false) 0), w64 (word (fun _ => false) 1), w64 (word (fun _ => false) 2), w64 (word (fun _ => false) 3)] := by simp only [zw]
end Go.GK
/- Parts of slices and of strings. -/
namespace Go.GK
def slV (v : Value) (lo hi sz : Nat) : Value := match v with
  | .slice a _ cap => sliced a lo hi cap sz
  | _ => undef
def slD {α : Type} (l : List α) (lo hi : Int) : List α := (l.take hi.toNat).drop lo.toNat
/- the bounds of a part, as they are given -/
def SBnd (E : Operand → Option Value) (lo hi : Option Operand) (l h : Int) (n : Nat) : Prop :=
  (lo = none ∧ l = 0 ∨ ∃ p k, lo = some p ∧ E p = some (.int k l)) ∧ (hi = none ∧ h = (n : Int) ∨ ∃ p k, hi = some p ∧ E p = some (.int k h))
section
variable {P : Program} {T : TypeId} {E : Operand → Option Value} {H : Hp} {O : List Res} {α : Type} {c : Cd α}
theorem add_zero_addr (a : Addr) : a.add 0 = a := by cases a; simp [Addr.add]
theorem elem_of {t e : TypeId} (ht : P.underlying t = some (.slice e)) : P.underlying t = some (.slice (P.elem t)) := by simp [Program.elem, ht]
theorem elem_eq {t e : TypeId} (ht : P.underlying t = some (.slice e)) : P.elem t = e := by simp [Program.elem, ht]
theorem run_sl {t e : TypeId} {size bytes : Nat} {z : Value} {a : Option Addr} {n cap : Nat} {lo hi : Option Operand} {l h : Int} {ac : Act} (ht : P.underlying t = some (.slice e)) (hz : TI P e size bytes z) (hB : SBnd E lo hi l h n) (he : ∀ x v, E x = some v → ac.eval x = v)
    (h0 : 0 ≤ l) (h1 : l ≤ h) (h2 : h ≤ (n : Nat)) (h3 : n ≤ cap) (w : World) : (Instr.sliceAt t (.slice a n cap) (lo.map ac.eval) (hi.map ac.eval) none).run P w = .ok (sliced a l.toNat h.toNat cap size) w := by
  have ht' := elem_of ht
  have hs : (Go.sizeOf (P.elem t)).run P w = .ok size w := by rw [elem_eq ht]; exact hz.sizeOf
  rw [run_sliceAt_slice (h := ht')]
  obtain ⟨hl, hh⟩ := hB
  rcases hl with ⟨rfl, rfl⟩ | ⟨p, k, rfl, hp⟩ <;> rcases hh with ⟨rfl, rfl⟩ | ⟨q, k', rfl, hq⟩
  · simp only [Option.map_none]; rw [run_slice_all (t := t) (a := a) (len := n) (cap := cap) (ht := ht'), hs]; simp [Result.andThen]
  · simp only [Option.map_none, Option.map_some, he q _ hq]; rw [run_slice_h (t := t) (a := a) (len := n) (cap := cap) (ht := ht') (h0 := h1) (h2 := by omega), hs]; simp [Result.andThen]
  · simp only [Option.map_none, Option.map_some, he p _ hp]; rw [run_slice_l (t := t) (a := a) (len := n) (cap := cap) (ht := ht') (h0 := h0) (h1 := h1), hs]; simp [Result.andThen]
  · simp only [Option.map_some, he p _ hp, he q _ hq]; rw [run_slice_lh (t := t) (a := a) (len := n) (cap := cap) (ht := ht') (h0 := h0) (h1 := h1) (h2 := by omega), hs]; simp [Result.andThen]
theorem ownsRow_take {w : World} {base : Nat} {e : TypeId} {size g cap n h : Nat} {xs : List Value} (hh : h ≤ n)
    (ho : w.ownsRow base e size (.slice (some ⟨g, 0, none⟩) n cap) n xs) : w.ownsRow base e size (.slice (some ⟨g, 0, none⟩) h cap) h (xs.take (h * size)) := by
  obtain ⟨h1, h2⟩ := ho
  rcases h2 with ⟨h0, _⟩ | ⟨g', cap', cur, hv, hg, hh', hn, hcap, hsz, htake⟩
  · cases h0
  · cases hv
    refine ⟨by rw [List.length_take, h1]; exact Nat.min_eq_left (Nat.mul_le_mul_right _ hh), .inr ⟨g, cap, cur, rfl, hg, hh', by omega, hcap, hsz, ?_⟩⟩
    rw [← htake, List.take_take, Nat.min_eq_left (Nat.mul_le_mul_right _ hh)]
theorem OpS.sliceR {x y : Operand} {t e : TypeId} {bytes : Nat} {z v : Value} {l : List α} {xs : List Value} {k : IntKind} {h : Int} {i : Nat} (ht : P.underlying t = some (.slice e)) (hz : TI P e c.sz bytes z) (hx : E x = some v) (hy : E y = some (.int k h))
    (hi : O[i]? = some (.row v e c.sz l.length xs)) (hb : 0 ≤ h ∧ h ≤ (l.length : Nat)) :
    OpS P (.slice t x none (some y) none) T E H O (fun v' H' O' => H' = H ∧ O' = O.set i (.row v' e c.sz h.toNat (xs.take (h.toNat * c.sz)))) := .of_run fun ac w o ho _ he hw => by
  have hown := hw.ok i _ hi
  simp only [Res.ok] at hown
  have hB : SBnd E none (some y) 0 h l.length := ⟨.inl ⟨rfl, rfl⟩, .inr ⟨y, k, rfl, hy⟩⟩
  rcases hown.2 with ⟨rfl, h0⟩ | ⟨g, cap, cur, rfl, _, hg, hnc, hcm, hcs, htake⟩
  · have hz0 : h = 0 := by omega
    subst hz0
    have hr := run_sl (ac := ac) (a := none) (cap := 0) ht hz hB he (Int.le_refl 0) hb.1 hb.2 (by omega) w
    rw [h0] at hr
    refine ⟨.slice none 0 0, w, H, _, ?_, Hp.le.refl H, ⟨rfl, rfl⟩, hw.set hi (w' := w) (r' := .row (.slice none 0 0) e c.sz 0 (xs.take (0 * c.sz))) ⟨rfl, rfl, rfl, Nat.le_refl _, fun _ _ _ => rfl⟩ ?_ ?_⟩
    · have hr' : Sem.run P (Instr.sliceAt t (.slice none 0 0) none (some (ac.eval y)) none) w = .ok (.slice none 0 0) w := by simpa [sliced] using hr
      simp [execOp, ho, he x _ hx, hr', Result.andThen]
    · simpa [Res.ok] using World.ownsRow_nil w _ e c.sz
    · intro b hb; cases hb
  · have hr := run_sl (ac := ac) (a := some ⟨g, 0, none⟩) (cap := cap) ht hz hB he (Int.le_refl 0) hb.1 hb.2 hnc w
    have hv : sliced (some ⟨g, 0, none⟩) (0 : Int).toNat h.toNat cap c.sz = .slice (some ⟨g, 0, none⟩) h.toNat cap := by
      simp [sliced, add_zero_addr]
    rw [hv] at hr
    refine ⟨_, w, H, _, ?_, Hp.le.refl H, ⟨rfl, rfl⟩, hw.set hi (w' := w) (r' := .row (.slice (some ⟨g, 0, none⟩) h.toNat cap) e c.sz h.toNat (xs.take (h.toNat * c.sz))) ⟨rfl, rfl, rfl, Nat.le_refl _, fun _ _ _ => rfl⟩ (ownsRow_take (by omega) hown) ?_⟩
    · have hr' : Sem.run P (Instr.sliceAt t (.slice (some ⟨g, 0, none⟩) l.length cap) none (some (ac.eval y)) none) w = .ok (.slice (some ⟨g, 0, none⟩) h.toNat cap) w := by simpa using hr
      simp [execOp, ho, he x _ hx, hr', Result.andThen]
    · intro b hb; exact .inl hb
end
section
variable {P : Program} {Q : Exit → Act → World → Prop} {n : Nat} {L : List (Nat × Value)} {H : Hp} {O : List Res} {ops : Array Oper} {rest : List Oper} {T : TypeId} {α : Type} {c : Cd α}
theorem Seg.sliceR {d : Tmp} {pos : String} {af : Array Edge} {x y : Operand} {t e : TypeId} {bytes : Nat} {z v : Value} {l : List α} {xs : List Value} {kk : IntKind} {h : Int} (i : Nat) (hL : LayL c H l xs) (ht : P.underlying t = some (.slice e)) (hz : TI P e c.sz bytes z) (hx : ev L x = some v) (hy : ev L y = some (.int kk h))
    (hi : O[i]? = some (.row v e c.sz l.length xs)) (hb : 0 ≤ h ∧ h ≤ (l.length : Nat)) (hd : Nat.blt d n = true)
    (k : ∀ v' xs', LayL c H (l.take h.toNat) xs' → Seg P ops Q rest n ((d, v') :: L) H (O.set i (.row v' e c.sz (l.take h.toNat).length xs'))) :
    Seg P ops Q ({ dst := some d, op := .slice t x none (some y) none, type := T, pos, after := af, guard := none } :: rest) n L H O := by
  refine Seg.opS (OpS.sliceR (c := c) (l := l) ht hz hx hy hi hb) hd ?_
  rintro v' H' O' hl ⟨rfl, rfl⟩
  have := k v' _ (hL.take h.toNat)
  rwa [List.length_take, Nat.min_eq_left (by omega)] at this
end
end Go.GK
/- slices.SortFunc at structs, where the comparison parts the elements. -/
namespace Go.GK
open Go.Proofs Go.Shelf Go.Sort
def cmpLo (x y : Int × Int × Int) : Option Int := some (x.1 - y.1)
section
variable {α : Type} (cmp : α → α → Option Int)
def ltC (x y : α) : Bool := decide ((cmp x y).getD 0 < 0)
def CmpOk (l : List α) : Prop :=
  (∀ i j : Fin l.length, (cmp l[i] l[j]).isSome = true) ∧ (∀ i : Fin l.length, ltC cmp l[i] l[i] = false) ∧ (∀ i j k : Fin l.length, ltC cmp l[i] l[j] = true → ltC cmp l[j] l[k] = true → ltC cmp l[i] l[k] = true) ∧
  (∀ i j k : Fin l.length, ltC cmp l[i] l[j] = false → ltC cmp l[j] l[k] = false → ltC cmp l[i] l[k] = false) ∧ (∀ i j : Fin l.length, ltC cmp l[i] l[j] = false → ltC cmp l[j] l[i] = false → i = j)
instance (l : List α) : Decidable (CmpOk cmp l) := by unfold CmpOk; infer_instance
def sortF (l : List α) : List α := isortB (fun x y => !ltC cmp y x) l
theorem sortF_length (l : List α) : (sortF cmp l).length = l.length := (isortB_perm _ l).length_eq
end
theorem LayL.chunk {α : Type} {c : Cd α} {H : Hp} {l : List α} {xs : List Value} (h : LayL c H l xs) (i : Fin l.length) : c.Lay H l[i] ((xs.drop (i * c.sz)).take c.sz) := by
  obtain ⟨cs, h1, _, h3⟩ := h.get (i := i) (x := l[i]) (by simp)
  rw [← h3]; exact h1
theorem LayL.of_chunks {α : Type} {c : Cd α} {H : Hp} {ι : Type} (f : ι → α) (g : ι → List Value) (h : ∀ i, c.Lay H (f i) (g i)) : ∀ is : List ι, LayL c H (is.map f) (is.map g).flatten
  | [] => rfl
  | i :: is => ⟨g i, (is.map g).flatten, rfl, h i, LayL.of_chunks f g h is⟩
theorem flatK_list {β : Type} [Inhabited β] (enc : β → List Value) (k : Nat) (hk : ∀ x, (enc x).length = k) (d : Array β) : (flatK enc k d).toList = (d.toList.map enc).flatten := by
  have key : ∀ (l : List β) (t : Nat) (ht : t < l.length * k) (h2 : t < (l.map enc).flatten.length), (l.map enc).flatten[t] = (enc (l.toArray[t / k]!))[t % k]! := by
    intro l
    induction l with
    | nil => intro t ht; simp at ht
    | cons a l ih =>
      intro t ht h2
      simp only [List.map_cons, List.flatten_cons]
      have k0 : 0 < k := by rcases Nat.eq_zero_or_pos k with h | h
                            · subst h; simp at ht
                            · exact h
      by_cases hlt : t < k
      · rw [List.getElem_append_left (by rw [hk]; exact hlt), Nat.div_eq_of_lt hlt, Nat.mod_eq_of_lt hlt]
        have : t < (enc a).length := by rw [hk]; exact hlt
        simp [this]
      · have hl := hk a
        rw [List.getElem_append_right (by rw [hk]; omega)]
        have e : t - (enc a).length = t - k := by rw [hk]
        have hd : t / k = (t - k) / k + 1 := by rw [← Nat.sub_add_cancel (show k ≤ t by omega), Nat.add_sub_cancel, Nat.add_div_right _ k0]
        have hm : t % k = (t - k) % k := by rw [← Nat.sub_add_cancel (show k ≤ t by omega), Nat.add_sub_cancel, Nat.add_mod_right]
        have ih' := ih (t - k) (by simp only [List.length_cons, Nat.add_mul, Nat.one_mul] at ht; omega) (by simp only [List.map_cons, List.flatten_cons, List.length_append, hk] at h2; omega)
        rw [hd, hm]
        simp only [e]
        rw [ih']
        congr 2
        simp
  have hlen : ∀ l : List β, (l.map enc).flatten.length = l.length * k := by
    intro l; induction l with
    | nil => simp
    | cons a l ih => simp only [List.map_cons, List.flatten_cons, List.length_append, hk, List.length_cons, Nat.add_mul, Nat.one_mul, ih]; omega
  apply List.ext_getElem
  · simp [hlen]
  · intro t h1 h2
    have ht : t < d.size * k := by simpa using h1
    rw [key d.toList t (by simpa using ht) h2]
    simp [flatK]

theorem grownBy_sortK {β : Type} [Inhabited β] (enc : β → List Value) (k : Nat) (w : World) (g m : Nat) (d : Array β) (os : Array Obj) : w.grownBy (sortWorldK enc k w g 0 m d os) (some g) := by
  refine ⟨rfl, rfl, rfl, by simp [sortWorldK, putRowK], fun b hb hne => ?_⟩
  have : g ≠ b := fun e => hne (by rw [e])
  unfold sortWorldK
  rw [heap_grow_old _ _ (by simpa [putRowK] using hb)]
  simp [putRowK, putRow, mapBlock, Sort.ahead, Array.getElem?_modify, this]
theorem heap_sortK {β : Type} [Inhabited β] (enc : β → List Value) (k : Nat) {w : World} {g : Nat} (m : Nat) (d : Array β) (os : Array Obj) {cur : Array Value} {e : TypeId} {fr : Nat × Nat} (hb : w.heap[g]? = some (.cells cur e fr)) :
    (sortWorldK enc k w g 0 m d os).heap[g]? = some (.cells (putCells id 0 (flatK enc k d) cur) e fr) := by
  have hg : g < w.heap.size := (Array.getElem?_eq_some_iff.1 hb).1
  unfold sortWorldK
  rw [heap_grow_old _ _ (by simpa [putRowK] using hg)]
  simp [putRowK, putRow, mapBlock, Sort.ahead, Array.getElem?_modify, hb, onCells]
theorem take_putId (cur F : Array Value) (h : F.size ≤ cur.size) : (putCells id 0 F cur).toList.take F.size = F.toList := by
  apply List.ext_getElem?
  intro j
  by_cases hj : j < F.size
  · rw [List.getElem?_take_of_lt hj, Array.getElem?_toList]
    simp [putCells, hj, show j < cur.size by omega]
  · rw [List.getElem?_take_eq_none (by omega), List.getElem?_eq_none (by simp; omega)]
theorem map_finRange {α : Type} (l : List α) : (List.finRange l.length).map (fun i => l[i]) = l := by
  apply List.ext_getElem (by simp)
  intro i h1 h2; simp
section
variable {P : Program} {ρ : Ren} {H : Hp} {O : List Res} {α : Type} {c : Cd α}
theorem Tri.sortFn (Ly : SlLaysF0.n6 P ρ) (aE : ∀ w, (isAgg (ρ.t 24)).run P w = .ok true w) (zE : ∀ w, (Go.sizeOf (ρ.t 24)).run P w = .ok c.sz w) {g : Nat} (eg : ∀ args w, (callFunc g args).run P w = .ok (.enter g args) w) {cmp : α → α → Option Int}
    (hcmp : ∀ (H : Hp) (x y : α) (r : Int) (cs1 cs2 : List Value), c.Lay H x cs1 → c.Lay H y cs2 → cmp x y = some r → ∀ W, Calls P g #[.agg cs1.toArray, .agg cs2.toArray] W fun e w' => e = .returned (.int .i64 r) ∧ ∃ q os', w' = grow (W.drewN q) os')
    {l : List α} {v : Value} {e : TypeId} {xs : List Value} (hL : LayL c H l xs) (hok : CmpOk cmp l) (hn : l.length ≤ capN) :
    Tri P (ρ.f 6) [v, .func (.func g) #[] #[]] H (.row v e c.sz l.length xs :: O) (fun r H' O' => ∃ xs', .tuple #[] = r ∧ LayL c H' (sortF cmp l) xs' ∧ .row v e c.sz (sortF cmp l).length xs' :: O = O') := fun w hs => by
  have hlen := sortF_length cmp l
  have hown := hs.ok 0 _ rfl
  simp only [Res.ok] at hown
  by_cases hnil : l = []
  · subst hnil
    have hv : ∃ p cap, v = .slice p 0 cap := by
      rcases hown.2 with ⟨rfl, _⟩ | ⟨g, cap, cur, rfl, _⟩ <;> exact ⟨_, _, rfl⟩
    obtain ⟨p, cap, rfl⟩ := hv
    refine (AnyF.slices_SortFunc_none Ly p cap _ w).mono fun e' w' ⟨g1, g2⟩ => ?_
    subst g2
    exact ⟨_, H, _, g1, Hp.le.refl H, hs, xs, rfl, by simpa [sortF, isortB] using hL, by simp [sortF, isortB]⟩
  · have hpos : 0 < l.length := List.length_pos_iff.2 hnil
    rcases hown.2 with ⟨rfl, hz⟩ | ⟨b, cap, cur, rfl, _, hg, hnc, hcm, hcs, htake⟩
    · omega
    letI : Inhabited (Fin l.length) := ⟨⟨0, hpos⟩⟩
    let enc : Fin l.length → List Value := fun i => (xs.drop (i * c.sz)).take c.sz
    let cf : Fin l.length → Fin l.length → Int := fun i j => (cmp l[i] l[j]).getD 0
    have hk : ∀ i, (enc i).length = c.sz := fun i => c.len (hL.chunk i)
    have h1c : ∀ i, ∀ u ∈ enc i, u.oneCell' = true := fun i => c.one (hL.chunk i)
    obtain ⟨k1, k2, k3, k4, k5⟩ := hok
    have hO : SWO (ltOf cf) := ⟨k2, k3, k4⟩
    have hflat : (flatK enc c.sz (List.finRange l.length).toArray).toList = xs := by
      rw [flatK_list enc c.sz hk]
      have hx := hL.len
      apply List.ext_getElem?
      intro t
      have key : ∀ (n : Nat) (xs : List Value), xs.length = n * c.sz → ((List.finRange n).map fun i : Fin n => (xs.drop (i * c.sz)).take c.sz).flatten = xs := by
        intro n
        induction n with
        | zero => intro xs hx; simp at hx; subst hx; rfl
        | succ n ih =>
          intro xs hx
          rw [List.finRange_succ, List.map_cons, List.flatten_cons, List.map_map]
          have := ih (xs.drop c.sz) (by rw [List.length_drop, hx, Nat.add_mul]; omega)
          have e : (List.map ((fun i : Fin (n + 1) => (xs.drop (i * c.sz)).take c.sz) ∘ Fin.succ) (List.finRange n)) = (List.finRange n).map fun i : Fin n => ((xs.drop c.sz).drop (i * c.sz)).take c.sz := by
            apply List.map_congr_left
            intro i _
            simp only [Function.comp, Fin.val_succ, List.drop_drop]
            congr 2
            rw [Nat.add_mul]; omega
          rw [e, this]
          simp
      rw [show (List.finRange l.length).toArray.toList = List.finRange l.length from rfl, key l.length xs hx]
    have hsz : (List.finRange l.length).toArray.size = l.length := by simp
    have hbs : b < w.heap.size := (Array.getElem?_eq_some_iff.1 hg).1
    have hxl : xs.length = l.length * c.sz := hL.len
    have hH : HoldsK enc c.sz w b 0 (List.finRange l.length).toArray := by
      intro j hj
      have hF : flatK enc c.sz (List.finRange l.length).toArray = xs.toArray := by rw [← hflat]
      rw [hF] at hj ⊢
      have hj' : j < xs.length := by simpa using hj
      refine ⟨?_, by simp [World.frozen?, hg]⟩
      have := hown.cells (g := b) rfl j xs[j] (by simp [hj'])
      by_cases hj0 : j = 0
      · subst hj0; simpa [Addr.add, hj'] using this
      · simpa [Addr.add, hj', hj0] using this
    have main := AnyQ.slices_SortFunc_total Ly c.sz aE zE enc hk h1c cf hO g #[] b 0 cap (List.finRange l.length).toArray w eg
      (fun m os dk _ x y => by
        have hx := k1 x y
        obtain ⟨r, hr⟩ := Option.isSome_iff_exists.1 hx
        have hcf : cf x y = r := by show (cmp l[x] l[y]).getD 0 = r; rw [hr]; rfl
        rw [hcf]
        exact hcmp H l[x] l[y] r (enc x) (enc y) (hL.chunk x) (hL.chunk y) hr _)
      hH hbs (by simp only [capN] at hn; simp; omega) k5
    rw [hsz] at main
    refine main.mono fun e' w' ⟨g1, m, os, g2⟩ => ?_
    subst g2
    let d' : List (Fin l.length) := (List.finRange l.length).mergeSort fun x y => !(ltOf cf) y x
    have hd' : d'.map (fun i => l[i]) = sortF cmp l := by
      show ((List.finRange l.length).mergeSort _).map _ = _
      have e := isortB_eq (le := fun x y => !(ltOf cf) y x) (fun a b c h k => by
          have h' : ltOf cf b a = false := by simpa using h
          have k' : ltOf cf c b = false := by simpa using k
          have h4 : ltOf cf c a = false := k4 c b a k' h'
          simp [h4])
        (fun a b => by
          by_cases h : ltOf cf b a = true
          · right
            have : ltOf cf a b = false := by
              cases h2 : ltOf cf a b with
              | false => rfl
              | true => exact absurd (k3 b a b h h2) (by rw [k2 b]; simp)
            simp [this]
          · left; simp [Bool.eq_false_iff.2 h])
        (fun a b h k => by
          have h' : ltOf cf b a = false := by simpa using h
          have k' : ltOf cf a b = false := by simpa using k
          exact k5 a b k' h') (List.finRange l.length)
      have e2 := isortB_map (fun i : Fin l.length => l[i]) (fun x y => !ltC cmp y x) (List.finRange l.length)
      rw [map_finRange] at e2
      rw [← e]
      exact e2.symm
    have hd'l : d'.length = l.length := by simp [d']
    have hlay : LayL c H (sortF cmp l) (flatK enc c.sz d'.toArray).toList := by
      rw [flatK_list enc c.sz hk, ← hd']
      exact LayL.of_chunks (fun i => l[i]) enc (fun i => hL.chunk i) d'
    have hFs : (flatK enc c.sz d'.toArray).size = l.length * c.sz := by simp [hd'l]
    refine ⟨_, H, _, g1, Hp.le.refl H, hs.set (i := 0) (r' := .row (.slice (some ⟨b, 0, none⟩) l.length cap) e c.sz (sortF cmp l).length (flatK enc c.sz d'.toArray).toList) rfl (grownBy_sortK enc c.sz w b m d'.toArray os) ?_ ?_, _, rfl, hlay, rfl⟩
    · show World.ownsRow _ 0 e c.sz _ _ _
      rw [hlen]
      refine ⟨by simp [hFs], .inr ⟨b, cap, _, rfl, Nat.zero_le _, heap_sortK enc c.sz m d'.toArray os hg, hnc, hcm, by simp [putCells, hcs], ?_⟩⟩
      have hle : (flatK enc c.sz d'.toArray).size ≤ cur.size := by rw [hFs, hcs]; exact Nat.mul_le_mul_right _ hnc
      rw [← hFs]; exact take_putId cur _ hle
    · intro q hq; exact .inl hq
end
end Go.GK
/- Regular expressions as data. -/
namespace Go.GK
inductive Rx where
  | mk (kind : Int) (set : BSet) (subs : List Rx)
def Rx.kind : Rx → Int | .mk k _ _ => k
def Rx.set : Rx → BSet | .mk _ p _ => p
def Rx.subs : Rx → List Rx | .mk _ _ l => l
mutual
def LayRx (H : Hp) : Rx → List Value → Prop
  | .mk k p subs, cs => ∃ v xs, cs = .int .i64 k :: ((bcs p).toList ++ [v]) ∧ Sl H v 6 subs.length xs ∧ subs.length ≤ 9223372036854775807 ∧ LayRxL H subs xs
def LayRxL (H : Hp) : List Rx → List Value → Prop
  | [], xs => xs = []
  | a :: l, xs => ∃ cs ys, xs = cs ++ ys ∧ LayRx H a cs ∧ LayRxL H l ys
end
theorem LayRx.len {H : Hp} {a : Rx} {cs : List Value} (h : LayRx H a cs) : cs.length = 6 := by
  cases a with
  | mk k p subs => simp only [LayRx] at h; obtain ⟨v, xs, rfl, _⟩ := h; rfl
theorem LayRx.one {H : Hp} {a : Rx} {cs : List Value} (h : LayRx H a cs) : ∀ u ∈ cs, u.oneCell' = true := by
  cases a with
  | mk k p subs =>
    simp only [LayRx] at h; obtain ⟨v, xs, rfl, hs, _⟩ := h
    intro u hu
    simp only [List.mem_cons, List.mem_append, List.not_mem_nil, or_false] at hu
    rcases hu with rfl | hu | rfl
    · rfl
    · exact bcs_one _ u (by simpa using hu)
    · rcases hs.sl with ⟨rfl, _⟩ | ⟨a, cap, rfl⟩ <;> rfl
mutual
theorem LayRx.mono {H H' : Hp} (hl : H.le H') : ∀ (a : Rx) (cs : List Value), LayRx H a cs → LayRx H' a cs
  | .mk k p subs, cs, h => by
    simp only [LayRx] at h ⊢
    obtain ⟨v, xs, e, h1, h2, h3⟩ := h
    exact ⟨v, xs, e, h1.mono hl, h2, LayRxL.mono hl subs xs h3⟩
theorem LayRxL.mono {H H' : Hp} (hl : H.le H') : ∀ (l : List Rx) (xs : List Value), LayRxL H l xs → LayRxL H' l xs
  | [], _, h => by simp only [LayRxL] at h ⊢; exact h
  | a :: l, _, h => by
    simp only [LayRxL] at h ⊢
    obtain ⟨cs, ys, e, h1, h2⟩ := h
    exact ⟨cs, ys, e, LayRx.mono hl a cs h1, LayRxL.mono hl l ys h2⟩
end
def cRx : Cd Rx where
  sz := 6
  Lay := LayRx
  len h := LayRx.len h
  mono hl h := LayRx.mono hl _ _ h
  one h := LayRx.one h
theorem layRxL {H : Hp} : ∀ {l : List Rx} {xs : List Value}, LayRxL H l xs ↔ LayL cRx H l xs
  | [], xs => by simp only [LayRxL, LayL]
  | a :: l, xs => by
    simp only [LayRxL, LayL]
    constructor
    · rintro ⟨cs, ys, e, h1, h2⟩; exact ⟨cs, ys, e, h1, layRxL.1 h2⟩
    · rintro ⟨cs, ys, e, h1, h2⟩; exact ⟨cs, ys, e, h1, layRxL.2 h2⟩
theorem layRx {H : Hp} {a : Rx} {cs : List Value} : cRx.Lay H a cs ↔ ∃ v, cs = [.int .i64 a.kind, w64 (word a.set 0), w64 (word a.set 1), w64 (word a.set 2), w64 (word a.set 3), v] ∧ SlD cRx H a.subs v := by
  cases a with
  | mk k p subs =>
    show LayRx H (.mk k p subs) cs ↔ _
    simp only [LayRx]
    constructor
    · rintro ⟨v, xs, e, h1, h2, h3⟩; exact ⟨v, e, ⟨xs, h1, layRxL.1 h3⟩, h2⟩
    · rintro ⟨v, e, ⟨xs, h1, h3⟩, h2⟩; exact ⟨v, xs, e, h1, h2, layRxL.2 h3⟩
theorem layRx_mk {H : Hp} {k : Int} {p : BSet} {l : List Rx} {v : Value} (h : SlD cRx H l v) : cRx.Lay H (.mk k p l) [.int .i64 k, w64 (word p 0), w64 (word p 1), w64 (word p 2), w64 (word p 3), v] := layRx.2 ⟨v, rfl, h⟩
end Go.GK
/- Rows of rows that are all owned: the inner rows are a family at the end of what is owned. -/
namespace Go.GK
def cV : Cd Value where
  sz := 1
  Lay _ v cs := cs = [v] ∧ v.oneCell' = true
  len h := by rw [h.1]; rfl
  mono _ h := h
  one h := by rw [h.1]; intro u hu; simp at hu; subst hu; exact h.2
theorem layV {H : Hp} : ∀ {l xs : List Value}, LayL cV H l xs → xs = l
  | [], xs, h => h
  | a :: l, _, ⟨cs, ys, e, h1, h2⟩ => by subst e; rw [h1.1, layV h2]; rfl
theorem layV_of {H : Hp} : ∀ {l : List Value}, (∀ v ∈ l, v.oneCell' = true) → LayL cV H l l
  | [], _ => rfl
  | a :: l, h => ⟨[a], l, rfl, ⟨rfl, h a (by simp)⟩, layV_of fun v hv => h v (by simp [hv])⟩
section
variable {α : Type}
abbrev Fam (α : Type) := List (Value × List α × List Value)
def famR (e : TypeId) (sz : Nat) (F : Fam α) : List Res := F.map fun f => .row f.1 e sz f.2.1.length f.2.2
def famV (F : Fam α) : List Value := F.map (·.1)
structure FamOk (c : Cd α) (H : Hp) (D : List (List α)) (F : Fam α) : Prop where
  dat : F.map (·.2.1) = D
  lay : ∀ f ∈ F, LayL c H f.2.1 f.2.2
  one : ∀ f ∈ F, f.1.oneCell' = true
variable {c : Cd α} {H H' : Hp} {D : List (List α)} {F : Fam α}
theorem FamOk.mono (h : FamOk c H D F) (hl : H.le H') : FamOk c H' D F := ⟨h.dat, fun f hf => (h.lay f hf).mono hl, h.one⟩
theorem FamOk.nil : FamOk c H [] [] := ⟨rfl, nofun, nofun⟩
theorem FamOk.len (h : FamOk c H D F) : F.length = D.length := by rw [← h.dat]; simp
theorem FamOk.get {i : Int} {x : List α} (h : FamOk c H D F) (hx : idx D i = some x) : ∃ v xs, F[i.toNat]? = some (v, x, xs) ∧ LayL c H x xs ∧ idx (famV F) i = some v := by
  obtain ⟨⟨h0, h1⟩, h2⟩ := idx_some hx
  rw [← h.dat, List.getElem?_map] at h2
  cases hf : F[i.toNat]? with
  | none => rw [hf] at h2; cases h2
  | some f =>
    obtain ⟨v, y, xs⟩ := f
    rw [hf] at h2
    have e : y = x := by simpa using h2
    subst e
    refine ⟨v, xs, rfl, h.lay _ (List.mem_of_getElem? hf), ?_⟩
    unfold idx famV; rw [if_pos h0, List.getElem?_map, hf]; rfl
theorem FamOk.set {i : Nat} {v : Value} {y : List α} {xs : List Value} (h : FamOk c H D F) (hy : LayL c H y xs) (hv : v.oneCell' = true) : FamOk c H (D.set i y) (F.set i (v, y, xs)) := by
  refine ⟨by rw [List.map_set, h.dat], fun f hf => ?_, fun f hf => ?_⟩
  · rcases List.mem_or_eq_of_mem_set hf with hf | rfl
    · exact h.lay f hf
    · exact hy
  · rcases List.mem_or_eq_of_mem_set hf with hf | rfl
    · exact h.one f hf
    · exact hv
theorem FamOk.add (h : FamOk c H D F) : FamOk c H (D ++ [[]]) (F ++ [(.slice none 0 0, [], [])]) := by
  refine ⟨by simp [h.dat], fun f hf => ?_, fun f hf => ?_⟩
  · rcases List.mem_append.1 hf with hf | hf
    · exact h.lay f hf
    · simp at hf; subst hf; exact rfl
  · rcases List.mem_append.1 hf with hf | hf
    · exact h.one f hf
    · simp at hf; subst hf; rfl
theorem FamOk.row (h : FamOk c H D F) : LayL cV H (famV F) (famV F) := layV_of fun v hv => by
  simp only [famV, List.mem_map] at hv
  obtain ⟨f, hf, rfl⟩ := hv
  exact h.one f hf
theorem famV_set {i : Nat} {f : Value × List α × List Value} : famV (F.set i f) = (famV F).set i f.1 := by simp [famV, List.map_set]
theorem spl_set {xs : List Value} {i : Nat} {v : Value} (h : i < xs.length) : spl xs i [v] = xs.set i v := by
  unfold spl
  simp only [List.length_cons, List.length_nil]
  exact (List.set_eq_take_append_cons_drop (l := xs) (i := i) (a := v)).symm ▸ (by rw [if_pos h]; simp)
theorem famR_eraseIdx (e : TypeId) (sz : Nat) (i : Nat) : famR e sz (F.eraseIdx i) = (famR e sz F).eraseIdx i := by
  unfold famR
  induction F generalizing i with
  | nil => rfl
  | cons f F ih => cases i with
    | zero => rfl
    | succ i => simp [ih]
theorem famR_set (e : TypeId) (sz : Nat) (i : Nat) (f : Value × List α × List Value) : famR e sz (F.set i f) = (famR e sz F).set i (.row f.1 e sz f.2.1.length f.2.2) := by simp [famR, List.map_set]
theorem famR_get {e : TypeId} {sz i : Nat} {f : Value × List α × List Value} (h : F[i]? = some f) : (famR e sz F)[i]? = some (.row f.1 e sz f.2.1.length f.2.2) := by simp [famR, h]
variable {w : World} {A B R : List Res} {e : TypeId} {sz i : Nat} {f f' : Value × List α × List Value}
theorem lend_at (hi : F[i]? = some f) : (A ++ (famR e sz F ++ R))[A.length + i]? = some (.row f.1 e sz f.2.1.length f.2.2) := by
  have hlt : i < (famR e sz F).length := by have := (List.getElem?_eq_some_iff.1 hi).1; simpa [famR] using this
  rw [List.getElem?_append_right (by omega), Nat.add_sub_cancel_left, List.getElem?_append_left hlt]
  exact famR_get hi
theorem lend_erase (hi : F[i]? = some f) : (A ++ (famR e sz F ++ R)).eraseIdx (A.length + i) = A ++ (famR e sz (F.eraseIdx i) ++ R) := by
  have hlt : i < (famR e sz F).length := by have := (List.getElem?_eq_some_iff.1 hi).1; simpa [famR] using this
  rw [List.eraseIdx_append_of_length_le (by omega), Nat.add_sub_cancel_left, List.eraseIdx_append_of_lt_length hlt, famR_eraseIdx]
theorem SH.lend (hi : F[i]? = some f) (h : SH w H (A ++ (famR e sz F ++ R))) : SH w H (.row f.1 e sz f.2.1.length f.2.2 :: (A ++ (famR e sz (F.eraseIdx i) ++ R))) := by
  have := h.front (lend_at (A := A) (e := e) (sz := sz) (R := R) hi)
  rwa [lend_erase hi] at this
theorem SH.unlend (hi : F[i]? = some f) (h : SH w H (.row f'.1 e sz f'.2.1.length f'.2.2 :: (A ++ (famR e sz (F.eraseIdx i) ++ R)))) : SH w H (A ++ (famR e sz (F.set i f') ++ R)) := by
  have hlt : i < F.length := (List.getElem?_eq_some_iff.1 hi).1
  have hlt' : i < (famR e sz F).length := by simpa [famR] using hlt
  rw [← lend_erase (A := A) (e := e) (sz := sz) (R := R) hi] at h
  have := h.back (by simp; omega)
  rw [List.set_append_right _ _ (by omega), Nat.add_sub_cancel_left, List.set_append_left _ _ hlt'] at this
  rwa [famR_set]
theorem SH.grow (h : SH w H (A ++ (famR e sz F ++ R))) : SH w H (A ++ (famR e sz (F ++ [(.slice none 0 0, [], [])]) ++ R)) := by
  have h1 := h.nilRow e sz
  have hl : (famR e sz F).length = F.length := by simp [famR]
  refine h1.pick (fun j => if j < A.length + F.length then j + 1 else if j = A.length + F.length then 0 else j) (fun j s hs => ?_) (fun j k hj hk he => ?_)
  · have e1 : A ++ (famR e sz (F ++ [(.slice none 0 0, [], [])]) ++ R) = (A ++ famR e sz F) ++ (.row (.slice none 0 0) e sz 0 [] :: R) := by simp [famR]
    have e2 : A ++ (famR e sz F ++ R) = (A ++ famR e sz F) ++ R := by simp
    rw [e1] at hs
    rw [e2]
    have hlen : (A ++ famR e sz F).length = A.length + F.length := by simp [famR]
    by_cases h1 : j < A.length + F.length
    · rw [if_pos h1, List.getElem?_cons_succ]
      rw [List.getElem?_append_left (by omega)] at hs ⊢
      exact hs
    · rw [if_neg h1]
      by_cases h2 : j = A.length + F.length
      · rw [if_pos h2]
        rw [List.getElem?_append_right (by omega), hlen, h2, Nat.sub_self] at hs
        simpa using hs
      · rw [if_neg h2]
        obtain ⟨q, rfl⟩ : ∃ q, j = A.length + F.length + q + 1 := ⟨j - (A.length + F.length) - 1, by omega⟩
        rw [List.getElem?_append_right (by omega), hlen, show A.length + F.length + q + 1 - (A.length + F.length) = q + 1 by omega, List.getElem?_cons_succ] at hs
        rw [List.getElem?_cons_succ, List.getElem?_append_right (by omega), hlen, show A.length + F.length + q - (A.length + F.length) = q by omega]
        exact hs
  · split at he <;> split at he <;> (try split at he) <;> (try split at he) <;> omega
end

section
variable {α β : Type} {c : Cd α} {d : Cd β} {H : Hp} {D : List (List α)} {F : Fam α} {G : Fam β} {w : World} {A B R : List Res} {e e0 : TypeId} {sz sz0 i : Nat} {f f' : Value × List α × List Value}
variable {P : Program} {Q : Exit → Act → World → Prop} {n : Nat} {L : List (Nat × Value)} {x : Exit} {cd : Code}
theorem SH.lend2 (hi : F[i]? = some f) (h : SH w H (A ++ (famR e0 sz0 G ++ (famR e sz F ++ R)))) : SH w H (.row f.1 e sz f.2.1.length f.2.2 :: (A ++ (famR e0 sz0 G ++ (famR e sz (F.eraseIdx i) ++ R)))) := by
  rw [← List.append_assoc] at h ⊢; exact h.lend hi
theorem SH.unlend2 (hi : F[i]? = some f) (h : SH w H (.row f'.1 e sz f'.2.1.length f'.2.2 :: (A ++ (famR e0 sz0 G ++ (famR e sz (F.eraseIdx i) ++ R))))) : SH w H (A ++ (famR e0 sz0 G ++ (famR e sz (F.set i f') ++ R))) := by
  rw [← List.append_assoc] at h ⊢; exact h.unlend hi
theorem SH.grow2 (h : SH w H (A ++ (famR e0 sz0 G ++ (famR e sz F ++ R)))) : SH w H (A ++ (famR e0 sz0 G ++ (famR e sz (F ++ [(.slice none 0 0, [], [])]) ++ R))) := by
  rw [← List.append_assoc] at h ⊢; exact h.grow
theorem Wp.lend (A : List Res) (hi : F[i]? = some f) (k : Wp P cd Q n L H (.row f.1 e sz f.2.1.length f.2.2 :: (A ++ (famR e sz (F.eraseIdx i) ++ R)))) : Wp P cd Q n L H (A ++ (famR e sz F ++ R)) := fun a w hf hs => k a w hf (hs.lend hi)
theorem Wp.lend2 (A : List Res) (hi : F[i]? = some f) (k : Wp P cd Q n L H (.row f.1 e sz f.2.1.length f.2.2 :: (A ++ (famR e0 sz0 G ++ (famR e sz (F.eraseIdx i) ++ R))))) : Wp P cd Q n L H (A ++ (famR e0 sz0 G ++ (famR e sz F ++ R))) := fun a w hf hs => k a w hf (hs.lend2 hi)
theorem At.unlend (A : List Res) (f' : Value × List α × List Value) (hi : F[i]? = some f) (k : At Q x n L H (A ++ (famR e sz (F.set i f') ++ R))) : At Q x n L H (.row f'.1 e sz f'.2.1.length f'.2.2 :: (A ++ (famR e sz (F.eraseIdx i) ++ R))) := fun a w hf hs => k a w hf (hs.unlend hi)
theorem At.unlend2 (A : List Res) (f' : Value × List α × List Value) (hi : F[i]? = some f) (k : At Q x n L H (A ++ (famR e0 sz0 G ++ (famR e sz (F.set i f') ++ R)))) : At Q x n L H (.row f'.1 e sz f'.2.1.length f'.2.2 :: (A ++ (famR e0 sz0 G ++ (famR e sz (F.eraseIdx i) ++ R)))) := fun a w hf hs => k a w hf (hs.unlend2 hi)
theorem SH.freezeFam : ∀ {F : Fam α} {H : Hp}, (∀ f ∈ F, LayL c H f.2.1 f.2.2) → SH w H (A ++ (famR e c.sz F ++ R)) → ∃ H', H.le H' ∧ SH w H' (A ++ R) ∧ ∀ f ∈ F, SlD c H' f.2.1 f.1
  | [], H, _, h => ⟨H, Hp.le.refl H, h, nofun⟩
  | f :: F, H, hl, h => by
    have hi : (A ++ (famR e c.sz (f :: F) ++ R))[A.length]? = some (.row f.1 e c.sz f.2.1.length f.2.2) := by simp [famR]
    have hle := h.rowLe hi
    obtain ⟨H1, g1, g2, g3⟩ := h.freeze hi
    have he : (A ++ (famR e c.sz (f :: F) ++ R)).eraseIdx A.length = A ++ (famR e c.sz F ++ R) := by
      rw [List.eraseIdx_append_of_length_le (Nat.le_refl _), Nat.sub_self]; rfl
    rw [he] at g2
    obtain ⟨H2, k1, k2, k3⟩ := SH.freezeFam (fun f' hf' => (hl f' (by simp [hf'])).mono g1) g2
    have hs : SlD c H1 f.2.1 f.1 := SlD.of g3 rfl ((hl f (by simp)).mono g1) hle
    refine ⟨H2, g1.trans k1, k2, fun f' hf' => ?_⟩
    rcases List.mem_cons.1 hf' with rfl | hf'
    · exact hs.mono k1
    · exact k3 f' hf'
theorem famLay : ∀ {F : Fam α}, (∀ f ∈ F, SlD c H f.2.1 f.1) → LayL (cL c) H (F.map (·.2.1)) (famV F)
  | [], _ => rfl
  | f :: F, h => ⟨[f.1], famV F, rfl, ⟨f.1, rfl, h f (by simp)⟩, famLay fun g hg => h g (by simp [hg])⟩
theorem Wp.freezeFam (A : List Res) (hN : FamOk c H D F) (k : ∀ H', H.le H' → LayL (cL c) H' D (famV F) → Wp P cd Q n L H' (A ++ R)) : Wp P cd Q n L H (A ++ (famR e c.sz F ++ R)) := fun a w hf hs => by
  obtain ⟨H', h1, h2, h3⟩ := hs.freezeFam hN.lay
  have h4 := famLay h3
  rw [hN.dat] at h4
  exact k H' h1 h4 a w hf h2
theorem famV_len (h : FamOk c H D F) : (famV F).length = D.length := by rw [← h.len]; simp [famV]
end

section
variable {w : World} {H : Hp} {A B R : List Res}
theorem SH.rot (h : SH w H (A ++ (B ++ R))) : SH w H (B ++ (A ++ R)) := by
  refine h.pick (fun j => if j < B.length then A.length + j else if j < B.length + A.length then j - B.length else j) (fun j s hs => ?_) (fun j k hj hk he => ?_)
  · by_cases h1 : j < B.length
    · rw [if_pos h1]
      rw [List.getElem?_append_left h1] at hs
      rw [List.getElem?_append_right (by omega), Nat.add_sub_cancel_left, List.getElem?_append_left h1]; exact hs
    · rw [if_neg h1]
      rw [List.getElem?_append_right (by omega)] at hs
      by_cases h2 : j < B.length + A.length
      · rw [if_pos h2]
        rw [List.getElem?_append_left (by omega)] at hs ⊢
        exact hs
      · rw [if_neg h2]
        rw [List.getElem?_append_right (by omega)] at hs
        rw [List.getElem?_append_right (by omega), List.getElem?_append_right (by omega)]
        rw [show j - A.length - B.length = j - B.length - A.length by omega]; exact hs
  · split at he <;> split at he <;> (try split at he) <;> (try split at he) <;> omega
end

section
variable {α : Type} {F : Fam α} {i : Nat} {f : Value × List α × List Value}
theorem famSet (v : Value) (y : List α) (ys : List Value) : (famV F).set i v = famV (F.set i (v, y, ys)) := by rw [famV_set]
theorem famSpl (v : Value) (y : List α) (ys : List Value) (hi : F[i]? = some f) : spl (famV F) (i * 1 + 0) [v] = famV (F.set i (v, y, ys)) := by
  rw [Nat.mul_one, Nat.add_zero, spl_set (by have := (List.getElem?_eq_some_iff.1 hi).1; simpa [famV] using this)]
  exact famSet v y ys
theorem At.rowOne {Q : Exit → Act → World → Prop} {n : Nat} {L : List (Nat × Value)} {H : Hp} {O : List Res} {x : Exit} {i size m : Nat} {v : Value} {e : TypeId} {xs : List Value} (hi : O[i]? = some (.row v e size m xs)) (k : v.oneCell' = true → At Q x n L H O) : At Q x n L H O := fun a w hf hs => k (hs.rowOne hi) a w hf hs
end

theorem Seg.freezeFam {α : Type} {c : Cd α} {P : Program} {Q : Exit → Act → World → Prop} {ops : Array Oper} {rest : List Oper} {n : Nat} {L : List (Nat × Value)} {H : Hp} {R : List Res} {D : List (List α)} {F : Fam α} {e : TypeId} (A : List Res) (hN : FamOk c H D F) (k : ∀ H', H.le H' → LayL (cL c) H' D (famV F) → Seg P ops Q rest n L H' (A ++ R)) : Seg P ops Q rest n L H (A ++ (famR e c.sz F ++ R)) := fun a w hf hs => by
  obtain ⟨H', h1, h2, h3⟩ := hs.freezeFam hN.lay
  have h4 := famLay h3
  rw [hN.dat] at h4
  exact k H' h1 h4 a w hf h2
end Go.GK
/- Single words of a set of bytes. -/
namespace Go.GK
theorem wbits0 (a b c d : BitVec 64) : word (bitsOf a b c d) 0 = a := by
  apply BitVec.eq_of_getLsbD_eq; intro j hj; rw [word_bit]; simp [hj, bitsOf]
theorem wbits1 (a b c d : BitVec 64) : word (bitsOf a b c d) 1 = b := by
  apply BitVec.eq_of_getLsbD_eq; intro j hj; rw [word_bit]
  simp only [hj, decide_true, Bool.true_and, bitsOf]
  rw [if_neg (by omega), if_pos (by omega), show 64 * 1 + j - 64 = j by omega]
theorem wbits2 (a b c d : BitVec 64) : word (bitsOf a b c d) 2 = c := by
  apply BitVec.eq_of_getLsbD_eq; intro j hj; rw [word_bit]
  simp only [hj, decide_true, Bool.true_and, bitsOf]
  rw [if_neg (by omega), if_neg (by omega), if_pos (by omega), show 64 * 2 + j - 128 = j by omega]
theorem wbits3 (a b c d : BitVec 64) : word (bitsOf a b c d) 3 = d := by
  apply BitVec.eq_of_getLsbD_eq; intro j hj; rw [word_bit]
  simp only [hj, decide_true, Bool.true_and, bitsOf]
  rw [if_neg (by omega), if_neg (by omega), if_neg (by omega), show 64 * 3 + j - 192 = j by omega]
section
variable {P : Program} {T : TypeId} {E : Operand → Option Value} {H : Hp} {O : List Res} {x y : Operand} {Tx Ty : TypeId}
theorem OpT.shlI {k : IntKind} {a : BitVec 64} {e : Int} (hx : E x = some (w64 a)) (hy : E y = some (.int k e)) (h0 : 0 ≤ e) : OpT P (.binOp .shl Tx x y Ty) T E H O (w64 (a <<< e.toNat)) :=
  OpT.shlW (n := e.toNat) hx (by rw [hy, Int.toNat_of_nonneg h0])
theorem OpT.shrI {k : IntKind} {a : BitVec 64} {e : Int} (hx : E x = some (w64 a)) (hy : E y = some (.int k e)) (h0 : 0 ≤ e) : OpT P (.binOp .shr Tx x y Ty) T E H O (w64 (a >>> e.toNat)) :=
  OpT.shrW (n := e.toNat) hx (by rw [hy, Int.toNat_of_nonneg h0])
theorem intAdd_w (a b : BitVec 64) : IntKind.u64.wrap ((a.toNat : Int) + (b.toNat : Int)) = ((a + b).toNat : Int) := by
  simp [IntKind.wrap, IntKind.signed, IntKind.bits, BitVec.toNat_add]
theorem OpT.addBv {a b : BitVec 64} (hx : E x = some (w64 a)) (hy : E y = some (w64 b)) : OpT P (.binOp .add Tx x y Ty) T E H O (w64 (a + b)) := by
  have h := OpT.addW (P := P) (T := T) (H := H) (O := O) (Tx := Tx) (Ty := Ty) (k := .u64) (m := (a.toNat : Int)) (n := (b.toNat : Int)) hx hy
  rwa [intAdd_w] at h
end

theorem layRx_mkB {H : Hp} {k : Int} {a b c d : BitVec 64} {l : List Rx} {v : Value} (h : SlD cRx H l v) : cRx.Lay H (.mk k (bitsOf a b c d) l) [.int .i64 k, w64 a, w64 b, w64 c, w64 d, v] := by
  have := layRx_mk (k := k) (p := bitsOf a b c d) h
  rwa [wbits0, wbits1, wbits2, wbits3] at this
section
variable {P : Program} {T : TypeId} {E : Operand → Option Value} {H : Hp} {O : List Res} {x : Operand}
theorem OpT.field1 {s i off ft : Nat} {d : TypeDesc} {cs : Array Value} {v : Value} (hF : Fld P s i off ft) (ht : P.underlying ft = some d) (hd : aggB d = false) (hx : E x = some (.agg cs)) (hv : cs[off]? = some v) : OpT P (.field s x i) T E H O v := .of_run fun ac w o ho _ he _ => by
  obtain ⟨fs, f, h1, h2, h3, h4, _⟩ := hF.ex
  subst h3; subst h4
  simp [execOp, ho, he x _ hx, Instr.field, sem_under h1, h2, part, run_isAgg ht, hd, hv, asAgg]
end
/- A slice that is built and at once comes to rest. -/
section
variable {P : Program} {T : TypeId} {E : Operand → Option Value} {H : Hp} {O : List Res} {α : Type} {c : Cd α}
theorem OpS.restF {op : Op} {e : TypeId} {l : List α} {xs : List Value} (h : OpS P op T E H (.emp :: O) (fun v H' O' => H' = H ∧ O' = .row v e c.sz l.length xs :: O)) (hL : LayL c H l xs) : OpS P op T E H O (fun v H' O' => O = O' ∧ SlD c H' l v) :=
  fun a w o next Q ho hT he hw k => h a w o next Q ho hT he (hw.push (World.grownBy.refl w none) trivial (fun b hb => by cases hb)) fun v w' H' O' hle hp hs => by
    obtain ⟨rfl, rfl⟩ := hp
    have hb := hs.rowLe (i := 0) rfl
    obtain ⟨H2, g1, g2, g3⟩ := hs.freeze (i := 0) rfl
    exact k v w' H2 _ (hle.trans g1) ⟨rfl, SlD.of g3 rfl (hL.mono g1) hb⟩ g2
theorem OpS.buildF2 {t e : TypeId} {len bytes : Nat} {z : Value} {zs cs : Array Value} {ps : List (Nat × Operand)} {vs : List (Nat × Value)} {vcs : List (Nat × Array Value)} {l : List α} (ht : P.underlying t = some (.slice e)) (hz : TI P e c.sz bytes z) (hzc : z.cells = zs)
    (hlen : Nat.ble (len * c.sz) 16777216 = true) (h0 : Nat.blt 0 (len * c.sz) = true) (hps : evp E ps = some vs) (hv : VC vs vcs) (hf : fillC (fun i => some (i * c.sz, c.sz)) ((Array.range (len * c.sz)).map (zs[· % zs.size]!)) vcs = some cs) (hcs : cs.size = len * c.sz) (hll : len = l.length) (hL : LayL c H l cs.toList) :
    OpS P (.buildSlice t len ps.toArray) T E H O (fun v H' O' => O = O' ∧ SlD c H' l v) := by
  subst hll
  exact OpS.restF ((OpS.buildR2 (ρ := fun _ => undef) (i := 0) 0 ht hz hzc hlen h0 hps hv hf hcs rfl).mono (by rintro v H' O' ⟨h1, h2, _⟩; exact ⟨h1, h2⟩)) hL
theorem OpS.buildF1 {t e : TypeId} {bytes : Nat} {z v : Value} {cs : List Value} {x : Operand} {y : α} (ht : P.underlying t = some (.slice e)) (hz : TI P e c.sz bytes z) (hlen : Nat.ble c.sz 16777216 = true) (h0 : Nat.blt 0 c.sz = true) (hx : E x = some v) (hc : v.cells.toList = cs) (hcs : cs.length = c.sz) (hL : LayL c H [y] cs) :
    OpS P (.buildSlice t 1 #[(0, x)]) T E H O (fun v H' O' => O = O' ∧ SlD c H' [y] v) :=
  OpS.restF ((OpS.buildR1 (ρ := fun _ => undef) (i := 0) 0 ht hz hlen h0 hx hc hcs rfl).mono (by rintro v H' O' ⟨h1, h2, _⟩; exact ⟨h1, h2⟩)) hL
end
end Go.GK
/- Arguments that can be read as data: how they lie, by the codecs. -/
namespace Go.GK
open Go.RowKit Go.Deep
section
variable {H : Type} {enc : TypeId × Value → H} {P : Program} {w : World} {base : Nat} {spare : Nat → Bool} {held : Bool} {α β : Type}
def RdB (enc : TypeId × Value → H) (P : Program) (w : World) (base : Nat) (spare : Nat → Bool) (held : Bool) (N : Nat) (c : Cd α) (t : TypeId) : Prop :=
  ∀ n, n < N → ∀ cs y, cs.length = c.sz → DataW.trod enc P w base spare held n t cs = some y → ∃ a, c.Lay (Hp.of w) a cs
theorem RdB.le {N M : Nat} {c : Cd α} {t : TypeId} (h : RdB enc P w base spare held N c t) (hm : M ≤ N) : RdB enc P w base spare held M c t :=
  fun n hn cs y hl hy => h n (by omega) cs y hl hy
theorem RdB.i64 {N : Nat} {t : TypeId} (ht : P.underlying t = some (.int .i64)) : RdB enc P w base spare held N cI64 t := fun n _ cs y _ hy => by
  obtain ⟨m, h1, _, _⟩ := DataW.trod_int ht hy
  exact ⟨m, h1⟩
theorem RdB.u8 {N : Nat} {t : TypeId} (ht : P.underlying t = some (.int .u8)) : RdB enc P w base spare held N cU8 t := fun n _ cs y _ hy => by
  obtain ⟨m, h1, _, h2⟩ := DataW.trod_int ht hy
  have hb : 0 ≤ m ∧ m ≤ 255 := by simpa [Lit.wf, IntKind.min, IntKind.max, IntKind.signed, IntKind.bits] using h2
  exact ⟨m, h1, hb⟩
theorem RdB.b {N : Nat} {t : TypeId} (ht : P.underlying t = some .bool) : RdB enc P w base spare held N cB t := fun n _ cs y _ hy => by
  obtain ⟨b, h1, _⟩ := DataW.trod_bool ht hy
  exact ⟨b, h1⟩
theorem RdB.s {N : Nat} {t : TypeId} (ht : P.underlying t = some .string) : RdB enc P w base spare held N cS t := fun n _ cs y _ hy => by
  obtain ⟨s, h1, _⟩ := DataW.trod_string ht hy
  exact ⟨s.data.toList, h1⟩
theorem RdB.bs {N : Nat} {t e : TypeId} (ht : P.underlying t = some (.array 4 e)) (he : P.underlying e = some (.int .u64)) (h1 : P.cellsOf e = 1) (h4 : P.cellsOf t = 4) : RdB enc P w base spare held N cBs t := fun n _ cs y _ hy => by
  obtain ⟨p, hp⟩ := bcl_of_trod ht he h1 h4 hy
  exact ⟨p, hp⟩
theorem LayL_mk {c : Cd α} {Hh : Hp} : ∀ {l : List (α × List Value)}, (∀ x ∈ l, c.Lay Hh x.1 x.2) → LayL c Hh (l.map (·.1)) (l.flatMap (·.2))
  | [], _ => rfl
  | x :: l, h => ⟨x.2, l.flatMap (·.2), rfl, h x (by simp), LayL_mk fun y hy => h y (by simp [hy])⟩
theorem flat_len' {sz : Nat} : ∀ {l : List (α × List Value)}, (∀ x ∈ l, x.2.length = sz) → (l.flatMap (·.2)).length = l.length * sz
  | [], _ => by simp
  | x :: l, h => by
    rw [List.flatMap_cons, List.length_append, h x (by simp), flat_len' fun y hy => h y (by simp [hy]), List.length_cons, Nat.add_mul]; omega
theorem flat_get' {sz : Nat} : ∀ {l : List (α × List Value)} (_ : ∀ x ∈ l, x.2.length = sz) (i j : Nat) (x : α × List Value), l[i]? = some x → j < sz → (l.flatMap (·.2))[i * sz + j]? = x.2[j]?
  | [], _, i, j, x, h, _ => by simp at h
  | y :: l, hl, 0, j, x, h, hj => by
    simp at h; subst h
    rw [List.flatMap_cons, Nat.zero_mul, Nat.zero_add, List.getElem?_append_left (by rw [hl y (by simp)]; exact hj)]
  | y :: l, hl, i + 1, j, x, h, hj => by
    rw [List.flatMap_cons, List.getElem?_append_right (by rw [hl y (by simp), Nat.add_mul]; omega), hl y (by simp)]
    rw [show (i + 1) * sz + j - sz = i * sz + j by rw [Nat.add_mul]; omega]
    exact flat_get' (fun z hz => hl z (by simp [hz])) i j x (by simpa using h) hj
theorem RdB.sl {N : Nat} {c : Cd α} {t e : TypeId} (ht : P.underlying t = some (.slice e)) (hc : P.cellsOf e = c.sz) (h : RdB enc P w base spare held N c e) : RdB enc P w base spare held (N + 1) (cL c) t := fun n hn cs y _ hy => by
  have hfin : ∃ v, cs = [v] ∧ ∃ l : List α, SlD c (Hp.of w) l v := by
    rcases DataW.trod_slice ht hy with ⟨h0, _⟩ | ⟨a, len, cap, elems, rest, n', hfu, h0, _, hb, hl, hm, hlen, hel, _, _⟩
    · exact ⟨_, h0, [], SlD.nil⟩
    · obtain ⟨l, h1, h2⟩ := choose_list (Q := fun i (b : α × List Value) => c.Lay (Hp.of w) b.1 b.2 ∧ ∀ j u, b.2[j]? = some u → w.cell? (a.add (i * c.sz + j)) = some u) len fun i hi => by
        have he := hel i hi
        rw [show elems[i]? = some elems[i] by simp] at he
        simp only [Option.bind_eq_some_iff] at he
        obtain ⟨cs', hcs, htr⟩ := he
        obtain ⟨hbl, hlen', hcell⟩ := World.cells?_some hcs
        rw [hc] at hlen'
        obtain ⟨b, hR⟩ := h n' (by omega) cs' _ hlen' htr
        refine ⟨(b, cs'), hR, fun j u hj => ?_⟩
        have hj' : j < c.sz := by rw [← hlen']; exact (List.getElem?_eq_some_iff.1 hj).1
        have := hcell j (by rw [hc]; exact hj')
        rw [addr_add_add, hc, hj] at this
        exact this
      have hQ : ∀ x ∈ l, c.Lay (Hp.of w) x.1 x.2 := fun x hx => by
        obtain ⟨i, hi, rfl⟩ := List.getElem_of_mem hx
        exact (h2 i _ (List.getElem?_eq_getElem hi)).1
      have hsz : ∀ x ∈ l, x.2.length = c.sz := fun x hx => c.len (hQ x hx)
      refine ⟨_, h0, l.map (·.1), ⟨⟨l.flatMap (·.2), ⟨by rw [flat_len' hsz]; simp, .inr ⟨a, cap, by rw [List.length_map, h1]⟩, fun k u hk => ?_⟩, LayL_mk hQ⟩, by rw [List.length_map, h1]; unfold maxLen at hm; omega⟩⟩
      have hlt : k < l.length * c.sz := by rw [← flat_len' hsz]; exact (List.getElem?_eq_some_iff.1 hk).1
      have hs0 : 0 < c.sz := Nat.pos_of_ne_zero fun h => by rw [h] at hlt; simp at hlt
      have hi : k / c.sz < l.length := Nat.div_lt_of_lt_mul (by rw [Nat.mul_comm]; exact hlt)
      have hk2 : k = k / c.sz * c.sz + k % c.sz := by rw [Nat.mul_comm]; exact (Nat.div_add_mod k c.sz).symm
      have hg := flat_get' hsz (k / c.sz) (k % c.sz) l[k / c.sz] (List.getElem?_eq_getElem hi) (Nat.mod_lt _ hs0)
      rw [← hk2, hk] at hg
      have := (h2 (k / c.sz) l[k / c.sz] (List.getElem?_eq_getElem hi)).2 (k % c.sz) u hg.symm
      rw [← hk2] at this
      exact HCell.of_cell this
  obtain ⟨v, h1, l, h2⟩ := hfin
  exact ⟨l, v, h1, h2⟩
/- consecutive fields -/
def RdF (enc : TypeId × Value → H) (P : Program) (w : World) (base : Nat) (spare : Nat → Bool) (held : Bool) (N : Nat) (c : Cd α) (off : Nat) (fs : List Field) : Prop :=
  ∀ n, n < N → ∀ cs : List Value, (∀ f ∈ fs, ∃ y, DataW.trod enc P w base spare held n f.type ((cs.drop f.offset).take (P.cellsOf f.type)) = some y) → off + c.sz ≤ cs.length → ∃ a, c.Lay (Hp.of w) a ((cs.drop off).take c.sz)
theorem RdF.one {N : Nat} {c : Cd α} {off : Nat} {f : Field} (h : RdB enc P w base spare held N c f.type) (hc : P.cellsOf f.type = c.sz) (ho : f.offset = off) : RdF enc P w base spare held N c off [f] := fun n hn cs hf hl => by
  obtain ⟨y, hy⟩ := hf f (by simp)
  rw [hc, ho] at hy
  exact h n hn _ y (by simp; omega) hy
theorem RdF.cons {N : Nat} {c : Cd α} {d : Cd β} {off : Nat} {f : Field} {fs : List Field} (h : RdB enc P w base spare held N c f.type) (hc : P.cellsOf f.type = c.sz) (ho : f.offset = off) (hr : RdF enc P w base spare held N d (off + c.sz) fs) :
    RdF enc P w base spare held N (cP c d) off (f :: fs) := fun n hn cs hf hl => by
  have hl : off + (c.sz + d.sz) ≤ cs.length := hl
  obtain ⟨a, ha⟩ := RdF.one h hc ho n hn cs (fun g hg => hf g (by simp at hg; simp [hg])) (by omega)
  obtain ⟨b, hb⟩ := hr n hn cs (fun g hg => hf g (by simp [hg])) (by omega)
  refine ⟨(a, b), _, _, ?_, ha, hb⟩
  show (cs.drop off).take (c.sz + d.sz) = _
  rw [List.take_add, List.drop_drop]
theorem RdB.st {N : Nat} {c : Cd α} {t : TypeId} {fs : Array Field} (ht : P.underlying t = some (.struct fs)) (h : RdF enc P w base spare held N c 0 fs.toList) : RdB enc P w base spare held (N + 1) c t := fun n hn cs y hl hy => by
  obtain ⟨xs, n', hfu, _, hlen, hxs, hx⟩ := DataW.trod_struct ht hy
  obtain ⟨a, ha⟩ := h n' (by omega) cs (fun f hf => by
    obtain ⟨i, hi, rfl⟩ := List.getElem_of_mem hf
    have := hx i fs.toList[i] (by simp at hi ⊢)
    rw [this]
    have hi' : i < xs.length := by rw [hxs]; simpa using hi
    exact ⟨xs[i], List.getElem?_eq_getElem hi'⟩) (by omega)
  refine ⟨a, ?_⟩
  rw [List.drop_zero, List.take_of_length_le (by omega)] at ha
  exact ha
/- an argument -/
theorem RdB.slArg {r : Reach} {b0 : Nat} {c : Cd α} {t e : TypeId} {v : Value} {d : DataW H} {p : List MemPlace} (ht : P.underlying t = some (.slice e)) (hc : P.cellsOf e = c.sz) (h : ∀ N, RdB enc P w base spare held N c e)
    (hv : Value.okWide P w r b0 t v) (hd : DataW.Trod enc P w base spare held t v d p) : ∃ l, SlD c (Hp.of w) l v := by
  obtain ⟨a, len, cap, rfl⟩ := Go.WideShapes.okWide_slice ht hv
  obtain ⟨fuel, hf⟩ := hd
  obtain ⟨l, v', h1, h2⟩ := RdB.sl ht hc (h fuel) fuel (by omega) _ _ rfl hf
  have h1 : [Value.slice a len cap] = [v'] := h1
  simp at h1; subst h1
  exact ⟨l, h2⟩
end
section
variable {α : Type} {c : Cd α} {H : Hp}
theorem LayL.mem : ∀ {l : List α} {xs : List Value}, LayL c H l xs → ∀ a ∈ l, ∃ cs, c.Lay H a cs
  | [], _, _, a, ha => by cases ha
  | b :: l, _, ⟨cs, ys, _, h1, h2⟩, a, ha => by
    rcases List.mem_cons.1 ha with rfl | ha
    · exact ⟨cs, h1⟩
    · exact LayL.mem h2 a ha
theorem SlD.mem {l : List α} {v : Value} (h : SlD c H l v) : ∀ a ∈ l, ∃ cs, c.Lay H a cs := by
  obtain ⟨⟨xs, _, h2⟩, _⟩ := h
  exact h2.mem
end
end Go.GK
namespace Go.GK
open Go.RowKit Go.Deep
section
variable {H : Type} {enc : TypeId × Value → H} {P : Program} {w : World} {base : Nat} {spare : Nat → Bool} {held : Bool}
theorem strArg {r : Reach} {b0 : Nat} {t : TypeId} {v : Value} {d : DataW H} {p : List MemPlace} (ht : P.underlying t = some .string) (hv : Value.okWide P w r b0 t v) (hd : DataW.Trod enc P w base spare held t v d p) : ∃ l : Str, v = sv l := by
  obtain ⟨s, rfl, _⟩ := Go.ChangeMaps.open_string ht hv hd
  exact ⟨s.data.toList, rfl⟩
theorem u8Arg {r : Reach} {b0 : Nat} {t : TypeId} {v : Value} {d : DataW H} {p : List MemPlace} (ht : P.underlying t = some (.int .u8)) (hv : Value.okWide P w r b0 t v) (hd : DataW.Trod enc P w base spare held t v d p) : ∃ l : Int, (0 ≤ l ∧ l ≤ 255) ∧ v = .int .u8 l := by
  obtain ⟨n, rfl, _, _, h⟩ := Go.ChangeShapes.open_int ht hv hd
  exact ⟨n, by simpa [Lit.wf, IntKind.min, IntKind.max, IntKind.signed, IntKind.bits] using h, rfl⟩
theorem LaidH.of {W : World} {g : Nat} (hg : P.globalNamed "internal/strconv.uint64pow10" = some g) (h : Lib.TabIs P W "internal/strconv.uint64pow10" .u64 Lib.pow10Tab) : LaidH P (Hp.of W) := fun w O hs => by
  have hb := hs.below
  have hlt : g < W.heap.size := by
    unfold Lib.TabIs World.var? at h
    rw [hg] at h
    simp only [Option.bind_some] at h
    split at h
    · rename_i he
      exact (Array.getElem?_eq_some_iff.1 he).1
    · cases h
  exact Go.var?_below hb hg hlt h
end
end Go.GK
