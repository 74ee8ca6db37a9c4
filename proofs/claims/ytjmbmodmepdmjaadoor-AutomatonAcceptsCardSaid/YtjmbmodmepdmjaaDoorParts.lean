/- Partitions of the bytes by a list of sets: the plain law. No program in sight. -/
import Derived.Test.YtjmbmodmepdmjaaDoorBytes
import Derived.Test.YtjmbmodmepdmjaaDoorBsOps
namespace Go.GK
abbrev St := Nat → Bool
def bcl (p : St) : List Value := (bcs p).toList
theorem bcl_len (p : St) : (bcl p).length = 4 := rfl
def nth (l : List St) (i : Nat) : St := l.getD i (fun _ => false)
theorem nth_some (l : List St) (i : Nat) (h : i < l.length) : l[i]? = some (nth l i) := by simp [nth, h]
theorem bcl_at (l : List St) (i : Nat) (h : i < l.length) : ∀ j u, (bcl (nth l i))[j]? = some u → (l.flatMap bcl)[i * 4 + j]? = some u := fun j u hu => by
  have hj : j < 4 := by have := (List.getElem?_eq_some_iff.1 hu).1; rwa [bcl_len] at this
  rw [flat_get bcl 4 bcl_len l i j _ (nth_some l i h) hj]; exact hu
theorem bcl_ne (p : St) : bcl p ≠ [] := by simp [bcl, bcs]
theorem bcl_one (p : St) : ∀ u ∈ bcl p, u.oneCell' = true := fun u hu => bcs_one p u (by simpa [bcl] using hu)
theorem take_succ_nth (l : List St) (i : Nat) (h : i < l.length) : l.take (i + 1) = l.take i ++ [nth l i] := by
  rw [List.take_add_one, nth_some l i h]; rfl

def alikeB (l : List St) (x y : Nat) : Bool := l.all fun p => p x == p y
theorem alike_yes (l : List St) (x y : Nat) (h : ∀ j, j < l.length → (nth l j) x = (nth l j) y) : alikeB l x y = true := by
  rw [alikeB, List.all_eq_true]
  intro p hp
  obtain ⟨i, hi, rfl⟩ := List.getElem_of_mem hp
  have := h i hi
  simp only [nth, List.getD_eq_getElem?_getD, List.getElem?_eq_getElem hi, Option.getD_some] at this
  simp [this]
theorem alike_no (l : List St) (x y i : Nat) (hi : i < l.length) (h : (!((nth l i) x == (nth l i) y)) = true) : alikeB l x y = false := by
  rw [Bool.eq_false_iff]
  intro h2
  rw [alikeB, List.all_eq_true] at h2
  have hm : nth l i ∈ l := List.mem_of_getElem? (nth_some l i hi)
  have := h2 _ hm
  simp_all
theorem alike_step (l : List St) (x y i : Nat) (h0 : ∀ j, j < i → (nth l j) x = (nth l j) y) (h : (!((nth l i) x == (nth l i) y)) = false) : ∀ j, j < i + 1 → (nth l j) x = (nth l j) y := fun j hj => by
  by_cases e : j = i
  · subst e; simpa using h
  · exact h0 j (by omega)

/- the reference's: each class by its least member -/
def cls (l : List St) (x y : Nat) : Bool := decide (x ≤ y) && alikeB l x y
def rpSt (l : List St) : Nat → List St × St
  | 0 => ([], fun _ => false)
  | k + 1 => if (rpSt l k).2 k then rpSt l k else ((rpSt l k).1 ++ [cls l k], fun y => (rpSt l k).2 y || cls l k y)
theorem rpSt_zero (l : List St) : rpSt l 0 = ([], fun _ => false) := rfl
theorem rpSt_skip (l : List St) (k : Nat) (h : (rpSt l k).2 k = true) : rpSt l (k + 1) = rpSt l k := by simp [rpSt, h]
theorem rpSt_new (l : List St) (k : Nat) (h : (rpSt l k).2 k = false) : rpSt l (k + 1) = ((rpSt l k).1 ++ [cls l k], fun y => (rpSt l k).2 y || cls l k y) := by simp [rpSt, h]
theorem rpSt_len (l : List St) : ∀ k, (rpSt l k).1.length ≤ k
  | 0 => by simp [rpSt]
  | k + 1 => by
    have := rpSt_len l k
    simp only [rpSt]; split
    · omega
    · simp; omega
/- the inner round -/
theorem cls_zero (l : List St) (x : Nat) : bcs (fun _ => false) = bcs (upTo (cls l x) (x + 0)) := bcs_congr fun y _ => by
  symm; rw [Bool.eq_false_iff]; simp [upTo, cls]; intro h; omega
theorem dn_zero (l : List St) (d : St) (x : Nat) : bcs d = bcs (fun y => d y || upTo (cls l x) (x + 0) y) := bcs_congr fun y _ => by
  have : upTo (cls l x) (x + 0) y = false := by rw [Bool.eq_false_iff]; simp [upTo, cls]; intro h; omega
  rw [this, Bool.or_false]
theorem cls_in (l : List St) (x j : Nat) (h : alikeB l x (x + j) = true) : cls l x (x + j) = true := by simp [cls, h]
theorem cls_out (l : List St) (x j : Nat) (h : alikeB l x (x + j) = false) : cls l x (x + j) = false := by simp [cls, h]
theorem dn_hit (d f : St) (k : Nat) (h : f k = true) : bcs (fun y => (d y || upTo f k y) || y == k) = bcs (fun y => d y || upTo f (k + 1) y) := bcs_congr fun y hy => by
  have := bcs_inj (upTo_hit f k h) y hy
  rw [← this, Bool.or_assoc]
theorem dn_skip (d f : St) (k : Nat) (h : f k = false) : bcs (fun y => d y || upTo f k y) = bcs (fun y => d y || upTo f (k + 1) y) := bcs_congr fun y hy => by
  rw [bcs_inj (upTo_skip f k h) y hy]
theorem dn_done (d f : St) (k : Nat) (h : 256 ≤ k) : bcs (fun y => d y || upTo f k y) = bcs (fun y => d y || f y) := bcs_congr fun y hy => by
  rw [bcs_inj (upTo_done f k h) y hy]

/- the program's: parts cut again and again -/
def ne (p : St) : Bool := !eqS p (fun _ => false)
def cutA (p s : St) : St := fun x => p x && s x
def cutB (p s : St) : St := fun x => p x && (fun y => !s y) x
def sel (a b : St) (j : Nat) : St := if j = 0 then a else b
def two (p s : St) (j : Nat) : List St := ([cutA p s, cutB p s].take j).filter ne
def psStep (ps : List St) (s : St) : List St := ps.flatMap fun p => two p s 2
def psTo (l : List St) (i : Nat) : List St := (l.take i).foldl psStep [ofP 0 255]
def nx (l : List St) (i m j : Nat) : List St := psStep ((psTo l i).take m) (nth l i) ++ two (nth (psTo l i) m) (nth l i) j
theorem psTo_zero (l : List St) : psTo l 0 = [ofP 0 255] := rfl
theorem psTo_succ (l : List St) (i : Nat) (h : i < l.length) : psTo l (i + 1) = psStep (psTo l i) (nth l i) := by
  simp [psTo, take_succ_nth l i h, List.foldl_append]
theorem two_zero (p s : St) : two p s 0 = [] := rfl
theorem nx_zero (l : List St) (i : Nat) : nx l i 0 0 = [] := rfl
theorem two_hit (p s : St) (j : Nat) (hj : j < 2) (h : ne (sel (cutA p s) (cutB p s) j) = true) : two p s (j + 1) = two p s j ++ [sel (cutA p s) (cutB p s) j] := by
  match j, hj with
  | 0, _ => simp [two, sel] at h ⊢; simp [List.filter_cons, h]
  | 1, _ => simp only [two, sel] at h ⊢; simp only [List.take_succ_cons, List.take_zero, List.filter_cons, List.filter_nil]; simp at h; rw [h]; split <;> simp
theorem two_skip (p s : St) (j : Nat) (hj : j < 2) (h : ne (sel (cutA p s) (cutB p s) j) = false) : two p s (j + 1) = two p s j := by
  match j, hj with
  | 0, _ => simp [two, sel] at h ⊢; simp [List.filter_cons, h]
  | 1, _ => simp only [two, sel] at h ⊢; simp only [List.take_succ_cons, List.take_zero, List.filter_cons, List.filter_nil]; simp at h; rw [h]; simp
theorem nx_hit (l : List St) (i m j : Nat) (hj : j < 2) (h : ne (sel (cutA (nth (psTo l i) m) (nth l i)) (cutB (nth (psTo l i) m) (nth l i)) j) = true) : nx l i m (j + 1) = nx l i m j ++ [sel (cutA (nth (psTo l i) m) (nth l i)) (cutB (nth (psTo l i) m) (nth l i)) j] := by
  simp [nx, two_hit _ _ j hj h]
theorem nx_skip (l : List St) (i m j : Nat) (hj : j < 2) (h : ne (sel (cutA (nth (psTo l i) m) (nth l i)) (cutB (nth (psTo l i) m) (nth l i)) j) = false) : nx l i m (j + 1) = nx l i m j := by
  simp [nx, two_skip _ _ j hj h]
theorem nx_next (l : List St) (i m : Nat) (hm : m < (psTo l i).length) : nx l i (m + 1) 0 = nx l i m 2 := by
  simp [nx, two_zero, take_succ_nth _ m hm, psStep]
theorem nx_done (l : List St) (i m : Nat) (hi : i < l.length) (hm : (psTo l i).length ≤ m) : nx l i m 0 = psTo l (i + 1) := by
  simp [nx, two_zero, psTo_succ l i hi, List.take_of_length_le hm]
theorem list_set (p q : List St) : p = q → p.flatMap bcl = q.flatMap bcl := fun h => by rw [h]

/- how many: the parts of one set -/
def cn (p : St) : Nat := cntTo p 256
theorem cn_eq (p : St) : cn p = ((List.range 256).filter p).length := by unfold cn cntTo listTo; rfl
theorem filter_split (p s : St) : ∀ l : List Nat, (l.filter (cutA p s)).length + (l.filter (cutB p s)).length = (l.filter p).length
  | [] => rfl
  | x :: l => by
    have ih := filter_split p s l
    have ha : cutA p s x = (p x && s x) := rfl
    have hb : cutB p s x = (p x && !s x) := rfl
    cases hp : p x <;> cases hs : s x <;> simp [List.filter_cons, ha, hb, hp, hs] <;> omega
theorem cn_split (p s : St) : cn (cutA p s) + cn (cutB p s) = cn p := by rw [cn_eq, cn_eq, cn_eq]; exact filter_split p s _
theorem cn_pos (p : St) (h : ne p = true) : 1 ≤ cn p := by
  rw [cn_eq]
  simp only [ne, Bool.not_eq_true', ← Bool.not_eq_true, eqS_iff] at h
  have : ∃ x, x < 256 ∧ p x = true := by
    refine Classical.byContradiction fun hn => h fun x hx => ?_
    cases hp : p x with
    | false => simp
    | true => exact absurd ⟨x, hx, hp⟩ hn
  obtain ⟨x, hx, hp⟩ := this
  exact List.length_pos_of_mem (List.mem_filter.2 ⟨List.mem_range.2 hx, hp⟩)
def tot (ps : List St) : Nat := (ps.map cn).sum
theorem tot_append (a b : List St) : tot (a ++ b) = tot a + tot b := by simp [tot]
theorem two_good (p s : St) (j : Nat) : (∀ q ∈ two p s j, ne q = true) ∧ tot (two p s j) ≤ cn p := by
  refine ⟨fun q hq => (List.mem_filter.1 hq).2, ?_⟩
  have hs := cn_split p s
  match j with
  | 0 => simp [two, tot]
  | 1 => simp only [two, List.take_succ_cons, List.take_zero, List.filter_cons, List.filter_nil]; split <;> simp [tot] <;> omega
  | j + 2 =>
    simp only [two, List.take_succ_cons, List.filter_cons]
    rw [show ([] : List St).take j = [] from List.take_nil]
    simp only [List.filter_nil]
    split <;> split <;> simp [tot] <;> omega
theorem step_good (ps : List St) (s : St) : (∀ q ∈ psStep ps s, ne q = true) ∧ tot (psStep ps s) ≤ tot ps := by
  induction ps with
  | nil => simp [psStep, tot]
  | cons p ps ih =>
    have h2 := two_good p s 2
    have e : psStep (p :: ps) s = two p s 2 ++ psStep ps s := by simp [psStep]
    rw [e]
    refine ⟨fun q hq => ?_, ?_⟩
    · rcases List.mem_append.1 hq with h | h
      · exact h2.1 q h
      · exact ih.1 q h
    · rw [tot_append]
      have : tot (p :: ps) = cn p + tot ps := by simp [tot]
      omega
theorem len_tot (ps : List St) (h : ∀ q ∈ ps, ne q = true) : ps.length ≤ tot ps := by
  induction ps with
  | nil => simp [tot]
  | cons p ps ih =>
    have := ih fun q hq => h q (by simp [hq])
    have h1 := cn_pos p (h p (by simp))
    have : tot (p :: ps) = cn p + tot ps := by simp [tot]
    simp only [List.length_cons]; omega
theorem full_ne : ne (ofP 0 255) = true := by decide +kernel
theorem psTo_good (l : List St) : ∀ i, (∀ q ∈ psTo l i, ne q = true) ∧ tot (psTo l i) ≤ 256
  | 0 => by
    refine ⟨fun q hq => ?_, ?_⟩
    · rw [psTo_zero] at hq; simp at hq; rw [hq]; exact full_ne
    · rw [psTo_zero]; simp [tot, cn_eq]; have := List.length_filter_le (ofP 0 255) (List.range 256); simpa using this
  | i + 1 => by
    have ih := psTo_good l i
    by_cases h : i < l.length
    · rw [psTo_succ l i h]
      have := step_good (psTo l i) (nth l i)
      exact ⟨this.1, Nat.le_trans this.2 ih.2⟩
    · have e : psTo l (i + 1) = psTo l i := by simp [psTo, List.take_of_length_le (show l.length ≤ i + 1 by omega), List.take_of_length_le (show l.length ≤ i by omega)]
      rw [e]; exact ih
theorem psTo_len (l : List St) (i : Nat) : (psTo l i).length ≤ 256 := Nat.le_trans (len_tot _ (psTo_good l i).1) (psTo_good l i).2
theorem tot_take (ps : List St) (m : Nat) (h : m < ps.length) : tot (ps.take m) + cn (nth ps m) ≤ tot ps := by
  have e : ps = ps.take m ++ nth ps m :: ps.drop (m + 1) := by
    have : nth ps m = ps[m] := by simp [nth, h]
    rw [this, List.getElem_cons_drop, List.take_append_drop]
  have : tot ps = tot (ps.take m) + (cn (nth ps m) + tot (ps.drop (m + 1))) := by
    conv => lhs; rw [e]
    rw [tot_append]; simp [tot]
  omega
theorem nx_len (l : List St) (i m j : Nat) (hm : m < (psTo l i).length) : (nx l i m j).length ≤ 256 := by
  have h1 := step_good ((psTo l i).take m) (nth l i)
  have h2 := two_good (nth (psTo l i) m) (nth l i) j
  have h3 := tot_take (psTo l i) m hm
  have h4 := (psTo_good l i).2
  refine Nat.le_trans (len_tot _ fun q hq => ?_) (?_ : tot (nx l i m j) ≤ 256)
  · rcases List.mem_append.1 hq with h | h
    · exact h1.1 q h
    · exact h2.1 q h
  · unfold nx; rw [tot_append]; omega

/- the parts in the order of their least members -/
def stp (b : Nat) (s : List St × St) (p : St) : List St × St := if p b then (s.1 ++ [p], fun y => s.2 y || p y) else s
def outSt (ps : List St) : Nat → List St × St
  | 0 => ([], fun _ => false)
  | b + 1 => if (outSt ps b).2 b then outSt ps b else ps.foldl (stp b) (outSt ps b)
def outIn (ps : List St) (b m : Nat) : List St × St := (ps.take m).foldl (stp b) (outSt ps b)
theorem outSt_zero (ps : List St) : outSt ps 0 = ([], fun _ => false) := rfl
theorem outSt_skip (ps : List St) (b : Nat) (h : (outSt ps b).2 b = true) : outSt ps (b + 1) = outSt ps b := by simp [outSt, h]
theorem outSt_new (ps : List St) (b m : Nat) (h : (outSt ps b).2 b = false) (hm : ps.length ≤ m) : outSt ps (b + 1) = outIn ps b m := by simp [outSt, outIn, h, List.take_of_length_le hm]
theorem outIn_zero (ps : List St) (b : Nat) : outIn ps b 0 = outSt ps b := rfl
theorem outIn_hit (ps : List St) (b m : Nat) (hm : m < ps.length) (h : (nth ps m) b = true) : outIn ps b (m + 1) = ((outIn ps b m).1 ++ [nth ps m], fun y => (outIn ps b m).2 y || (nth ps m) y) := by
  simp only [outIn, take_succ_nth ps m hm, List.foldl_append, List.foldl_cons, List.foldl_nil]
  simp [stp, h]
theorem outIn_skip (ps : List St) (b m : Nat) (hm : m < ps.length) (h : (nth ps m) b = false) : outIn ps b (m + 1) = outIn ps b m := by
  simp only [outIn, take_succ_nth ps m hm, List.foldl_append, List.foldl_cons, List.foldl_nil]
  simp [stp, h]
theorem fold_len (b : Nat) : ∀ (ps : List St) (s : List St × St), (ps.foldl (stp b) s).1.length ≤ s.1.length + ps.length
  | [], s => by simp
  | p :: ps, s => by
    have := fold_len b ps (stp b s p)
    have h2 : (stp b s p).1.length ≤ s.1.length + 1 := by unfold stp; split <;> simp
    simp only [List.foldl_cons, List.length_cons]; omega
theorem outSt_len (ps : List St) (h : ps.length ≤ 256) : ∀ b, (outSt ps b).1.length ≤ 256 * b
  | 0 => by simp [outSt]
  | b + 1 => by
    have ih := outSt_len ps h b
    simp only [outSt]; split
    · omega
    · have := fold_len b ps (outSt ps b); omega
theorem outIn_len (ps : List St) (h : ps.length ≤ 256) (b m : Nat) : (outIn ps b m).1.length ≤ 256 * b + 256 := by
  have h1 := outSt_len ps h b
  have h2 := fold_len b (ps.take m) (outSt ps b)
  have h3 : (ps.take m).length ≤ 256 := by simp; omega
  unfold outIn; omega
def partsOf (l : List St) : List St := (outSt (psTo l l.length) 256).1
def rpartsOf (l : List St) : List St := (rpSt l 256).1
theorem cutA_eq (p s : St) : Value.agg (bcs (fun x => p x && s x)) = .agg (bcs (cutA p s)) := rfl
theorem cutB_eq (p s : St) : Value.agg (bcs (fun x => p x && (fun y => !s y) x)) = .agg (bcs (cutB p s)) := rfl
theorem ne_eq (p : St) : (!eqS p (fun _ => false)) = ne p := rfl
def bcs2 (a b : St) : Array Value := #[w64 (word a 0), w64 (word a 1), w64 (word a 2), w64 (word a 3), w64 (word b 0), w64 (word b 1), w64 (word b 2), w64 (word b 3)]
theorem bcs2_at (a b : St) (j : Nat) (h : j < 2) : Value.agg ((bcs2 a b).extract ((j : Int).toNat * 4) ((j : Int).toNat * 4 + 4)) = .agg (bcs (sel a b j)) := by
  match j, h with
  | 0, _ => rfl
  | 1, _ => rfl
theorem fill8 (z0 z1 z2 z3 z4 z5 z6 z7 x0 x1 x2 x3 x4 x5 x6 x7 : Value) : Instr.fill (fun i => some (i * 4, 4)) #[z0, z1, z2, z3, z4, z5, z6, z7] [(0, .agg #[x0, x1, x2, x3]), (1, .agg #[x4, x5, x6, x7])] = some #[x0, x1, x2, x3, x4, x5, x6, x7] := by
  simp [Instr.fill, Value.cells]
theorem fill2 (a b : St) : Instr.fill (fun i => some (i * 4, 4)) #[.int .u64 0, .int .u64 0, .int .u64 0, .int .u64 0, .int .u64 0, .int .u64 0, .int .u64 0, .int .u64 0] [(0, .agg (bcs a)), (1, .agg (bcs b))] = some (bcs2 a b) := fill8 _ _ _ _ _ _ _ _ _ _ _ _ _ _ _ _
theorem alikeB_def (l : List St) (x y : Nat) : alikeB l x y = l.all fun p => p x == p y := rfl
theorem cutA_at (p s : St) (x : Nat) : cutA p s x = (p x && s x) := rfl
theorem cutB_at (p s : St) (x : Nat) : cutB p s x = (p x && !s x) := rfl
theorem cls_at (l : List St) (x y : Nat) : cls l x y = (decide (x ≤ y) && alikeB l x y) := rfl
theorem outIn_all (ps : List St) (b : Nat) : outIn ps b ps.length = ps.foldl (stp b) (outSt ps b) := by simp [outIn]
/-END-/
attribute [irreducible] alikeB rpSt psTo nx outSt outIn nth cls ne cutA cutB
end Go.GK
