/- More plain laws over sets of bytes: the first of the list, the ranges' cells, the union of ranges. No program in sight. -/
import Derived.Test.YtjmbmodmepdmjaaDoorRgLaw
import Derived.Test.YtjmbmodmepdmjaaDoorPtLaw
namespace Go.GK
theorem cntTo_eq (p : Nat → Bool) (k : Nat) : cntTo p k = (listTo p k).length := by unfold cntTo; rfl
theorem list_find (p : Nat → Bool) : (listTo p 256)[0]? = (List.range 256).find? p := by
  unfold listTo; rw [← List.head?_eq_getElem?, List.head?_filter]
theorem list_none (p : Nat → Bool) (h : (listTo p 256).length = 0) : lst p = 0 ∧ anyS p = false := by
  have h1 := list_find p
  rw [List.getElem?_eq_none (by omega)] at h1
  unfold lst anyS
  rw [← h1]; exact ⟨rfl, rfl⟩
theorem list_some (p : Nat → Bool) (h : 0 < (listTo p 256).length) : (listTo p 256)[0]? = some (lst p) ∧ anyS p = true := by
  have h1 := list_find p
  have h2 := List.getElem?_eq_getElem h
  rw [h2] at h1
  unfold lst anyS
  rw [← h1]; exact ⟨h2, rfl⟩
theorem listTo_cell (p : Nat → Bool) (h : 0 < (listTo p 256).length) : ((listTo p 256).flatMap encI)[0]? = some (.int .i64 ((lst p : Nat) : Int)) := by
  have := flat_get encI 1 (fun _ => rfl) (listTo p 256) 0 0 _ (list_some p h).1 (by omega)
  simpa [encI] using this
theorem cntTo_pos (p : Nat → Bool) (h : ¬ (((listTo p 256).length : Nat) : Int) = 0) : 0 < (listTo p 256).length := by omega
def pr (l : List (Nat × Nat)) (i : Nat) : Nat × Nat := l.getD i (0, 0)
theorem pr_some (l : List (Nat × Nat)) (i : Nat) (h : i < l.length) : l[i]? = some (pr l i) := by simp [pr, h]
theorem pr_mem (l : List (Nat × Nat)) (i : Nat) (h : i < l.length) : pr l i ∈ l := List.mem_of_getElem? (pr_some l i h)
theorem pr_b0 (l : List (Nat × Nat)) (i : Nat) (h : i < l.length) : (l.flatMap encB)[i * 2]? = some (.int .u8 (((pr l i).1 : Nat) : Int)) := by
  have := flat_get encB 2 encB_len l i 0 _ (pr_some l i h) (by omega); simpa [encB] using this
theorem pr_b1 (l : List (Nat × Nat)) (i : Nat) (h : i < l.length) : (l.flatMap encB)[i * 2 + 1]? = some (.int .u8 (((pr l i).2 : Nat) : Int)) := by
  have := flat_get encB 2 encB_len l i 1 _ (pr_some l i h) (by omega); simpa [encB] using this
theorem pr_z0 (l : List (Nat × Nat)) (i : Nat) (h : i < l.length) : (l.flatMap encZ)[i * 2]? = some (.int .i64 (((pr l i).1 : Nat) : Int)) := by
  have := flat_get encZ 2 encZ_len l i 0 _ (pr_some l i h) (by omega); simpa [encZ] using this
theorem pr_z1 (l : List (Nat × Nat)) (i : Nat) (h : i < l.length) : (l.flatMap encZ)[i * 2 + 1]? = some (.int .i64 (((pr l i).2 : Nat) : Int)) := by
  have := flat_get encZ 2 encZ_len l i 1 _ (pr_some l i h) (by omega); simpa [encZ] using this
/- the ranges of a set -/
theorem rg_len (p : Nat → Bool) : (rgTo p 256).length ≤ 256 := rgTo_len p 256
theorem rg_pr (p : Nat → Bool) (i : Nat) (h : i < (rgTo p 256).length) : (pr (rgTo p 256) i).1 ≤ (pr (rgTo p 256) i).2 ∧ (pr (rgTo p 256) i).2 < 256 := by
  have := (rg_inv p 256).run _ (pr_mem _ i h); exact ⟨this.1, this.2.1⟩
theorem rg_gap (p : Nat → Bool) (i : Nat) (h : i < (rgTo p 256).length) (h0 : 0 < i) : (pr (rgTo p 256) (i - 1)).2 + 2 ≤ (pr (rgTo p 256) i).1 := by
  have ha := (rg_inv p 256).apart
  have := List.pairwise_iff_getElem.1 ha (i - 1) i (by omega) h (by omega)
  have e1 := pr_some (rgTo p 256) i h
  have e2 := pr_some (rgTo p 256) (i - 1) (by omega)
  rw [List.getElem?_eq_getElem h] at e1
  rw [List.getElem?_eq_getElem (show i - 1 < _ by omega)] at e2
  injection e1 with e1; injection e2 with e2
  rw [e1, e2] at this; exact this
def rgU (l : List (Nat × Nat)) (i : Nat) (z : Nat) : Bool := (l.take i).any fun a => ofP a.1 a.2 z
def rgN (l : List (Nat × Nat)) (i : Nat) : Nat := szs (l.take i)
theorem rgU_zero (l : List (Nat × Nat)) : bcs (fun _ => false) = bcs (rgU l 0) := bcs_congr fun x _ => by simp [rgU]
theorem rgN_zero (l : List (Nat × Nat)) : rgN l 0 = 0 := by simp [rgN, szs]
theorem take_succ_pr (l : List (Nat × Nat)) (i : Nat) (h : i < l.length) : l.take (i + 1) = l.take i ++ [pr l i] := by
  rw [List.take_add_one, pr_some l i h]; rfl
theorem rgU_succ (l : List (Nat × Nat)) (i : Nat) (h : i < l.length) : (fun z => rgU l i z || ofP (pr l i).1 (pr l i).2 z) = rgU l (i + 1) := by
  funext z; simp [rgU, take_succ_pr l i h]
theorem rgN_succ (l : List (Nat × Nat)) (i : Nat) (h : i < l.length) : rgN l (i + 1) = rgN l i + ((pr l i).2 + 1 - (pr l i).1) := by
  simp [rgN, take_succ_pr l i h, szs]
theorem rgN_step (p : Nat → Bool) (i : Nat) (h : i < (rgTo p 256).length) : ((rgN (rgTo p 256) (i + 1) : Nat) : Int) = ((rgN (rgTo p 256) i : Nat) : Int) + (pr (rgTo p 256) i).2 - (pr (rgTo p 256) i).1 + 1 := by
  have h1 := rgN_succ (rgTo p 256) i h
  have h2 := rg_pr p i h
  omega
theorem szs_take (l : List (Nat × Nat)) (i : Nat) : szs (l.take i) ≤ szs l := by
  have h : szs (l.take i) + szs (l.drop i) = szs l := by
    simp only [szs]; rw [← List.sum_append_nat, ← List.map_append, List.take_append_drop]
  omega
theorem rgN_le (p : Nat → Bool) (i : Nat) : rgN (rgTo p 256) i ≤ 256 := by
  have h1 := szs_take (rgTo p 256) i
  have h2 := rg_sum p 256
  have h3 := cntTo_le p 256
  unfold rgN; omega
theorem rgU_done (p : Nat → Bool) (i : Nat) (h : (rgTo p 256).length ≤ i) : eqS (rgU (rgTo p 256) i) p = true := eqS_iff.2 fun z hz => by
  have I := rg_inv p 256
  unfold rgU
  rw [List.take_of_length_le h, Bool.eq_iff_iff]
  simp only [List.any_eq_true, ofP, Bool.and_eq_true, decide_eq_true_eq]
  constructor
  · rintro ⟨a, ha, h1, h2⟩; exact (I.run a ha).2.2 z h1 h2
  · intro hp; obtain ⟨a, ha, h1, h2⟩ := I.all z hz hp; exact ⟨a, ha, h1, h2⟩
theorem rgN_done (p : Nat → Bool) (i : Nat) (h : (rgTo p 256).length ≤ i) : rgN (rgTo p 256) i = cntTo p 256 := by
  unfold rgN; rw [List.take_of_length_le h, rg_sum]
/- alike so far -/
def alikeTo (l : List St) (x y i : Nat) : Bool := alikeB (l.take i) x y
theorem alikeTo_zero (l : List St) (x y : Nat) : alikeTo l x y 0 = true := by simp [alikeTo, alikeB_def]
theorem alikeTo_succ (l : List St) (x y i : Nat) (h : i < l.length) : alikeTo l x y (i + 1) = (alikeTo l x y i && (nth l i x == nth l i y)) := by
  simp [alikeTo, alikeB_def, take_succ_nth l i h]
theorem alikeTo_yes (l : List St) (x y i : Nat) (h : i < l.length) (h1 : alikeTo l x y i = true) : alikeTo l x y (i + 1) = (nth l i x == nth l i y) := by rw [alikeTo_succ l x y i h, h1]; rfl
theorem alikeTo_no (l : List St) (x y i : Nat) (h : i < l.length) (h1 : ¬ alikeTo l x y i = true) : alikeTo l x y (i + 1) = false := by
  rw [alikeTo_succ l x y i h]; simp at h1; rw [h1]; rfl
theorem alikeTo_done (l : List St) (x y i : Nat) (h : l.length ≤ i) : alikeTo l x y i = alikeB l x y := by unfold alikeTo; rw [List.take_of_length_le h]
theorem parts_len (l : List St) : (partsOf l).length ≤ 65536 := by have := outSt_len (psTo l l.length) (psTo_len l l.length) 256; exact this
theorem lst_lt (p : Nat → Bool) : lst p < 256 := by
  unfold lst
  cases h : (List.range 256).find? p with
  | none => simp
  | some a => have := List.mem_of_find?_eq_some h; simp at this ⊢; exact this
attribute [irreducible] pr rgU rgN alikeTo
end Go.GK
