/- One step of a table; well-formed tables, of the reference. -/
import Derived.Test.YtjmbmodmepdmjaaGreatDoorLawTab
import Derived.Test.YtjmbmodmepdmjaaGreatDoorDStep
namespace Go.GL
open Go.GK
theorem step_ok {l : Tb} {n fu b : Nat} {i : Int} (hs : ShT l n) (hf : n < fu) (h1 : i < l.length) : Ok (r05_Step fu l i (b : Int)) (fun r => r = stT l i b) := by
  unfold r05_Step
  refine Ok.ite (fun h => Ok.some (by rw [stT_neg _ h])) fun h => Ok.idxI (by omega) h1 ?_
  have hr := rowT_get (by omega) h1
  have hst : stT l i b = stepE (l[i.toNat]'(by omega)).2 b := by unfold stT; rw [if_neg h, hr]
  rw [hst]
  have hsl := hs.2 _ (List.getElem_mem (by omega : i.toNat < l.length))
  generalize l[i.toNat]'(by omega) = s at hsl
  refine Ok.count (fun k => ∀ j (_ : j < k) (hj : j < s.2.length), inE b s.2[j] = false) s.2.length (by intro j h; omega) (by omega) (fun k nx hk hJ hn => ?_) (fun nx hJ => ?_)
  · unfold r05_Step_b1
    have hno : inE b s.2[k] = false → ∀ j (_ : j < k + 1) (hj : j < s.2.length), inE b s.2[j] = false := fun h j hj hj' => by
      rcases Nat.lt_or_ge j k with h2 | h2
      · exact hJ j h2 hj'
      · obtain rfl : j = k := by omega
        exact h
    refine Ok.iT (by omega) (Ok.idxN hk (Ok.ite (fun h2 => Ok.ite (fun h3 => Ok.some ?_) fun h3 => hn (hno ?_)) fun h2 => hn (hno ?_)))
    · exact (stepE_at hk (by simp [inE, h2, h3]) fun i hi => hJ i hi (by omega)).symm
    · simp [inE, h3]
    · simp [inE, h2]
  · unfold r05_Step_b1
    refine Ok.iF (by omega) (Ok.some (stepE_none fun i hi => hJ i hi hi).symm)
theorem r05_wellFormed_eq : r05_Wellformed = au_wellFormed := rfl
end Go.GL
