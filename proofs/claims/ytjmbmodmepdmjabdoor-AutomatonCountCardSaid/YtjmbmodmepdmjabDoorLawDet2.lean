/- The table of a net. -/
import Derived.Test.YtjmbmodmepdmjabDoorLawDet
namespace Go.GL
open Go.GK
/- edges of moves -/
def Apart (a b : EdI) : Prop := a.2.1 < b.1 ∨ b.2.1 < a.1
def edD (ms : List (BSet × Int)) : List EdI := ms.flatMap fun m => (rgD m.1).map fun x => (x.1, x.2, m.2)
theorem mem_edD {ms : List (BSet × Int)} {e : EdI} : e ∈ edD ms ↔ ∃ m ∈ ms, ∃ r ∈ rgTo m.1 256, e = ((r.1 : Int), (r.2 : Int), m.2) := by
  unfold edD rgD
  rw [List.mem_flatMap]
  constructor
  · rintro ⟨m, hm, he⟩
    obtain ⟨x, hx, rfl⟩ := List.mem_map.1 he
    obtain ⟨r, hr, rfl⟩ := List.mem_map.1 hx
    exact ⟨m, hm, r, hr, rfl⟩
  · rintro ⟨m, hm, r, hr, rfl⟩
    exact ⟨m, hm, List.mem_map.2 ⟨_, List.mem_map.2 ⟨r, hr, rfl⟩, rfl⟩⟩
theorem edD_apart {ms : List (BSet × Int)} (h : ms.Pairwise fun m m' => ∀ x, x < 256 → m.1 x = true → m'.1 x = false) : (edD ms).Pairwise Apart := by
  refine List.pairwise_flatMap.2 ⟨fun m _ => ?_, ?_⟩
  · unfold rgD
    rw [List.map_map]
    refine List.pairwise_map.2 (List.Pairwise.imp (fun {a b} hab => ?_) (rg_inv m.1 256).apart)
    left; show (a.2 : Int) < (b.1 : Int); omega
  · refine List.Pairwise.imp (fun {m m'} hm x hx y hy => ?_) h
    obtain ⟨x', hx', rfl⟩ := List.mem_map.1 hx
    obtain ⟨r, hr, rfl⟩ := List.mem_map.1 hx'
    obtain ⟨y', hy', rfl⟩ := List.mem_map.1 hy
    obtain ⟨s, hs, rfl⟩ := List.mem_map.1 hy'
    have h1 := (rg_inv m.1 256).run r hr
    have h2 := (rg_inv m'.1 256).run s hs
    by_cases h3 : r.2 < s.1
    · left; show (r.2 : Int) < (s.1 : Int); omega
    · by_cases h4 : s.2 < r.1
      · right; show (s.2 : Int) < (r.1 : Int); omega
      · exfalso
        have h5 := h1.2.2 (max r.1 s.1) (by omega) (by omega)
        have h6 := h2.2.2 (max r.1 s.1) (by omega) (by omega)
        rw [hm _ (by omega) h5] at h6; cases h6
theorem apart_lo {es : List EdI} (h : es.Pairwise Apart) (hr : ∀ e ∈ es, e.1 ≤ e.2.1) {i j : Nat} (hi : i < es.length) (hj : j < es.length) (e : es[i].1 = es[j].1) : i = j := by
  have a1 := hr _ (List.getElem_mem hi)
  have a2 := hr _ (List.getElem_mem hj)
  rcases Nat.lt_trichotomy i j with h1 | h1 | h1
  · have := List.pairwise_iff_getElem.1 h i j hi hj h1
    unfold Apart at this; omega
  · exact h1
  · have := List.pairwise_iff_getElem.1 h j i hj hi h1
    unfold Apart at this; omega
theorem ltC_lo (x y : EdI) : ltC cmpLo x y = decide (x.1 < y.1) := by
  unfold ltC cmpLo
  simp only [Option.getD_some]
  exact decide_eq_decide.2 (by omega)
theorem cmpOk_of {es : List EdI} (h : es.Pairwise Apart) (hr : ∀ e ∈ es, e.1 ≤ e.2.1) : CmpOk cmpLo es := by
  refine ⟨fun i j => rfl, fun i => ?_, fun i j k => ?_, fun i j k => ?_, fun i j => ?_⟩
  · rw [ltC_lo]; simp
  · rw [ltC_lo, ltC_lo, ltC_lo]; simp only [decide_eq_true_eq]; omega
  · rw [ltC_lo, ltC_lo, ltC_lo]; simp only [decide_eq_false_iff_not]; omega
  · rw [ltC_lo, ltC_lo]; simp only [decide_eq_false_iff_not]
    intro h1 h2
    exact Fin.ext (apart_lo h hr i.2 j.2 (by show es[i.1].1 = es[j.1].1; have h1' : ¬ es[i.1].1 < es[j.1].1 := h1; have h2' : ¬ es[j.1].1 < es[i.1].1 := h2; omega))
theorem sort_edOk {es : List EdI} {m n : Nat} (h : es.Pairwise Apart) (hr : ∀ e ∈ es, 0 ≤ e.1 ∧ e.1 ≤ e.2.1 ∧ e.2.1 < m ∧ 0 ≤ e.2.2 ∧ e.2.2 < n) : EdOk (sortF cmpLo es) m n := by
  have hp : (sortF cmpLo es).Perm es := isortB_perm _ es
  have hm : ∀ e, e ∈ sortF cmpLo es ↔ e ∈ es := fun e => hp.mem_iff
  refine ⟨fun e he => hr e ((hm e).1 he), ?_⟩
  have h1 : (sortF cmpLo es).Pairwise Apart := (hp.pairwise_iff (R := Apart) fun {a b} hab => hab.symm).2 h
  have h2 : (sortF cmpLo es).Pairwise fun a b => (!ltC cmpLo b a) = true := isortB_sorted (fun _ => True) (fun a b c _ _ _ => by rw [ltC_lo, ltC_lo, ltC_lo]; simp; omega) (fun a b _ _ => by rw [ltC_lo, ltC_lo]; simp; omega) es fun _ _ => trivial
  refine List.Pairwise.imp_of_mem (fun {a b} ha hb hab => ?_) (h1.and h2)
  have a1 := hr a ((hm a).1 ha)
  have a2 := hr b ((hm b).1 hb)
  obtain ⟨h3, h4⟩ := hab
  rw [ltC_lo] at h4
  have h4 : ¬ b.1 < a.1 := by simpa using h4
  unfold Apart at h3; omega
theorem stepE_of {es : List EdI} {b : Nat} {t : Int} (h : ∀ e ∈ es, inE b e = true → e.2.2 = t) (hx : ∃ e ∈ es, inE b e = true) : stepE es b = t := by
  unfold stepE
  cases hf : es.find? (inE b) with
  | none =>
    obtain ⟨e, he, hi⟩ := hx
    have := List.find?_eq_none.1 hf e he
    exact absurd hi this
  | some e => exact h e (List.mem_of_find?_eq_some hf) (by have := List.find?_some hf; exact this)
theorem stepE_no {es : List EdI} {b : Nat} (h : ∀ e ∈ es, inE b e ≠ true) : stepE es b = -1 := by
  unfold stepE
  rw [List.find?_eq_none.2 fun e he => h e he]
/- the parts -/
theorem parts_inv (l : List BSet) : OutInv l 256 (partsD l) (outSt (psTo l l.length) 256).2 := (out_same l 256 (Nat.le_refl _)).1
theorem lst_hit {p : BSet} {x : Nat} (hx : x < 256) (h : p x = true) : p (lst p) = true := by
  unfold lst
  cases hf : (List.range 256).find? p with
  | none => exact absurd h (by have := List.find?_eq_none.1 hf x (List.mem_range.2 hx); exact this)
  | some a => exact List.find?_some hf
theorem mv_part {N : NT} {p : BSet} (hp : p ∈ partsD (setsD N)) {x : Nat} (hx : x < 256) (h : p x = true) (S : List Int) : mv N S (lst p) = mv N S x := by
  have hal := (alike_iff _ _ _).1 (((parts_inv (setsD N)).cls p hp x (lst p) hx (lst_lt p) h).1 (lst_hit hx h))
  have hrow : ∀ k, mvE (lst p) (N.2.1.getD k []) = mvE x (N.2.1.getD k []) := fun k => by
    unfold mvE
    congr 1
    refine List.filter_congr fun e he => ?_
    rw [List.getD_eq_getElem?_getD] at he
    cases hk : N.2.1[k]? with
    | none => rw [hk] at he; cases he
    | some l =>
      rw [hk] at he
      exact (hal e.1 (List.mem_flatMap.2 ⟨l, List.mem_of_getElem? hk, List.mem_map.2 ⟨e, he, rfl⟩⟩)).symm
  unfold mv
  exact congrArg (fun f => S.flatMap f) (funext fun s => hrow s.toNat)
/- the moves from a set -/
noncomputable def mvsF (N : NT) (L : List (List Int)) (S : List Int) (p : BSet) : Option (BSet × Int) := if mv N S (lst p) = [] then none else some (p, ((L.idxOf (cloD N (mv N S (lst p))) : Nat) : Int))
noncomputable def mvsD (N : NT) (L : List (List Int)) (S : List Int) (ps : List BSet) : List (BSet × Int) := ps.filterMap (mvsF N L S)
def MemL (N : NT) (L : List (List Int)) (S : List Int) (ps : List BSet) : Prop := ∀ p ∈ ps, mv N S (lst p) ≠ [] → cloD N (mv N S (lst p)) ∈ L
theorem fm_congr {α β : Type} {f g : α → Option β} : ∀ {l : List α}, (∀ x ∈ l, f x = g x) → l.filterMap f = l.filterMap g
  | [], _ => rfl
  | x :: l, h => by rw [List.filterMap_cons, List.filterMap_cons, h x (by simp), fm_congr fun y hy => h y (by simp [hy])]
theorem mvsD_ext {N : NT} {L more : List (List Int)} {S : List Int} {ps : List BSet} (h : MemL N L S ps) : mvsD N (L ++ more) S ps = mvsD N L S ps := by
  unfold mvsD
  refine fm_congr fun p hp => ?_
  unfold mvsF
  split
  · rfl
  · rename_i h1
    rw [List.idxOf_append, if_pos (h p hp h1)]
structure RowOk (N : NT) (b : Int) (L : List (List Int)) (S : List Int) (st : StI) : Prop where
  acc : st.1 = decide (b ∈ S)
  ed : EdOk st.2 256 L.length
  stp : ∀ x, x < 256 → stepE st.2 x = if mv N S x = [] then -1 else ((L.idxOf (cloD N (mv N S x)) : Nat) : Int)
  cl : ∀ x, x < 256 → mv N S x ≠ [] → cloD N (mv N S x) ∈ L
theorem RowOk.ext {N : NT} {b : Int} {L more : List (List Int)} {S : List Int} {st : StI} (h : RowOk N b L S st) : RowOk N b (L ++ more) S st := by
  refine ⟨h.acc, h.ed.mono (Nat.le_refl _) (by simp), fun x hx => ?_, fun x hx h1 => List.mem_append.2 (.inl (h.cl x hx h1))⟩
  rw [h.stp x hx]
  split
  · rfl
  · rename_i h1
    rw [List.idxOf_append, if_pos (h.cl x hx h1)]
theorem edD_rg {N : NT} {L : List (List Int)} {S : List Int} {ps : List BSet} (hM : MemL N L S ps) : ∀ e ∈ edD (mvsD N L S ps), 0 ≤ e.1 ∧ e.1 ≤ e.2.1 ∧ e.2.1 < (256 : Nat) ∧ 0 ≤ e.2.2 ∧ e.2.2 < L.length := fun e he => by
  obtain ⟨m, hm, r, hr, rfl⟩ := mem_edD.1 he
  obtain ⟨p, hp, hf⟩ := List.mem_filterMap.1 hm
  unfold mvsF at hf
  split at hf
  · cases hf
  · rename_i h1
    cases hf
    have h2 := (rg_inv p 256).run r hr
    have h3 := List.idxOf_lt_length_of_mem (hM p hp h1)
    dsimp only
    omega
theorem mvs_apart {N : NT} {L : List (List Int)} {S : List Int} : (edD (mvsD N L S (partsD (setsD N)))).Pairwise Apart := by
  refine edD_apart (List.pairwise_filterMap.2 (List.Pairwise.imp (fun {p q} hpq m hm m' hm' => ?_) (parts_inv (setsD N)).apart))
  unfold mvsF at hm hm'
  split at hm
  · cases hm
  · split at hm'
    · cases hm'
    · cases hm; cases hm'; exact hpq
theorem row_ok {N : NT} {b : Int} {L : List (List Int)} {S : List Int} (hM : MemL N L S (partsD (setsD N))) : RowOk N b L S (decide (b ∈ S), sortF cmpLo (edD (mvsD N L S (partsD (setsD N))))) := by
  have hp : (sortF cmpLo (edD (mvsD N L S (partsD (setsD N))))).Perm _ := isortB_perm _ _
  have I := parts_inv (setsD N)
  have hcov : ∀ x, x < 256 → ∃ p ∈ partsD (setsD N), p x = true := fun x hx => (I.seen x hx).1 (I.upto x hx hx)
  have hin : ∀ x, x < 256 → ∀ e ∈ edD (mvsD N L S (partsD (setsD N))), inE x e = true → mv N S x ≠ [] ∧ e.2.2 = ((L.idxOf (cloD N (mv N S x)) : Nat) : Int) := fun x hx e he hi => by
    obtain ⟨m, hm, r, hr, rfl⟩ := mem_edD.1 he
    obtain ⟨p, hp, hf⟩ := List.mem_filterMap.1 hm
    have h2 := (rg_inv m.1 256).run r hr
    simp only [inE, Bool.and_eq_true, decide_eq_true_eq] at hi
    have h3 := h2.2.2 x (by omega) (by omega)
    unfold mvsF at hf
    split at hf
    · cases hf
    · rename_i h1
      cases hf
      rw [mv_part hp hx h3] at h1 ⊢
      exact ⟨h1, rfl⟩
  refine ⟨rfl, sort_edOk mvs_apart (edD_rg hM), fun x hx => ?_, fun x hx h1 => ?_⟩
  · split
    · rename_i h1
      exact stepE_no fun e he hi => (hin x hx e (hp.mem_iff.1 he) hi).1 h1
    · rename_i h1
      refine stepE_of (fun e he hi => (hin x hx e (hp.mem_iff.1 he) hi).2) ?_
      obtain ⟨p, hpp, hpx⟩ := hcov x hx
      obtain ⟨r, hr, r1, r2⟩ := (rg_inv p 256).all x hx hpx
      have h2 : mvsF N L S p = some (p, ((L.idxOf (cloD N (mv N S (lst p))) : Nat) : Int)) := by unfold mvsF; rw [if_neg (by rw [mv_part hpp hx hpx]; exact h1)]
      refine ⟨_, hp.mem_iff.2 (mem_edD.2 ⟨_, List.mem_filterMap.2 ⟨p, hpp, h2⟩, r, hr, rfl⟩), ?_⟩
      simp only [inE, Bool.and_eq_true, decide_eq_true_eq]; omega
  · obtain ⟨p, hpp, hpx⟩ := hcov x hx
    have := hM p hpp
    rw [mv_part hpp hx hpx] at this
    exact this h1
end Go.GL
