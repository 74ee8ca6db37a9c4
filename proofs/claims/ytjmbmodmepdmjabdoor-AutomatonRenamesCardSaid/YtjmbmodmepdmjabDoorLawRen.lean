/- Tables whose states are renumbered, and whose edges are cut: they accept the same strings. -/
import Derived.Test.YtjmbmodmepdmjabDoorLawAuto
import Derived.Test.YtjmbmodmepdmjabDoorLawWord
import Derived.Test.YtjmbmodmepdmjabDoorDAutomatonRenames
namespace Go.GL
open Go.GK
def rn (N i : Int) : Int := (N - i) % N
theorem rn_lt {N i : Int} (h : 0 < N) : 0 ≤ rn N i ∧ rn N i < N := ⟨Int.emod_nonneg _ (by omega), Int.emod_lt_of_pos _ h⟩
theorem rn_zero (N : Int) : rn N 0 = 0 := by simp [rn]
theorem rn_rn {N i : Int} (h0 : 0 ≤ i) (h1 : i < N) : rn N (rn N i) = i := by
  unfold rn
  rcases Int.lt_or_eq_of_le h0 with h | h
  · rw [Int.emod_eq_of_lt (by omega : 0 ≤ N - i) (by omega), show N - (N - i) = i by omega, Int.emod_eq_of_lt h0 h1]
  · subst h; simp
def cutE (c N : Int) (e : EdI) : List EdI := if e.1 ≤ c ∧ c < e.2.1 then [(e.1, c, rn N e.2.2), (c + 1, e.2.1, rn N e.2.2)] else [(e.1, e.2.1, rn N e.2.2)]
def cutS (c N : Int) (s : StI) : StI := (s.1, s.2.flatMap (cutE c N))
def renT (l : Tb) (c : Int) : Tb := (List.range l.length).map fun (i : Nat) => cutS c l.length (rowT l (rn l.length i))
def moreT (l : Tb) (c : Int) : Tb := renT l c ++ [(true, [(0, c, 0)])]
theorem cutE_len (c N : Int) (e : EdI) : (cutE c N e).length ≤ 2 := by unfold cutE; split <;> simp
theorem cutE_le (c N : Int) (es : List EdI) : (es.flatMap (cutE c N)).length ≤ 2 * es.length := by
  induction es with
  | nil => simp
  | cons e es ih => rw [List.flatMap_cons, List.length_append, List.length_cons]; have := cutE_len c N e; omega
theorem stepE_cons (e : EdI) (es : List EdI) (b : Nat) : stepE (e :: es) b = if inE b e then e.2.2 else stepE es b := by
  unfold stepE; rw [List.find?_cons]; cases inE b e <;> rfl
theorem stepE_cutE (c N : Int) (e : EdI) (es : List EdI) (b : Nat) : stepE (cutE c N e ++ es) b = if inE b e then rn N e.2.2 else stepE es b := by
  unfold cutE
  split
  · rename_i h
    rw [List.cons_append, List.cons_append, List.nil_append, stepE_cons, stepE_cons]
    simp only [inE, Bool.and_eq_true, decide_eq_true_eq]
    by_cases h1 : e.1 ≤ b ∧ (b : Int) ≤ c
    · rw [if_pos h1, if_pos (by omega)]
    · rw [if_neg h1]
      by_cases h2 : c + 1 ≤ b ∧ (b : Int) ≤ e.2.1
      · rw [if_pos h2, if_pos (by omega)]
      · rw [if_neg h2, if_neg (by omega)]
  · rw [List.cons_append, List.nil_append, stepE_cons]; rfl
theorem stepE_cut (c N : Int) (b : Nat) : ∀ (es : List EdI), (∀ e ∈ es, 0 ≤ e.2.2) → stepE (es.flatMap (cutE c N)) b = if stepE es b < 0 then -1 else rn N (stepE es b)
  | [], _ => by simp [stepE]
  | e :: es, h => by
    rw [List.flatMap_cons, stepE_cutE, stepE_cons]
    have := h e (by simp)
    cases inE b e
    · simpa using stepE_cut c N b es fun e he => h e (by simp [he])
    · simp only [if_true]; rw [if_neg (by omega)]
theorem edOk_cut {es : List EdI} {c : Int} {n : Nat} (h : EdOk es 256 n) (hn : 0 < n) : EdOk (es.flatMap (cutE c n)) 256 (n + 1) := by
  have hr : ∀ e : EdI, 0 ≤ rn n e.2.2 ∧ rn n e.2.2 < (n : Int) := fun e => rn_lt (by omega)
  have hin : ∀ e ∈ es, ∀ x ∈ cutE c n e, e.1 ≤ x.1 ∧ x.1 ≤ x.2.1 ∧ x.2.1 ≤ e.2.1 ∧ 0 ≤ x.2.2 ∧ x.2.2 < (n : Int) := fun e he x hx => by
    have := h.rg e he; have := hr e
    unfold cutE at hx
    split at hx
    · simp at hx; rcases hx with rfl | rfl <;> (refine ⟨?_, ?_, ?_, ?_, ?_⟩ <;> dsimp only <;> omega)
    · simp at hx; subst hx; refine ⟨?_, ?_, ?_, ?_, ?_⟩ <;> dsimp only <;> omega
  refine ⟨fun x hx => ?_, List.pairwise_flatMap.2 ⟨fun e he => ?_, ?_⟩⟩
  · obtain ⟨e, he, hx⟩ := List.mem_flatMap.1 hx
    have := hin e he x hx; have := h.rg e he; omega
  · unfold cutE
    split
    · simp; omega
    · simp
  · refine List.Pairwise.imp_of_mem (fun {a b} ha hb hab x hx y hy => ?_) h.so
    have := hin a ha x hx; have := hin b hb y hy; omega
theorem renT_len (l : Tb) (c : Int) : (renT l c).length = l.length := by simp [renT]
theorem moreT_len (l : Tb) (c : Int) : (moreT l c).length = l.length + 1 := by simp [moreT, renT_len]
theorem row_mem {l : Tb} {i : Int} (h0 : 0 ≤ i) (h1 : i < l.length) : rowT l i ∈ l := by
  rw [show rowT l i = l[i.toNat]'(by omega) by unfold rowT; simp [List.getD_eq_getElem?_getD, List.getElem?_eq_getElem (by omega : i.toNat < l.length)]]
  exact List.getElem_mem _
theorem moreT_row {l : Tb} {c : Int} {i : Int} (h0 : 0 ≤ i) (h1 : i < l.length) : rowT (moreT l c) i = cutS c l.length (rowT l (rn l.length i)) := by
  have hi : i.toNat < l.length := by omega
  rw [show rowT (moreT l c) i = (moreT l c).getD i.toNat (false, []) from rfl]
  unfold moreT
  rw [List.getD_eq_getElem?_getD, List.getElem?_append_left (by rw [renT_len]; exact hi), renT, List.getElem?_map, List.getElem?_range hi]
  simp only [Option.map_some, Option.getD_some]
  rw [Int.toNat_of_nonneg h0]
theorem moreT_wf {l : Tb} {c : Int} (h : WfT l) (hl : 0 < l.length) (h0 : 0 ≤ c) (h1 : c ≤ 255) : WfT (moreT l c) := by
  intro s hs
  rw [moreT_len]
  rcases List.mem_append.1 hs with hs | hs
  · obtain ⟨i, hi, rfl⟩ := List.mem_map.1 hs
    have := rn_lt (N := l.length) (i := i) (by omega)
    exact edOk_cut (h _ (row_mem this.1 this.2)) hl
  · simp at hs; subst hs
    refine ⟨fun e he => ?_, by simp⟩
    simp at he; subst he; refine ⟨?_, ?_, ?_, ?_, ?_⟩ <;> dsimp only <;> omega
theorem moreT_lg {l : Tb} {c : Int} (h : WfT l) : ∀ (w : List UInt8) (i : Int), 0 ≤ i → i < l.length → lgT (moreT l c) (rn l.length i) w = lgT l i w
  | [], i, h0, h1 => by
    have := rn_lt (N := l.length) (i := i) (by omega)
    show fin (moreT l c) (rn l.length i) = fin l i
    unfold fin
    rw [moreT_row this.1 this.2, rn_rn h0 h1, decide_eq_true this.1, decide_eq_true h0]; rfl
  | b :: w, i, h0, h1 => by
    have hr := rn_lt (N := l.length) (i := i) (by omega)
    show lgT (moreT l c) (stT (moreT l c) (rn l.length i) b.toNat) w = lgT l (stT l i b.toNat) w
    have e1 : stT (moreT l c) (rn l.length i) b.toNat = if stT l i b.toNat < 0 then -1 else rn l.length (stT l i b.toNat) := by
      unfold stT
      rw [if_neg (show ¬ rn l.length i < 0 by omega), if_neg (show ¬ i < 0 by omega), moreT_row hr.1 hr.2, rn_rn h0 h1]
      exact stepE_cut c l.length b.toNat _ fun e he => ((h _ (row_mem h0 h1)).rg e he).2.2.2.1
    rw [e1]
    rcases h.st i b.toNat with h2 | ⟨h2, h3⟩
    · rw [h2, if_pos (by decide), lgT_neg (by decide), lgT_neg (by decide)]
    · rw [if_neg (by omega)]; exact moreT_lg h w _ h2 h3
theorem moreT_can {l : Tb} {c : Int} (h : WfT l) (hl : 0 < l.length) (h0 : 0 ≤ c) (h1 : c ≤ 255) : canT (moreT l c) = canT l :=
  canT_congr (moreT_wf h hl h0 h1) h (by funext w; have := moreT_lg (c := c) h w 0 (by omega) (by omega); rwa [rn_zero] at this)
theorem moreT_sh {l : Tb} {c : Int} (h : ShT l 12) : ShT (moreT l c) 300 := by
  refine ⟨by rw [moreT_len]; have := h.1; omega, fun s hs => ?_⟩
  rcases List.mem_append.1 hs with hs | hs
  · obtain ⟨i, hi, rfl⟩ := List.mem_map.1 hs
    have := rn_lt (N := l.length) (i := i) (by have := List.mem_range.1 hi; omega)
    have h2 := h.2 _ (row_mem this.1 this.2)
    have h3 := cutE_le c l.length (rowT l (rn l.length i)).2
    show ((rowT l (rn l.length i)).2.flatMap (cutE c l.length)).length ≤ 300
    omega
  · simp at hs; subst hs; simp
theorem renamed_ok {l : Tb} {c : Int} {fu : Nat} (hw : WfT l) (hs : ShT l 12) (hf : 12 < fu) (h0 : 0 ≤ c) (h1 : c ≤ 255) : Ok (w05_renamed fu l c) (fun r => r = renT l c) := by
  unfold w05_renamed
  have hlen := hs.1
  refine Ok.range (fun k s => s = (List.range k).map fun (i : Nat) => cutS c l.length (rowT l (rn l.length i))) l.length rfl (by omega) (fun k s nx hk hJ hn => ?_) (fun s nx hJ => ?_)
  · subst hJ
    unfold w05_renamed_b1
    dsimp only
    have hr := rn_lt (N := l.length) (i := k) (by omega)
    have hrow : rowT l (rn l.length k) = l[(rn l.length k).toNat]'(by omega) := by unfold rowT; simp [List.getD_eq_getElem?_getD, List.getElem?_eq_getElem (by omega : (rn l.length k).toNat < l.length)]
    refine Ok.iT (by omega) (Ok.chk (by unfold F64; omega) (Ok.chk (by omega) (Ok.idxI hr.1 hr.2 ?_)))
    show Ok (loopK fu (fun p nx_1 => w05_renamed_b2 fu l c _ k nx (l[(rn l.length k).toNat]'(by omega)) p.1 p.2 nx_1) ([], 0)) _
    rw [← hrow]
    have hm := row_mem hr.1 hr.2
    have hsm := hs.2 _ hm
    have hed := hw _ hm
    generalize hR : rowT l (rn l.length k) = row at hsm hed
    refine Ok.range (fun j es => es = (row.2.take j).flatMap (cutE c l.length)) row.2.length rfl (by omega) (fun j es nx2 hj hJ hn2 => ?_) (fun es nx2 hJ => ?_)
    · subst hJ
      unfold w05_renamed_b2
      dsimp only
      have he := hed.rg _ (List.getElem_mem hj)
      have hlt := cutE_le c l.length (row.2.take j)
      have htl : (row.2.take j).length ≤ 12 := by rw [List.length_take]; omega
      have hnx : (row.2.take (j + 1)).flatMap (cutE c l.length) = (row.2.take j).flatMap (cutE c l.length) ++ cutE c l.length row.2[j] := by
        rw [← List.take_append_getElem hj, List.flatMap_append]; simp
      refine Ok.iT (by omega) (Ok.idxN hj (Ok.chk (by unfold F64; omega) (Ok.chk (by omega) ?_)))
      generalize hes : (row.2.take j).flatMap (cutE c l.length) = es at hlt hnx
      refine Ok.ite (fun h2 => Ok.ite (fun h3 => ?_) fun h3 => ?_) fun h2 => ?_
      · refine Ok.chk (by simp; unfold capN; omega) (Ok.chk (by unfold F8; omega) (Ok.chk (by simp; unfold capN; omega) (hn2 _ ?_)))
        rw [hnx]; unfold cutE rn; rw [if_pos ⟨h2, h3⟩]; simp
      · refine Ok.chk (by simp; unfold capN; omega) (hn2 _ ?_)
        rw [hnx]; rw [show cutE c l.length row.2[j] = [(row.2[j].1, row.2[j].2.1, rn l.length row.2[j].2.2)] by unfold cutE; rw [if_neg (by omega)]]; rfl
      · refine Ok.chk (by simp; unfold capN; omega) (hn2 _ ?_)
        rw [hnx]; rw [show cutE c l.length row.2[j] = [(row.2[j].1, row.2[j].2.1, rn l.length row.2[j].2.2)] by unfold cutE; rw [if_neg (by omega)]]; rfl
    · subst hJ
      unfold w05_renamed_b2
      dsimp only
      refine Ok.iF (by omega) (Ok.chk (by simp; unfold capN; omega) (hn _ ?_))
      rw [List.take_of_length_le (Nat.le_refl _), List.range_succ, List.map_append]
      simp only [List.map_cons, List.map_nil, hR]; rfl
  · subst hJ
    unfold w05_renamed_b1
    exact Ok.iF (by omega) (Ok.some rfl)
theorem wellformed5_eq : r05_Wellformed = au_wellFormed := rfl
theorem renames_law (l : Tb) (c : Int) (hb : ByT l) (h0 : 0 ≤ c) (h1 : c ≤ 255) : ∃ fu, w05_AutomatonRenames fu l c = some true := by
  refine ⟨l.length + 5000, Ok.eq ?_⟩
  unfold w05_AutomatonRenames
  refine Ok.bnd (few_ok (by omega)) fun x hx => Ok.bif (fun _ => Ok.alive (by omega)) fun h => ?_
  have hs0 := hx (notT h)
  have hs := hs0.mono (by decide : 12 ≤ 300)
  rw [wellformed5_eq]
  refine Ok.bnd (wellFormed_ok hb hs (by omega) (by decide)) fun x hx => Ok.bif (fun _ => Ok.alive (by omega)) fun h => ?_
  have hw := hx.1 (notT h)
  refine Ok.ite (fun _ => Ok.alive (by omega)) fun hl => Ok.bnd (renamed_ok hw hs0 (by omega) h0 h1) fun x hx => ?_
  subst hx
  have hl : 0 < l.length := by omega
  have hw2 := moreT_wf (c := c) hw hl h0 h1
  refine Ok.chk (by have := hs0.1; simp [renT_len]; unfold capN; omega) (Ok.bnd (minimal_ok hb hs (by decide) (by omega) (by omega)) fun x hx => Ok.bnd (minimal_ok (l := moreT l c) hw2.by (moreT_sh hs0) (by decide) (by omega) (by omega)) fun y hy => ?_)
  rw [hx.1 hw, hy.1 hw2, moreT_can hw hl h0 h1]
  refine Ok.iT rfl (Ok.iT rfl (Ok.bnd (auSame_ok (canT_sh hw (n := 300) (by have := hs.1; omega) (by decide)) (by omega)) fun z hz => Ok.T (hz.2 rfl) (Ok.alive (by omega))))
end Go.GL
