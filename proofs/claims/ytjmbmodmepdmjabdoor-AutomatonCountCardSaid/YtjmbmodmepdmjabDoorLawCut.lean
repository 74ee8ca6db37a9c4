/- The intervals of bytes of a table, and its complete automaton. -/
import Derived.Test.YtjmbmodmepdmjabDoorLawTab
import Derived.Test.YtjmbmodmepdmjabDoorLawNum
namespace Go.GL
open Go.GK
/- ends of edges -/
def Ends (l : Tb) (b : Nat) : Prop := b = 0 ∨ ∃ s ∈ l, ∃ e ∈ s.2, e.1 = (b : Int) ∨ e.2.1 + 1 = (b : Int)
structure CutOk (cs : List Int) : Prop where
  zero : cs[0]? = some 0
  asc : cs.Pairwise (· < ·)
  rg : ∀ c ∈ cs, 0 ≤ c ∧ c < 256
def hiC (cs : List Int) (i : Nat) : Int := if i + 1 < cs.length then cs.getD (i + 1) 0 - 1 else 255
def CutFor (cs : List Int) (l : Tb) : Prop := ∀ b : Nat, b < 256 → Ends l b → (b : Int) ∈ cs
theorem CutOk.pos {cs : List Int} (h : CutOk cs) : 0 < cs.length := (List.getElem?_eq_some_iff.1 h.zero).1
theorem CutOk.le {cs : List Int} (h : CutOk cs) : cs.length ≤ 256 := by
  have h1 : (cs.map Int.toNat).Nodup := by
    refine (List.pairwise_map.2 ?_)
    refine List.Pairwise.imp_of_mem (fun {a b} ha hb hab => ?_) h.asc
    have := h.rg a ha; have := h.rg b hb; omega
  have := nodup_le' (b := List.range 256) h1 (fun x hx => by
    obtain ⟨c, hc, rfl⟩ := List.mem_map.1 hx
    have := h.rg c hc
    exact List.mem_range.2 (by omega))
  simpa using this
theorem CutOk.lt {cs : List Int} (h : CutOk cs) {i j : Nat} (hi : i < cs.length) (hj : j < cs.length) (hij : i < j) : cs[i] < cs[j] := List.pairwise_iff_getElem.1 h.asc i j hi hj hij
theorem CutOk.get0 {cs : List Int} (h : CutOk cs) : cs[0]'h.pos = 0 := by
  have := h.zero; rw [List.getElem?_eq_getElem h.pos] at this; simpa using this
theorem hiC_some {cs : List Int} {i : Nat} (h : i + 1 < cs.length) : hiC cs i = cs[i + 1] - 1 := by
  unfold hiC; rw [if_pos h, List.getD_eq_getElem?_getD, List.getElem?_eq_getElem h]; rfl
theorem hiC_last {cs : List Int} {i : Nat} (h : ¬ i + 1 < cs.length) : hiC cs i = 255 := by unfold hiC; rw [if_neg h]
theorem CutOk.hi {cs : List Int} (h : CutOk cs) {i : Nat} (hi : i < cs.length) : cs[i] ≤ hiC cs i ∧ hiC cs i < 256 := by
  have h0 := h.rg _ (List.getElem_mem hi)
  by_cases h1 : i + 1 < cs.length
  · rw [hiC_some h1]
    have := h.lt hi h1 (by omega)
    have := h.rg _ (List.getElem_mem h1)
    omega
  · rw [hiC_last h1]; omega
/- within an interval all bytes act alike -/
theorem CutOk.no {cs : List Int} (h : CutOk cs) {i : Nat} (hi : i < cs.length) {c : Int} (h1 : cs[i] < c) (h2 : c ≤ hiC cs i) : c ∉ cs := by
  intro hm
  obtain ⟨j, hj, rfl⟩ := List.getElem_of_mem hm
  have hij : i < j := by
    rcases Nat.lt_trichotomy i j with h3 | h3 | h3
    · exact h3
    · subst h3; omega
    · have := h.lt hj hi h3; omega
  have hs : i + 1 < cs.length := by omega
  rw [hiC_some hs] at h2
  rcases Nat.lt_or_ge (i + 1) j with h3 | h3
  · have := h.lt hs hj h3; omega
  · obtain rfl : i + 1 = j := by omega
    omega
theorem CutFor.const {cs : List Int} {l : Tb} (h : CutOk cs) (hc : CutFor cs l) (hw : WfT l) {i : Nat} (hi : i < cs.length) {b : Nat} (h1 : cs[i] ≤ b) (h2 : (b : Int) ≤ hiC cs i) (q : Int) : stT l q b = stT l q cs[i].toNat := by
  have hr := h.rg _ (List.getElem_mem hi)
  have hh := h.hi hi
  unfold stT
  split
  · rfl
  · have hE : ∀ e ∈ (rowT l q).2, inE b e = inE cs[i].toNat e := by
      intro e he
      have hm : ∃ s ∈ l, e ∈ s.2 := by
        unfold rowT at he
        rw [List.getD_eq_getElem?_getD] at he
        cases hx : l[q.toNat]? with
        | none => rw [hx] at he; simp at he
        | some s => rw [hx] at he; exact ⟨s, List.mem_of_getElem? hx, he⟩
      obtain ⟨s, hs, he⟩ := hm
      have hg := (hw s hs).rg e he
      have n1 : ¬ (cs[i] < e.1 ∧ e.1 ≤ hiC cs i) := fun ⟨a1, a2⟩ => h.no hi a1 a2 (by
        have := hc e.1.toNat (by omega) (.inr ⟨s, hs, e, he, .inl (by omega)⟩)
        rwa [show ((e.1.toNat : Nat) : Int) = e.1 by omega] at this)
      have n2 : ¬ (cs[i] < e.2.1 + 1 ∧ e.2.1 + 1 ≤ hiC cs i) := fun ⟨a1, a2⟩ => h.no hi a1 a2 (by
        have := hc (e.2.1 + 1).toNat (by omega) (.inr ⟨s, hs, e, he, .inr (by omega)⟩)
        rwa [show (((e.2.1 + 1).toNat : Nat) : Int) = e.2.1 + 1 by omega] at this)
      simp only [inE]
      rw [show ((cs[i].toNat : Nat) : Int) = cs[i] by omega]
      congr 1
      · exact decide_eq_decide.2 (by omega)
      · exact decide_eq_decide.2 (by omega)
    unfold stepE
    rw [show (rowT l q).2.find? (inE b) = (rowT l q).2.find? (inE cs[i].toNat) from ?_]
    generalize (rowT l q).2 = es at hE
    induction es with
    | nil => rfl
    | cons e es ih =>
      rw [List.find?_cons, List.find?_cons, hE e (by simp), ih fun e he => hE e (by simp [he])]
/- each byte is in an interval -/
theorem CutOk.find {cs : List Int} (h : CutOk cs) (b : Nat) (hb : b < 256) : ∃ i, ∃ hi : i < cs.length, cs[i] ≤ b ∧ (b : Int) ≤ hiC cs i := by
  have key : ∀ k, k < cs.length → (∃ i, ∃ hi : i < cs.length, cs[i] ≤ b ∧ (b : Int) ≤ hiC cs i) ∨ ∃ hk : k < cs.length, cs[k] ≤ b := by
    intro k
    induction k with
    | zero => intro hk; exact .inr ⟨hk, by rw [h.get0]; omega⟩
    | succ k ih =>
      intro hk
      rcases ih (by omega) with h1 | ⟨h1, h2⟩
      · exact .inl h1
      · by_cases h3 : cs[k + 1] ≤ b
        · exact .inr ⟨hk, h3⟩
        · exact .inl ⟨k, h1, h2, by rw [hiC_some hk]; omega⟩
  rcases key (cs.length - 1) (by have := h.pos; omega) with h1 | ⟨h1, h2⟩
  · exact h1
  · exact ⟨_, h1, h2, by rw [hiC_last (by omega)]; omega⟩
theorem filter_range_succ (p : Nat → Bool) (k : Nat) : (List.range (k + 1)).filter p = (List.range k).filter p ++ (if p k then [k] else []) := by
  rw [List.range_succ, List.filter_append]; simp [List.filter_cons]
def ints (l : List Nat) : List Int := l.map fun (n : Nat) => (n : Int)
theorem ints_app (a b : List Nat) : ints (a ++ b) = ints a ++ ints b := by simp [ints]
theorem cutOk_of {p : Nat → Bool} (h0 : p 0 = true) : CutOk (ints ((List.range 256).filter p)) := by
  refine ⟨?_, ?_, ?_⟩
  · have : List.range 256 = 0 :: (List.range' 1 255) := by rw [List.range_eq_range']; rfl
    rw [this, List.filter_cons, if_pos h0]; rfl
  · refine List.pairwise_map.2 (List.Pairwise.imp (fun {a b} h => by omega) (List.Pairwise.filter _ List.pairwise_lt_range))
  · intro c hc
    obtain ⟨x, hx, rfl⟩ := List.mem_map.1 hc
    have := List.mem_range.1 (List.mem_filter.1 hx).1
    omega
theorem cut_ok {l : Tb} {n fu : Nat} (hw : WfT l) (hs : ShT l n) (hf : n < fu) (hf' : 256 < fu) : Ok (au_cut fu l) (fun cs => CutOk cs ∧ CutFor cs l) := by
  unfold au_cut
  refine Ok.bndE (a := false) (by rw [tab_rep]; exact idx_tab (i := 0) (by decide)) ?_
  rw [tab_rep, tab_set]
  let E : Nat → Nat → Nat → Prop := fun k j b => b = 0 ∨ (∃ s ∈ l.take k, ∃ e ∈ s.2, e.1 = (b : Int) ∨ e.2.1 + 1 = (b : Int)) ∨ ∃ s, l[k]? = some s ∧ ∃ e ∈ s.2.take j, e.1 = (b : Int) ∨ e.2.1 + 1 = (b : Int)
  refine Ok.range (fun k x => ∃ p, x = tab 257 p ∧ ∀ b, b < 257 → (p b = true ↔ E k 0 b)) l.length ⟨_, rfl, fun b hb => ?_⟩ (by have := hs.1; omega) (fun k x nx hk hJ hn => ?_) (fun x nx hJ => ?_)
  · by_cases h : b = 0 <;> simp [E, h]
  · unfold au_cut_b1
    have hm : l[k] ∈ l := List.getElem_mem hk
    have hsl := hs.2 _ hm
    refine Ok.iT (by simp only; omega) (Ok.idxN hk ?_)
    refine Ok.range (fun j x => ∃ p, x = tab 257 p ∧ ∀ b, b < 257 → (p b = true ↔ E k j b)) l[k].2.length hJ (by omega) (fun j x nx' hj hE hn' => ?_) (fun x nx' hE => ?_)
    · unfold au_cut_b2
      obtain ⟨p, rfl, hp⟩ := hE
      have hg := (hw _ hm).rg _ (List.getElem_mem hj)
      refine Ok.iT (by simp only; omega) (Ok.idxN hj ?_)
      simp only
      have e1 : l[k].2[j].1 = ((l[k].2[j].1.toNat : Nat) : Int) := by omega
      have e2 : l[k].2[j].2.1 + 1 = (((l[k].2[j].2.1 + 1).toNat : Nat) : Int) := by omega
      refine Ok.bndE (by rw [e1]; exact idx_tab (by omega)) (Ok.chk (by unfold F64; omega) ?_)
      rw [tab_set]
      refine Ok.bndE (by rw [e2]; exact idx_tab (by omega)) ?_
      rw [tab_set]
      refine hn' _ ⟨_, rfl, fun b hb => ?_⟩
      have hE : E k (j + 1) b ↔ E k j b ∨ l[k].2[j].1 = (b : Int) ∨ l[k].2[j].2.1 + 1 = (b : Int) := by
        simp only [E, List.getElem?_eq_getElem hk, Option.some.injEq, exists_eq_left', mem_take_succ hj]
        constructor
        · rintro (h | h | ⟨e, h | rfl, h2⟩)
          · exact .inl (.inl h)
          · exact .inl (.inr (.inl h))
          · exact .inl (.inr (.inr ⟨e, h, h2⟩))
          · exact .inr h2
        · rintro ((h | h | ⟨e, h, h2⟩) | h)
          · exact .inl h
          · exact .inr (.inl h)
          · exact .inr (.inr ⟨e, .inl h, h2⟩)
          · exact .inr (.inr ⟨_, .inr rfl, h⟩)
      rw [hE]
      by_cases h1 : b = (l[k].2[j].2.1 + 1).toNat
      · simp only [h1, if_true, true_iff]; exact .inr (.inr e2)
      · by_cases h2 : b = l[k].2[j].1.toNat
        · simp only [h1, if_false]; simp only [h2, if_true, true_iff]; exact .inr (.inl e1)
        · simp only [h1, h2, if_false, hp b hb]
          constructor
          · exact .inl
          · rintro (h | h | h)
            · exact h
            · omega
            · omega
    · unfold au_cut_b2
      refine Ok.iF (by simp only; omega) (hn _ ?_)
      obtain ⟨p, rfl, hp⟩ := hE
      refine ⟨p, rfl, fun b hb => ?_⟩
      rw [hp b hb]
      simp only [E, List.getElem?_eq_getElem hk, Option.some.injEq, exists_eq_left', mem_take_succ hk, take_full, List.take_zero]
      constructor
      · rintro (h | ⟨s, h1, h2⟩ | h)
        · exact .inl h
        · exact .inr (.inl ⟨s, .inl h1, h2⟩)
        · exact .inr (.inl ⟨_, .inr rfl, h⟩)
      · rintro (h | ⟨s, h1 | rfl, h2⟩ | ⟨s, _, e, he, _⟩)
        · exact .inl h
        · exact .inr (.inl ⟨s, h1, h2⟩)
        · exact .inr (.inr h2)
        · cases he
  · unfold au_cut_b1
    obtain ⟨p, rfl, hp⟩ := hJ
    have hp' : ∀ b, b < 257 → (p b = true ↔ Ends l b) := fun b hb => by
      rw [hp b hb]
      simp only [E, take_full]
      constructor
      · rintro (h | h | ⟨s, h, _⟩)
        · exact .inl h
        · exact .inr h
        · rw [List.getElem?_eq_none (Nat.le_refl _)] at h; cases h
      · rintro (h | h)
        · exact .inl h
        · exact .inr (.inl h)
    refine Ok.iF (by simp only; omega) ?_
    refine Ok.range (fun k x => x = ints ((List.range k).filter p)) 256 rfl hf' (fun k x nx' hk hx hn => ?_) (fun x nx' hx => ?_)
    · subst hx
      unfold au_cut_b3
      refine Ok.iT (by simp only; omega) (Ok.bndE (idx_tab (by omega)) (Ok.bif (fun h => Ok.chk ?_ (hn _ ?_)) fun h => hn _ ?_))
      · have := List.length_filter_le p (List.range k)
        rw [List.length_range] at this
        simp [ints]; unfold capN; omega
      · rw [filter_range_succ, ints_app, if_pos h]; rfl
      · rw [filter_range_succ, if_neg (by rw [h]; decide), List.append_nil]
    · subst hx
      unfold au_cut_b3
      refine Ok.iF (by simp only; omega) (Ok.some ⟨cutOk_of ((hp' 0 (by decide)).2 (.inl rfl)), fun b hb hE => ?_⟩)
      exact List.mem_map.2 ⟨b, List.mem_filter.2 ⟨List.mem_range.2 hb, (hp' b (by omega)).2 hE⟩, rfl⟩
end Go.GL
