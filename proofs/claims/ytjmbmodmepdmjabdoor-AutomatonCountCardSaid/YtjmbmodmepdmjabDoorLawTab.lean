/- Small functions on tables: what they compute. -/
import Derived.Test.YtjmbmodmepdmjabDoorLawOk
import Derived.Test.YtjmbmodmepdmjabDoorLawLang
import Derived.Test.YtjmbmodmepdmjabDoorD1
namespace Go.GL
open Go.GK
/- the bytes of a table are bytes -/
def ByT (l : Tb) : Prop := ∀ s ∈ l, ∀ e ∈ s.2, (0 ≤ e.1 ∧ e.1 ≤ 255) ∧ 0 ≤ e.2.1 ∧ e.2.1 ≤ 255
/- short enough: the table, each state's edges -/
def ShT (l : Tb) (n : Nat) : Prop := l.length ≤ n ∧ ∀ s ∈ l, s.2.length ≤ n
theorem EdOk.take_succ {es : List EdI} {m n j : Nat} (hj : j < es.length) :
    EdOk (es.take (j + 1)) m n ↔ EdOk (es.take j) m n ∧ (0 ≤ es[j].1 ∧ es[j].1 ≤ es[j].2.1 ∧ es[j].2.1 < m ∧ 0 ≤ es[j].2.2 ∧ es[j].2.2 < n) ∧ (0 < j → (es[j - 1]'(by omega)).2.1 < es[j].1) := by
  rw [← List.take_append_getElem hj]
  constructor
  · rintro ⟨h1, h2⟩
    have h3 := List.pairwise_append.1 h2
    refine ⟨⟨fun e he => h1 e (List.mem_append.2 (.inl he)), h3.1⟩, h1 _ (List.mem_append.2 (.inr (by simp))), fun h0 => h3.2.2 _ ?_ _ (by simp)⟩
    exact List.mem_take_iff_getElem.2 ⟨j - 1, by omega, rfl⟩
  · rintro ⟨⟨h1, h2⟩, h3, h4⟩
    refine ⟨fun e he => ?_, List.pairwise_append.2 ⟨h2, by simp, fun a ha b hb => ?_⟩⟩
    · rcases List.mem_append.1 he with he | he
      · exact h1 e he
      · simp at he; subst he; exact h3
    · simp at hb; subst hb
      obtain ⟨i, hi, rfl⟩ := List.mem_take_iff_getElem.1 ha
      have h0 : 0 < j := by omega
      have h5 := h4 h0
      rcases Nat.lt_or_ge i (j - 1) with h | h
      · have h6 := List.pairwise_iff_getElem.1 h2 i (j - 1) (by simp; omega) (by simp; omega) h
        simp only [List.getElem_take] at h6
        have h7 := h1 (es[j - 1]'(by omega)) (List.mem_take_iff_getElem.2 ⟨j - 1, by omega, rfl⟩)
        omega
      · obtain rfl : i = j - 1 := by omega
        exact h5
theorem take_full {α : Type} (l : List α) : l.take l.length = l := List.take_of_length_le (Nat.le_refl _)
theorem mem_take_succ {α : Type} {l : List α} {k : Nat} (hk : k < l.length) {x : α} : x ∈ l.take (k + 1) ↔ x ∈ l.take k ∨ x = l[k] := by
  rw [← List.take_append_getElem hk, List.mem_append]; simp only [List.mem_singleton]
theorem wellFormed_ok {l : Tb} {n fu : Nat} (hb : ByT l) (hs : ShT l n) (hf : n < fu) (hn : n < 4294967296) : Ok (au_wellFormed fu l) (fun r => r = true ↔ WfT l) := by
  unfold au_wellFormed
  refine Ok.count (fun k => ∀ s ∈ l.take k, EdOk s.2 256 l.length) l.length (by simp) (by have := hs.1; omega) (fun k nx hk hJ hn => ?_) (fun nx hJ => ?_)
  · unfold au_wellFormed_b1
    have hm : l[k] ∈ l := List.getElem_mem hk
    have hsl := hs.2 _ hm
    refine Ok.iT (by omega) (Ok.idxN hk ?_)
    refine Ok.count (fun j => EdOk (l[k].2.take j) 256 l.length) l[k].2.length (by simp; exact .nil) (by omega) (fun j nx' hj hE hn' => ?_) (fun nx' hE => ?_)
    · unfold au_wellFormed_b2
      have hbe := hb _ hm _ (List.getElem_mem hj)
      have hno : ∀ h : ¬ EdOk (l[k].2.take (j + 1)) 256 l.length, Ok (some false) (fun r => r = true ↔ WfT l) := fun h =>
        Ok.some ⟨fun h => (by cases h), fun hw => absurd ⟨fun e he => (hw _ hm).rg e (List.mem_of_mem_take he), (hw _ hm).so.sublist (List.take_sublist _ _)⟩ h⟩
      rw [EdOk.take_succ hj] at hno
      refine Ok.iT (by omega) (Ok.idxN hj ?_)
      refine Ok.ite (fun h => hno (by omega)) fun h1 => Ok.ite (fun h => hno (by omega)) fun h2 => Ok.ite (fun h => hno (by omega)) fun h3 => Ok.ite (fun h4 => ?_) (fun h4 => ?_)
      · have h5 : ((j : Int) - 1).toNat = j - 1 := by omega
        refine Ok.chk (by unfold F64; omega) (Ok.idxI (by omega) (by omega) ?_)
        refine Ok.ite (fun h => hno ?_) fun h6 => hn' ((EdOk.take_succ hj).2 ⟨hE, by omega, fun _ => ?_⟩)
        · rintro ⟨_, _, h7⟩
          have := h7 (by omega)
          simp only [h5] at h
          omega
        · simp only [h5] at h6; omega
      · exact hn' ((EdOk.take_succ hj).2 ⟨hE, by omega, fun h => by omega⟩)
    · unfold au_wellFormed_b2
      refine Ok.iF (by omega) (hn fun s hs' => ?_)
      rcases (mem_take_succ hk).1 hs' with h | rfl
      · exact hJ s h
      · rw [take_full] at hE; exact hE
  · unfold au_wellFormed_b1
    refine Ok.iF (by omega) (Ok.some ⟨fun _ s hs' => hJ s (by rw [take_full]; exact hs'), fun _ => rfl⟩)
theorem few_ok {l : Tb} {fu : Nat} (hf : l.length < fu) : Ok (w05_few fu l) (fun r => r = true → ShT l 12) := by
  unfold w05_few
  refine Ok.count (fun k => ∀ s ∈ l.take k, s.2.length ≤ 12) l.length (by simp) hf (fun k nx hk hJ hn => ?_) (fun nx hJ => ?_)
  · unfold w05_few_b1
    refine Ok.iT (by omega) (Ok.idxN hk (Ok.ite (fun _ => Ok.some fun h => (by cases h)) fun h => hn fun s hs => ?_))
    rcases (mem_take_succ hk).1 hs with h' | rfl
    · exact hJ s h'
    · omega
  · unfold w05_few_b1
    refine Ok.iF (by omega) (Ok.some fun h => ?_)
    have := of_decide_eq_true h
    rw [take_full] at hJ
    exact ⟨by omega, hJ⟩
theorem stepE_at {es : List EdI} {b j : Nat} (hj : j < es.length) (h : inE b es[j] = true) (hb : ∀ i (hi : i < j), inE b es[i] = false) : stepE es b = es[j].2.2 := by
  have : es.find? (inE b) = some es[j] := List.find?_eq_some_iff_getElem.2 ⟨h, j, hj, rfl, fun i hi => by simp [hb i hi]⟩
  unfold stepE; rw [this]
theorem stepE_none {es : List EdI} {b : Nat} (hb : ∀ i (hi : i < es.length), inE b es[i] = false) : stepE es b = -1 := by
  have : es.find? (inE b) = none := List.find?_eq_none.2 fun e he => by
    obtain ⟨i, hi, rfl⟩ := List.getElem_of_mem he
    simp [hb i hi]
  unfold stepE; rw [this]
theorem rowT_get {l : Tb} {i : Int} (h0 : 0 ≤ i) (h1 : i < l.length) : rowT l i = l[i.toNat]'(by omega) := by
  unfold rowT; rw [List.getD_eq_getElem?_getD, List.getElem?_eq_getElem (by omega)]; rfl
open Classical in
noncomputable def accW (l : Tb) : Lg := fun s => decide (WfT l) && lgT l 0 s
theorem accW_wf {l : Tb} (h : WfT l) : accW l = lgT l 0 := by funext s; simp [accW, h]
theorem accW_not {l : Tb} (h : ¬ WfT l) (s : List UInt8) : accW l s = false := by simp [accW, h]
theorem lgT_nil (i : Int) (s : List UInt8) : lgT [] i s = false := by simp [lgT, fin, rowT]
theorem runT_cons (l : Tb) (i : Int) (c : UInt8) (w : List UInt8) : runT l i (c :: w) = runT l (stT l i c.toNat) w := rfl
theorem fin_get {l : Tb} {i : Int} (h0 : 0 ≤ i) (h1 : i < l.length) : fin l i = (l[i.toNat]'(by omega)).1 := by
  unfold fin; rw [rowT_get h0 h1]; simp [h0]
theorem Ok.bool {b : Bool} {P : Bool → Prop} {k : Bool → Option Bool} {x : Option Bool} (h : Ok x (fun r => r = b)) (hk : Ok (k b) P) : Ok (GK.bnd x k) P := Ok.bnd h fun a ha => ha ▸ hk
theorem accepts_ok {l : Tb} {s : Str} {n fu : Nat} (hb : ByT l) (hs : ShT l n) (hf : n < fu) (hn : n < 4294967296) (hl : s.length < fu) (hl' : s.length < 4294967296) : Ok (au_Accepts fu l s) (fun r => r = accW l s) := by
  unfold au_Accepts
  refine Ok.ite (fun h => Ok.some ?_) fun h0 => Ok.bnd (wellFormed_ok hb hs hf hn) fun x hx => Ok.bif (fun h => Ok.some ?_) fun h => ?_
  · obtain rfl : l = [] := List.length_eq_zero_iff.1 (by omega)
    rw [accW_wf (by simp [WfT]), lgT_nil]
  · refine (accW_not (fun hw => ?_) s).symm
    have := hx.2 hw; subst this; cases h
  have hw : WfT l := hx.1 (by cases x; cases h; rfl)
  rw [accW_wf hw]
  refine Ok.loop (X := Int × Int) (fun p => (0 ≤ p.1 ∧ p.1 < l.length) ∧ (0 ≤ p.2 ∧ p.2 ≤ s.length) ∧ runT l 0 s = runT l p.1 (s.drop p.2.toNat)) (fun p => s.length - p.2.toNat) ⟨⟨by decide, by omega⟩, ⟨by decide, by omega⟩, rfl⟩ (by simpa using hl) fun p nx hI _ hnx => ?_
  obtain ⟨q, i⟩ := p
  obtain ⟨⟨h1, h2⟩, ⟨h3, h4⟩, h5⟩ := hI
  simp only at h1 h2 h3 h4 h5
  unfold au_Accepts_b1
  refine Ok.ite (fun hi => Ok.idxI h1 h2 ?_) fun hi => Ok.idxI h1 h2 (Ok.some ?_)
  · have hil : i.toNat < s.length := by omega
    have hst : stT l q (s[i.toNat]'hil).toNat = stepE (l[q.toNat]'(by omega)).2 (s[i.toNat]'hil).toNat := by
      unfold stT; rw [if_neg (by omega), rowT_get h1 h2]
    have hr : runT l 0 s = runT l (stT l q (s[i.toNat]'hil).toNat) (s.drop (i + 1).toNat) := by
      rw [h5, show (i + 1).toNat = i.toNat + 1 by omega, ← runT_cons, List.drop_eq_getElem_cons hil]
    rw [hst] at hr
    have hsl := hs.2 _ (List.getElem_mem (by omega : q.toNat < l.length))
    have hE := hw _ (List.getElem_mem (by omega : q.toNat < l.length))
    generalize l[q.toNat]'(by omega) = st at hr hE hsl
    have hie : i = ((i.toNat : Nat) : Int) := by omega
    refine Ok.count (fun k => ∀ j (_ : j < k) (hj : j < st.2.length), inE (s[i.toNat]'hil).toNat st.2[j] = false) st.2.length (by intro j h; omega) (by omega) (fun k nx' hk hJ hn' => ?_) (fun nx' hJ => ?_)
    · unfold au_Accepts_b2
      have hno : inE (s[i.toNat]'hil).toNat st.2[k] = false → ∀ j (_ : j < k + 1) (hj : j < st.2.length), inE (s[i.toNat]'hil).toNat st.2[j] = false := fun h j hj hj' => by
        rcases Nat.lt_or_ge j k with h2 | h2
        · exact hJ j h2 hj'
        · obtain rfl : j = k := by omega
          exact h
      refine Ok.iT (by omega) (Ok.idxN hk ?_)
      have hS : ∀ {k : Int → Option Bool} {P}, Ok (k (((s[i.toNat]'hil).toNat : Nat) : Int)) P → Ok (bnd (idxS s i) k) P := fun h => by
        rw [hie]; exact Ok.idxS hil h
      refine hS (Ok.ite (fun h6 => hS (Ok.ite (fun h7 => Ok.chk (by unfold F64; omega) ?_) fun h7 => hn' (hno (by simp [inE, h7])))) fun h6 => hn' (hno (by simp [inE, h6])))
      have he := stepE_at hk (by simp [inE, h6, h7]) fun i hi => hJ i hi (by omega)
      rw [he] at hr
      have hto := hE.rg _ (List.getElem_mem hk)
      exact hnx (_, i + 1) ⟨hto.2.2.2, ⟨by simp only; omega, by simp only; omega⟩, hr⟩ (by simp only; omega)
    · unfold au_Accepts_b2
      have he := stepE_none fun i hi => hJ i hi hi
      rw [he] at hr
      refine Ok.iF (by omega) (Ok.some ?_)
      have := runT_neg (l := l) (s.drop (i + 1).toNat) (i := -1) (by decide)
      rw [← hr] at this
      unfold lgT fin; rw [decide_eq_false (by omega)]; rfl
  · have hil : i.toNat = s.length := by omega
    rw [hil, List.drop_of_length_le (Nat.le_refl _)] at h5
    unfold lgT; rw [h5]; exact (fin_get h1 h2).symm
theorem ext_take {α : Type} {a b : List α} (h : a.length = b.length) (k : ∀ j (h : j < a.length) (h' : j < b.length), a[j] = b[j]) : a = b := List.ext_getElem h fun j h1 h2 => k j h1 h2
theorem Ok.ne3 {R : Type} {P : R → Prop} {x y : EdI} {p q : Option R} (hp : x ≠ y → Ok p P) (hq : x = y → Ok q P) :
    Ok (bif !(decide (([x.1, x.2.1, x.2.2] : List Int) = [y.1, y.2.1, y.2.2])) then p else q) P := by
  have key : ([x.1, x.2.1, x.2.2] : List Int) = [y.1, y.2.1, y.2.2] ↔ x = y :=
    ⟨fun h => by simp at h; exact Prod.ext h.1 (Prod.ext h.2.1 h.2.2), fun h => by rw [h]⟩
  by_cases h : x = y
  · rw [decide_eq_true (key.2 h)]; exact hq h
  · rw [decide_eq_false (fun e => h (key.1 e))]; exact hp h
theorem slEqual_ok {a b : List EdI} {fu : Nat} (hf : a.length < fu) : Ok (slices_Equal fu a b) (fun r => r = true ↔ a = b) := by
  unfold slices_Equal
  refine Ok.ite (fun h => Ok.some ⟨fun h => (by cases h), fun h' => by subst h'; exact absurd rfl h⟩) fun h => ?_
  have hl : a.length = b.length := by omega
  refine Ok.count (fun k => ∀ j (_ : j < k) (h : j < a.length) (h' : j < b.length), a[j] = b[j]) a.length (by intro j h; omega) hf (fun k nx hk hJ hn => ?_) (fun nx hJ => ?_)
  · unfold slices_Equal_b1
    refine Ok.iT (by omega) (Ok.idxN hk (Ok.idxN (by omega) ?_))
    have hkb : k < b.length := by omega
    refine Ok.ne3 (fun h => Ok.some ⟨fun h => (by cases h), fun h' => ?_⟩) fun h => hn fun j hj h1 h2 => ?_
    · subst h'; exact absurd rfl h
    · rcases Nat.lt_or_ge j k with h3 | h3
      · exact hJ j h3 h1 h2
      · obtain rfl : j = k := by omega
        exact h
  · unfold slices_Equal_b1
    exact Ok.iF (by omega) (Ok.some ⟨fun _ => ext_take hl fun j h h' => hJ j h h h', fun _ => rfl⟩)
theorem same1_ok {a b : StI} {fu : Nat} (hf : a.2.length < fu) : Ok (au_Same_1 fu a b) (fun r => r = true ↔ a = b) := by
  unfold au_Same_1
  refine Ok.bif (fun h => Ok.bnd (slEqual_ok hf) fun r hr => Ok.some ?_) fun h => Ok.some ⟨fun h => (by cases h), fun h' => by subst h'; simp at h⟩
  rw [hr]
  exact ⟨fun h' => Prod.ext (by simpa using h) h', fun h' => by rw [h']⟩
theorem auSame_ok {a b : Tb} {n fu : Nat} (hs : ShT a n) (hf : n < fu) : Ok (au_Same fu a b) (fun r => r = true ↔ a = b) := by
  unfold au_Same
  refine Ok.bnd (Q := fun r => r = true ↔ a = b) ?_ fun r hr => Ok.some hr
  unfold slices_EqualFunc_au_Same_1
  refine Ok.ite (fun h => Ok.some ⟨fun h => (by cases h), fun h' => by subst h'; exact absurd rfl h⟩) fun h => ?_
  have hl : a.length = b.length := by omega
  refine Ok.count (fun k => ∀ j (_ : j < k) (h : j < a.length) (h' : j < b.length), a[j] = b[j]) a.length (by intro j h; omega) (by have := hs.1; omega) (fun k nx hk hJ hn => ?_) (fun nx hJ => ?_)
  · unfold slices_EqualFunc_au_Same_1_b1
    have hkb : k < b.length := by omega
    refine Ok.iT (by omega) (Ok.idxN hk (Ok.idxN (by omega) (Ok.bnd (same1_ok (by have := hs.2 _ (List.getElem_mem hk); omega)) fun r hr => ?_)))
    refine Ok.bif (fun h => Ok.some ⟨fun h => (by cases h), fun h' => ?_⟩) fun h => hn fun j hj h1 h2 => ?_
    · subst h'; simp at hr; subst hr; cases h
    · rcases Nat.lt_or_ge j k with h3 | h3
      · exact hJ j h3 h1 h2
      · obtain rfl : j = k := by omega
        exact hr.1 (by cases r; cases h; rfl)
  · unfold slices_EqualFunc_au_Same_1_b1
    exact Ok.iF (by omega) (Ok.some ⟨fun _ => ext_take hl fun j h h' => hJ j h h h', fun _ => rfl⟩)
theorem same5_ok {a b : Tb} {n fu : Nat} (hs : ShT a n) (hf : n < fu) : Ok (r05_Same fu a b) (fun r => r = true ↔ a = b) := by
  unfold r05_Same
  refine Ok.ite (fun h => Ok.some ⟨fun h => (by cases h), fun h' => by subst h'; exact absurd rfl h⟩) fun h => ?_
  have hl : a.length = b.length := by omega
  refine Ok.count (fun k => ∀ j (_ : j < k) (h : j < a.length) (h' : j < b.length), a[j] = b[j]) a.length (by intro j h; omega) (by have := hs.1; omega) (fun k nx hk hJ hn => ?_) (fun nx hJ => ?_)
  · unfold r05_Same_b1
    have hkb : k < b.length := by omega
    refine Ok.iT (by omega) (Ok.idxN hk (Ok.idxN (by omega) ?_))
    refine Ok.bif (fun h => Ok.some ⟨fun h => (by cases h), fun h' => by subst h'; simp at h⟩) fun h1 => Ok.ite (fun h => Ok.some ⟨fun h => (by cases h), fun h' => by subst h'; simp at h⟩) fun h2 => ?_
    have hl2 : a[k].2.length = b[k].2.length := by omega
    refine Ok.count (fun i => ∀ j (_ : j < i) (h : j < a[k].2.length) (h' : j < b[k].2.length), a[k].2[j] = b[k].2[j]) a[k].2.length (by intro j h; omega) (by have := hs.2 _ (List.getElem_mem hk); omega) (fun i nx' hi hE hn' => ?_) (fun nx' hE => ?_)
    · unfold r05_Same_b2
      have hib : i < b[k].2.length := by omega
      refine Ok.iT (by omega) (Ok.idxN hi (Ok.idxN hib ?_))
      refine Ok.ne3 (fun h => Ok.some ⟨fun h => (by cases h), fun h' => by subst h'; exact absurd rfl h⟩) fun h => hn' fun j hj h1 h2 => ?_
      rcases Nat.lt_or_ge j i with h3 | h3
      · exact hE j h3 h1 h2
      · obtain rfl : j = i := by omega
        exact h
    · unfold r05_Same_b2
      refine Ok.iF (by omega) (hn fun j hj h3 h4 => ?_)
      rcases Nat.lt_or_ge j k with h5 | h5
      · exact hJ j h5 h3 h4
      · obtain rfl : j = k := by omega
        exact Prod.ext (by simpa using h1) (ext_take hl2 fun j h h' => hE j h h h')
  · unfold r05_Same_b1
    exact Ok.iF (by omega) (Ok.some ⟨fun _ => ext_take hl fun j h h' => hJ j h h h', fun _ => rfl⟩)
/- the table of one word -/
def wordE (i : Nat) (c : UInt8) : StI := (false, [((c.toNat : Int), (c.toNat : Int), ((i + 1 : Nat) : Int))])
def wordTo (s : Str) (k : Nat) : Tb := (s.take k).mapIdx wordE
def wordT (s : Str) : Tb := s.mapIdx wordE ++ [(true, [])]
theorem wordTo_succ {s : Str} {k : Nat} (h : k < s.length) : wordTo s (k + 1) = wordTo s k ++ [wordE k s[k]] := by
  unfold wordTo
  rw [← List.take_append_getElem h, List.mapIdx_append]
  simp [Nat.min_eq_left (Nat.le_of_lt h)]
theorem word_ok {s : Str} {fu : Nat} (hl : s.length < fu) (hl' : s.length < 4294967296) : Ok (au_Word fu s) (fun r => r = wordT s) := by
  unfold au_Word
  refine Ok.loop (X := Tb × Int) (fun p => (0 ≤ p.2 ∧ p.2 ≤ s.length) ∧ p.1 = wordTo s p.2.toNat) (fun p => s.length - p.2.toNat) ⟨⟨by decide, by simp only; omega⟩, rfl⟩ (by simpa using hl) fun p nx hI _ hnx => ?_
  obtain ⟨q, i⟩ := p
  obtain ⟨⟨h3, h4⟩, h5⟩ := hI
  simp only at h3 h4 h5
  subst h5
  have hlen : (wordTo s i.toNat).length = i.toNat := by simp [wordTo]; omega
  unfold au_Word_b1
  refine Ok.ite (fun hi => ?_) fun hi => ?_
  · have hil : i.toNat < s.length := by omega
    have hie : i = ((i.toNat : Nat) : Int) := by omega
    have hS : ∀ {k : Int → Option Tb} {P}, Ok (k (((s[i.toNat]'hil).toNat : Nat) : Int)) P → Ok (bnd (idxS s i) k) P := fun h => by
      rw [hie]; exact Ok.idxS hil h
    refine hS (hS (Ok.chk (by unfold F64; omega) (Ok.chk (by rw [hlen]; unfold capN; simp; omega) (Ok.chk (by unfold F64; omega) ?_))))
    refine hnx (_, i + 1) ⟨⟨by simp only; omega, by simp only; omega⟩, ?_⟩ (by simp only; omega)
    simp only
    rw [show (i + 1).toNat = i.toNat + 1 by omega, wordTo_succ hil]
    simp only [wordE]
    rw [show ((i.toNat + 1 : Nat) : Int) = i + 1 by omega]
  · have hil : i.toNat = s.length := by omega
    refine Ok.chk (by rw [hlen]; unfold capN; simp; omega) (Ok.some ?_)
    rw [hil]; simp [wordTo, wordT]
end Go.GL
