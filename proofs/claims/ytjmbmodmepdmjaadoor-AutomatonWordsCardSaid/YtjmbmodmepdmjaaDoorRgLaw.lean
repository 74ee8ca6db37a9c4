/- The ranges of a set, two ways: the plain law. No program in sight. -/
import Derived.Test.YtjmbmodmepdmjaaDoorBytes
namespace Go.GK
theorem setLast_app : ∀ (L : List (Nat × Nat)) (s e k : Nat), setLast (L ++ [(s, e)]) k = L ++ [(s, k)]
  | [], _, _, _ => rfl
  | [a], s, e, k => rfl
  | a :: b :: L, s, e, k => by
    have := setLast_app (b :: L) s e k
    simp only [List.cons_append, setLast] at this ⊢
    rw [this]
structure RgInv (p : Nat → Bool) (k : Nat) (l : List (Nat × Nat)) : Prop where
  run : ∀ a ∈ l, a.1 ≤ a.2 ∧ a.2 < k ∧ ∀ z, a.1 ≤ z → z ≤ a.2 → p z = true
  apart : l.Pairwise fun a b => a.2 + 2 ≤ b.1
  all : ∀ z, z < k → p z = true → ∃ a ∈ l, a.1 ≤ z ∧ z ≤ a.2
  last : 0 < k → p (k - 1) = true → ∃ L s, l = L ++ [(s, k - 1)]
theorem rg_inv (p : Nat → Bool) : ∀ k, RgInv p k (rgTo p k)
  | 0 => by
    rw [rgTo_zero]
    exact ⟨fun a h => by simp at h, .nil, fun z h => by omega, fun h => by omega⟩
  | k + 1 => by
    have ih := rg_inv p k
    by_cases hp : p k = true
    · by_cases hq : 0 < k ∧ p (k - 1) = true
      · rw [rgTo_ext p k hp hq.1 hq.2]
        obtain ⟨L, s, hL⟩ := ih.last hq.1 hq.2
        rw [hL, setLast_app]
        have hrun := ih.run; have hap := ih.apart; have hall := ih.all
        rw [hL] at hrun hap hall
        have hs := hrun (s, k - 1) (by simp)
        refine ⟨fun a ha => ?_, ?_, fun z hz hpz => ?_, fun _ _ => ⟨L, s, by simp⟩⟩
        · rcases List.mem_append.1 ha with h | h
          · have := hrun a (by simp [h]); exact ⟨this.1, by omega, this.2.2⟩
          · simp at h; subst h
            refine ⟨by simp only at hs ⊢; omega, by simp, fun z h1 h2 => ?_⟩
            simp only at h1 h2 hs
            by_cases e : z = k
            · subst e; exact hp
            · exact hs.2.2 z h1 (by omega)
        · rw [List.pairwise_append] at hap ⊢
          refine ⟨hap.1, by simp, fun a ha b hb => ?_⟩
          simp at hb; subst hb
          exact hap.2.2 a ha (s, k - 1) (by simp)
        · by_cases e : z = k
          · subst e; exact ⟨(s, z), by simp, by simp only at hs ⊢; omega, by simp⟩
          · obtain ⟨a, ha, h1, h2⟩ := hall z (by omega) hpz
            rcases List.mem_append.1 ha with h | h
            · exact ⟨a, by simp [h], h1, h2⟩
            · simp at h; subst h
              exact ⟨(s, k), by simp, h1, by simp only at h2 ⊢; omega⟩
      · rw [rgTo_new p k hp hq]
        refine ⟨fun a ha => ?_, ?_, fun z hz hpz => ?_, fun _ _ => ⟨rgTo p k, k, by simp⟩⟩
        · rcases List.mem_append.1 ha with h | h
          · have := ih.run a h; exact ⟨this.1, by omega, this.2.2⟩
          · simp at h; subst h
            exact ⟨by simp, by simp, fun z h1 h2 => by simp only at h1 h2; have : z = k := by omega
                                                       subst this; exact hp⟩
        · rw [List.pairwise_append]
          refine ⟨ih.apart, by simp, fun a ha b hb => ?_⟩
          simp at hb; subst hb
          have h1 := ih.run a ha
          have h2 : a.2 ≠ k - 1 := fun e => hq ⟨by omega, by rw [← e]; exact h1.2.2 a.2 h1.1 (Nat.le_refl _)⟩
          simp only; omega
        · by_cases e : z = k
          · subst e; exact ⟨(z, z), by simp, Nat.le_refl _, Nat.le_refl _⟩
          · obtain ⟨a, ha, h1, h2⟩ := ih.all z (by omega) hpz
            exact ⟨a, by simp [ha], h1, h2⟩
    · have hp' : p k = false := by simpa using hp
      rw [rgTo_skip p k hp']
      refine ⟨fun a ha => ?_, ih.apart, fun z hz hpz => ?_, fun _ h => ?_⟩
      · have := ih.run a ha; exact ⟨this.1, by omega, this.2.2⟩
      · have hne : z ≠ k := fun e => by rw [e, hp'] at hpz; cases hpz
        exact ih.all z (by omega) hpz
      · simp at h; rw [hp'] at h; cases h
theorem hasI_iff (p : Nat → Bool) (n : Nat) : hasI p (n : Int) = true ↔ n < 256 ∧ p n = true := by
  by_cases h : n < 256
  · rw [hasI_in p n h]; simp [h]
  · rw [hasI_big p n (by omega)]; simp [h]
theorem re_spec (p : Nat → Bool) : ∀ (d y : Nat), 255 - y = d → y ≤ 255 → y ≤ re p y ∧ re p y ≤ 255 ∧ (∀ z, y < z → z ≤ re p y → p z = true) ∧ ¬ (re p y + 1 < 256 ∧ p (re p y + 1) = true)
  | d, y, hd, hy => by
    cases h : hasI p ((y : Int) + 1) with
    | true =>
      have h1 := (hasI_iff p (y + 1)).1 (by simpa using h)
      have ih := re_spec p (255 - (y + 1)) (y + 1) rfl (by omega)
      rw [re_step p y hy h] at ih
      refine ⟨by omega, ih.2.1, fun z h2 h3 => ?_, ih.2.2.2⟩
      by_cases e : z = y + 1
      · subst e; exact h1.2
      · exact ih.2.2.1 z (by omega) h3
    | false =>
      rw [re_stop p y hy h]
      refine ⟨Nat.le_refl _, hy, fun z h1 h2 => by omega, fun h1 => ?_⟩
      have := (hasI_iff p (y + 1)).2 h1
      simp at this; rw [this] at h; cases h
  termination_by d => d
  decreasing_by omega
theorem re_uniq (p : Nat → Bool) (y e : Nat) (h1 : y ≤ e) (h2 : e ≤ 255) (h3 : ∀ z, y < z → z ≤ e → p z = true) (h4 : ¬ (e + 1 < 256 ∧ p (e + 1) = true)) : re p y = e := by
  obtain ⟨g1, g2, g3, g4⟩ := re_spec p _ y rfl (by omega)
  rcases Nat.lt_trichotomy (re p y) e with h | h | h
  · exact absurd ⟨by omega, h3 _ (by omega) (by omega)⟩ g4
  · exact h
  · exact absurd ⟨by omega, g3 _ (by omega) (by omega)⟩ h4
theorem sorted_ext : ∀ (a b : List Nat), a.Pairwise (· < ·) → b.Pairwise (· < ·) → (∀ x, x ∈ a ↔ x ∈ b) → a = b
  | [], [], _, _, _ => rfl
  | [], y :: b, _, _, h => by have := (h y).2 (by simp); simp at this
  | x :: a, [], _, _, h => by have := (h x).1 (by simp); simp at this
  | x :: a, y :: b, ha, hb, h => by
    rw [List.pairwise_cons] at ha hb
    have hxy : x = y := by
      have h1 := (h x).1 (by simp)
      have h2 := (h y).2 (by simp)
      rcases List.mem_cons.1 h1 with h1 | h1
      · exact h1
      · rcases List.mem_cons.1 h2 with h2 | h2
        · exact h2.symm
        · have := hb.1 x h1; have := ha.1 y h2; omega
    subst hxy
    congr 1
    refine sorted_ext a b ha.2 hb.2 fun z => ⟨fun hz => ?_, fun hz => ?_⟩
    · rcases List.mem_cons.1 ((h z).1 (by simp [hz])) with e | e
      · have := ha.1 z hz; omega
      · exact e
    · rcases List.mem_cons.1 ((h z).2 (by simp [hz])) with e | e
      · have := hb.1 z hz; omega
      · exact e
theorem range_sorted (n : Nat) : (List.range n).Pairwise (· < ·) := List.pairwise_lt_range
theorem pw_mem {l : List (Nat × Nat)} (h : l.Pairwise fun a b => a.2 + 2 ≤ b.1) {a b : Nat × Nat} (ha : a ∈ l) (hb : b ∈ l) : a = b ∨ a.2 + 2 ≤ b.1 ∨ b.2 + 2 ≤ a.1 := by
  induction l with
  | nil => simp at ha
  | cons x l ih =>
    rw [List.pairwise_cons] at h
    rcases List.mem_cons.1 ha with e1 | ha'
    · rcases List.mem_cons.1 hb with e2 | hb'
      · exact .inl (e1.trans e2.symm)
      · exact .inr (.inl (e1 ▸ h.1 b hb'))
    · rcases List.mem_cons.1 hb with e2 | hb'
      · exact .inr (.inr (e2 ▸ h.1 a ha'))
      · exact ih h.2 ha' hb'
theorem rg_rr (p : Nat → Bool) : rgTo p 256 = rrTo p 256 := by
  have I := rg_inv p 256
  generalize hl : rgTo p 256 = l at I
  have inside : ∀ a ∈ l, ∀ z, z < 256 → p z = true → z + 1 = a.1 ∨ z = a.2 + 1 → False := by
    intro a ha z hz hpz h
    obtain ⟨b, hb, h1, h2⟩ := I.all z hz hpz
    have r1 := I.run a ha
    rcases pw_mem I.apart ha hb with e | e | e
    · subst e; omega
    · omega
    · omega
  have hre : ∀ a ∈ l, a = (a.1, re p a.1) := by
    intro a ha
    have r1 := I.run a ha
    have : re p a.1 = a.2 := re_uniq p a.1 a.2 r1.1 (by omega) (fun z h1 h2 => r1.2.2 z (by omega) h2) (fun ⟨h1, h2⟩ => inside a ha _ h1 h2 (.inr rfl))
    rw [this]
  have hmap : l = (l.map (·.1)).map fun x => (x, re p x) := by
    rw [List.map_map]
    conv => lhs; rw [← List.map_id l]
    exact List.map_congr_left fun a ha => hre a ha
  rw [hmap]
  rw [rrTo_def]
  congr 1
  refine sorted_ext _ _ ?_ ((range_sorted 256).filter _) fun x => ?_
  · rw [List.pairwise_map]
    refine (I.apart.imp_of_mem fun {a b} ha _ h => ?_)
    have := (I.run a ha).1
    omega
  · simp only [List.mem_map, List.mem_filter, List.mem_range, Bool.and_eq_true, Bool.not_eq_true']
    constructor
    · rintro ⟨a, ha, rfl⟩
      have r1 := I.run a ha
      refine ⟨by omega, r1.2.2 a.1 (Nat.le_refl _) r1.1, ?_⟩
      cases h : hasI p ((a.1 : Int) - 1) with
      | false => rfl
      | true =>
        exfalso
        by_cases h0 : a.1 = 0
        · rw [h0] at h; rw [hasI_neg p _ (by omega)] at h; cases h
        · have e : ((a.1 : Int) - 1) = ((a.1 - 1 : Nat) : Int) := by omega
          rw [e] at h
          have := (hasI_iff p (a.1 - 1)).1 h
          exact inside a ha (a.1 - 1) this.1 this.2 (.inl (by omega))
    · rintro ⟨hx, hp, hs⟩
      obtain ⟨a, ha, h1, h2⟩ := I.all x hx hp
      refine ⟨a, ha, ?_⟩
      rcases Nat.lt_or_ge a.1 x with h | h
      · exfalso
        have r1 := I.run a ha
        have : hasI p ((x : Int) - 1) = true := by
          have e : ((x : Int) - 1) = ((x - 1 : Nat) : Int) := by omega
          rw [e]; exact (hasI_iff p (x - 1)).2 ⟨by omega, r1.2.2 _ (by omega) (by omega)⟩
        rw [this] at hs; cases hs
      · omega
/- their sizes -/
def szs (l : List (Nat × Nat)) : Nat := (l.map fun a => a.2 + 1 - a.1).sum
theorem rg_sum (p : Nat → Bool) : ∀ k, szs (rgTo p k) = cntTo p k
  | 0 => by rw [rgTo_zero, cntTo_zero]; rfl
  | k + 1 => by
    have ih := rg_sum p k
    have I := rg_inv p k
    by_cases hp : p k = true
    · rw [cntTo_hit p k hp]
      by_cases hq : 0 < k ∧ p (k - 1) = true
      · obtain ⟨L, s, hL⟩ := I.last hq.1 hq.2
        rw [rgTo_ext p k hp hq.1 hq.2]
        rw [hL] at ih ⊢
        rw [setLast_app]
        have hs := (I.run (s, k - 1) (by rw [hL]; simp)).1
        simp [szs] at ih hs ⊢
        omega
      · rw [rgTo_new p k hp hq]
        simp [szs] at ih ⊢
        omega
    · have hp' : p k = false := by simpa using hp
      rw [rgTo_skip p k hp', cntTo_skip p k hp', ih]
end Go.GK
