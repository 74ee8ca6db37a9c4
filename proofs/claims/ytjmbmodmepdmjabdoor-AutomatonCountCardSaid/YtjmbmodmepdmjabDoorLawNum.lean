/- Decimal numerals, lists of them as texts; arrays as functions; counting of classes. -/
import Derived.Test.YtjmbmodmepdmjabDoorLawOk
namespace Go.GL
open Go.GK Go.Lib
/- numerals -/
def valD (l : List UInt8) : Nat := l.foldl (fun a c => 10 * a + (c.toNat - 48)) 0
theorem dig_toNat {d : Nat} (h : d < 10) : (UInt8.ofNat (48 + d)).toNat = 48 + d := by
  simp; omega
theorem decDigits_val (u : Nat) : valD (decDigits u) = u := by
  induction u using Nat.strongRecOn with
  | _ u ih =>
    rw [decDigits]
    split
    · rename_i h
      unfold valD
      rw [List.foldl_cons, List.foldl_nil, dig_toNat h]; omega
    · unfold valD at ih ⊢
      rw [List.foldl_append, ih (u / 10) (by omega), List.foldl_cons, List.foldl_nil, dig_toNat (by omega)]; omega
theorem decDigits_mem (u : Nat) : ∀ c ∈ decDigits u, 48 ≤ c.toNat := by
  induction u using Nat.strongRecOn with
  | _ u ih =>
    rw [decDigits]
    split
    · intro c hc; rw [List.mem_singleton] at hc; subst hc; rw [dig_toNat (by omega)]; omega
    · intro c hc
      rcases List.mem_append.1 hc with hc | hc
      · exact ih (u / 10) (by omega) c hc
      · rw [List.mem_singleton] at hc; subst hc; rw [dig_toNat (by omega)]; omega
theorem nDigits_le : ∀ (k u : Nat), u < 10 ^ (k + 1) → nDigits u ≤ k + 1
  | 0, u, h => by rw [nDigits_small (by simpa using h)]; omega
  | k + 1, u, h => by
    by_cases hu : u < 10
    · rw [nDigits_small hu]; omega
    · have hp : 1 ≤ 10 ^ k := Nat.one_le_pow _ _ (by decide)
      rw [nDigits_big hu]
      have := nDigits_le k (u / 10) (by rw [Nat.pow_succ] at h ⊢; omega)
      omega
theorem itoa_nat (u : Nat) : itoa (u : Int) = decDigits u := by unfold itoa; rw [if_neg (by omega)]; simp
theorem itoa_len {u : Nat} (h : u < 10000000000) : (itoa (u : Int)).length ≤ 10 := by
  rw [itoa_nat, decDigits_length]; exact nDigits_le 9 u (by simpa using h)
theorem itoa_no {n : Int} (h : 0 ≤ n) : (44 : UInt8) ∉ itoa n := by
  intro hm
  obtain ⟨u, rfl⟩ : ∃ u : Nat, n = u := ⟨n.toNat, by omega⟩
  rw [itoa_nat] at hm
  have := decDigits_mem u 44 hm
  exact absurd this (by decide)
theorem itoa_inj {n m : Int} (h : 0 ≤ n) (k : 0 ≤ m) (e : itoa n = itoa m) : n = m := by
  obtain ⟨u, rfl⟩ : ∃ u : Nat, n = u := ⟨n.toNat, by omega⟩
  obtain ⟨v, rfl⟩ : ∃ u : Nat, m = u := ⟨m.toNat, by omega⟩
  rw [itoa_nat, itoa_nat] at e
  have := congrArg valD e
  rw [decDigits_val, decDigits_val] at this
  rw [this]
/- texts with commas -/
theorem comma_split : ∀ {A B R S : List UInt8}, 44 ∉ A → 44 ∉ B → (R = [] ∨ R.head? = some 44) → (S = [] ∨ S.head? = some 44) → A ++ R = B ++ S → A = B ∧ R = S
  | [], [], _, _, _, _, _, _, h => ⟨rfl, h⟩
  | [], b :: B, R, S, _, hB, hR, _, h => by
    simp only [List.nil_append, List.cons_append] at h
    subst h
    rcases hR with hR | hR
    · cases hR
    · simp at hR; subst hR; exact absurd (by simp) hB
  | a :: A, [], R, S, hA, _, _, hS, h => by
    simp only [List.nil_append, List.cons_append] at h
    subst h
    rcases hS with hS | hS
    · cases hS
    · simp at hS; subst hS; exact absurd (by simp) hA
  | a :: A, b :: B, R, S, hA, hB, hR, hS, h => by
    simp only [List.cons_append, List.cons.injEq] at h
    have := comma_split (fun hm => hA (by simp [hm])) (fun hm => hB (by simp [hm])) hR hS h.2
    exact ⟨by rw [h.1, this.1], this.2⟩
def tails (l : List Int) : Str := l.flatMap fun x => ([44] : Str) ++ itoa x
def keyT (l : List Int) : Str := l.flatMap fun x => itoa x ++ ([44] : Str)
theorem tails_head (l : List Int) : tails l = [] ∨ (tails l).head? = some 44 := by
  cases l with
  | nil => exact .inl rfl
  | cons x l => exact .inr (by simp [tails])
theorem sig_inj : ∀ {l m : List Int} {x y : Int}, (∀ z ∈ l, 0 ≤ z) → (∀ z ∈ m, 0 ≤ z) → 0 ≤ x → 0 ≤ y → itoa x ++ tails l = itoa y ++ tails m → x = y ∧ l = m
  | l, m, x, y, hl, hm, hx, hy, h => by
    obtain ⟨h1, h2⟩ := comma_split (itoa_no hx) (itoa_no hy) (tails_head l) (tails_head m) h
    refine ⟨itoa_inj hx hy h1, ?_⟩
    clear h h1
    induction l generalizing m with
    | nil =>
      cases m with
      | nil => rfl
      | cons y m => simp [tails] at h2
    | cons x l ih =>
      cases m with
      | nil => simp [tails] at h2
      | cons y m =>
        have e1 : itoa x ++ tails l = itoa y ++ tails m := by simpa [tails] using h2
        obtain ⟨h3, h4⟩ := comma_split (itoa_no (hl x (by simp))) (itoa_no (hm y (by simp))) (tails_head l) (tails_head m) e1
        rw [itoa_inj (hl x (by simp)) (hm y (by simp)) h3, ih m (fun z hz => hl z (by simp [hz])) (fun z hz => hm z (by simp [hz])) h4]
theorem key_inj : ∀ {l m : List Int}, (∀ z ∈ l, 0 ≤ z) → (∀ z ∈ m, 0 ≤ z) → keyT l = keyT m → l = m
  | [], [], _, _, _ => rfl
  | [], y :: m, _, _, h => by simp [keyT] at h
  | x :: l, [], _, _, h => by simp [keyT] at h
  | x :: l, y :: m, hl, hm, h => by
    have e1 : itoa x ++ (44 :: keyT l) = itoa y ++ (44 :: keyT m) := by simpa [keyT] using h
    obtain ⟨h3, h4⟩ := comma_split (itoa_no (hl x (by simp))) (itoa_no (hm y (by simp))) (.inr rfl) (.inr rfl) e1
    simp at h4
    rw [itoa_inj (hl x (by simp)) (hm y (by simp)) h3, key_inj (fun z hz => hl z (by simp [hz])) (fun z hz => hm z (by simp [hz])) h4]
/- arrays as functions -/
section
variable {α : Type}
def tab (n : Nat) (f : Nat → α) : List α := (List.range n).map f
theorem tab_len (n : Nat) (f : Nat → α) : (tab n f).length = n := by simp [tab]
theorem tab_get {n : Nat} {f : Nat → α} {i : Nat} (h : i < (tab n f).length) : (tab n f)[i] = f i := by simp [tab]
theorem tab_get? {n : Nat} {f : Nat → α} {i : Nat} (h : i < n) : (tab n f)[i]? = some (f i) := by
  rw [List.getElem?_eq_getElem (by rw [tab_len]; exact h), tab_get]
theorem tab_congr {n : Nat} {f g : Nat → α} (h : ∀ i, i < n → f i = g i) : tab n f = tab n g :=
  List.map_congr_left fun i hi => h i (List.mem_range.1 hi)
theorem tab_set (n : Nat) (f : Nat → α) (i : Nat) (x : α) : (tab n f).set i x = tab n (fun j => if j = i then x else f j) := by
  refine List.ext_getElem (by simp [tab]) fun j h1 h2 => ?_
  rw [List.getElem_set, tab_get, tab_get]
  by_cases h : i = j
  · rw [if_pos h, if_pos h.symm]
  · rw [if_neg h, if_neg (fun e => h e.symm)]
theorem tab_rep (n : Nat) (x : α) : List.replicate n x = tab n (fun _ => x) := by
  refine List.ext_getElem (by simp [tab]) fun j h1 h2 => by rw [tab_get]; simp
theorem tab_of (l : List α) (d : α) : l = tab l.length (fun i => l.getD i d) := by
  refine List.ext_getElem (by simp [tab]) fun j h1 h2 => by
    rw [tab_get, List.getD_eq_getElem?_getD, List.getElem?_eq_getElem h1]; rfl
theorem tab_succ (n : Nat) (f : Nat → α) : tab (n + 1) f = tab n f ++ [f n] := by simp [tab, List.range_succ]
theorem tab_map {β : Type} (n : Nat) (f : Nat → α) (g : α → β) : (tab n f).map g = tab n (fun i => g (f i)) := by simp [tab]
theorem mem_tab {n : Nat} {f : Nat → α} {x : α} : x ∈ tab n f ↔ ∃ i, i < n ∧ f i = x := by simp [tab]
theorem tab_inj {n : Nat} {f g : Nat → α} : tab n f = tab n g ↔ ∀ i, i < n → f i = g i := by
  refine ⟨fun h i hi => ?_, tab_congr⟩
  have := congrArg (·[i]?) h
  simpa [tab_get? hi] using this
theorem idx_tab {n : Nat} {f : Nat → α} {i : Nat} (h : i < n) : idx (tab n f) (i : Int) = some (f i) := by
  rw [idx_nat (by rw [tab_len]; exact h), tab_get]
end
theorem idx_tabI {α : Type} {n : Nat} {f : Nat → α} {i : Int} (h0 : 0 ≤ i) (h : i.toNat < n) : idx (tab n f) i = some (f i.toNat) := by
  rw [idx_int h0 (by rw [tab_len]; omega), tab_get]
/- classes -/
section
variable {α β : Type}
theorem nodup_le' [DecidableEq α] : ∀ {a b : List α}, a.Nodup → (∀ x ∈ a, x ∈ b) → a.length ≤ b.length
  | [], _, _, _ => by simp
  | x :: a, b, hn, hs => by
    have hn' := List.nodup_cons.1 hn
    have := nodup_le' (a := a) (b := b.erase x) hn'.2 (fun y hy => (List.mem_erase_of_ne (fun e => by subst e; exact hn'.1 hy)).2 (hs y (by simp [hy])))
    rw [List.length_erase_of_mem (hs x (by simp))] at this
    have hp : 0 < b.length := List.length_pos_of_mem (hs x (by simp))
    simp; omega
theorem nodup_of_le [DecidableEq α] : ∀ {b a : List α}, a.Nodup → (∀ x ∈ a, x ∈ b) → b.length ≤ a.length → b.Nodup
  | [], _, _, _, _ => .nil
  | x :: b, a, hn, hs, hl => by
    by_cases hx : x ∈ b
    · have := nodup_le' (b := b) hn (fun y hy => by
        rcases List.mem_cons.1 (hs y hy) with rfl | h
        · exact hx
        · exact h)
      simp at hl; omega
    · refine List.nodup_cons.2 ⟨hx, nodup_of_le (a := a.erase x) (hn.erase x) (fun y hy => ?_) ?_⟩
      · have h1 := List.Nodup.mem_erase_iff hn |>.1 hy
        rcases List.mem_cons.1 (hs y h1.2) with rfl | h
        · exact absurd rfl h1.1
        · exact h
      · have := List.length_erase (a := x) (l := a)
        split at this <;> simp at hl <;> omega
/- u lists the values of f below n, each once -/
structure Vals (n : Nat) (f : Nat → α) (u : List α) : Prop where
  nd : u.Nodup
  mem : ∀ x, x ∈ u ↔ ∃ s, s < n ∧ f s = x
open Classical in
theorem Vals.le {n : Nat} {f : Nat → α} {u : List α} (h : Vals n f u) : u.length ≤ n := by
  have := nodup_le' (b := tab n f) h.nd (fun x hx => mem_tab.2 ((h.mem x).1 hx))
  rwa [tab_len] at this
open Classical in
theorem Vals.fine {n : Nat} {f : Nat → α} {g : Nat → β} {u : List α} {v : List β} (hu : Vals n f u) (hv : Vals n g v) (hr : ∀ s t, s < n → t < n → g s = g t → f s = f t) :
    u.length ≤ v.length ∧ (u.length = v.length → ∀ s t, s < n → t < n → f s = f t → g s = g t) := by
  have hc : ∀ x ∈ v, ∃ s, s < n ∧ g s = x := fun x hx => (hv.mem x).1 hx
  let p : β → α := fun x => if h : ∃ s, s < n ∧ g s = x then f (Classical.choose h) else f 0
  have hp : ∀ s, s < n → p (g s) = f s := fun s hs => by
    have h : ∃ t, t < n ∧ g t = g s := ⟨s, hs, rfl⟩
    have h1 := Classical.choose_spec h
    show (if h : ∃ t, t < n ∧ g t = g s then f (Classical.choose h) else f 0) = f s
    rw [dif_pos h]; exact hr _ _ h1.1 hs h1.2
  have hs : ∀ y ∈ u, y ∈ v.map p := fun y hy => by
    obtain ⟨s, hs, rfl⟩ := (hu.mem y).1 hy
    exact List.mem_map.2 ⟨g s, (hv.mem _).2 ⟨s, hs, rfl⟩, hp s hs⟩
  refine ⟨by have := nodup_le' hu.nd hs; simpa using this, fun he s t hs' ht' hf => ?_⟩
  have hnd := nodup_of_le hu.nd hs (by simp [he])
  have h1 := (hv.mem _).2 ⟨s, hs', rfl⟩
  have h2 := (hv.mem _).2 ⟨t, ht', rfl⟩
  have h3 : p (g s) = p (g t) := by rw [hp s hs', hp t ht', hf]
  obtain ⟨i, hi, e1⟩ := List.getElem_of_mem h1
  obtain ⟨j, hj, e2⟩ := List.getElem_of_mem h2
  have h4 : (v.map p)[i]'(by simpa using hi) = (v.map p)[j]'(by simpa using hj) := by simp [e1, e2, h3]
  have : i = j := by
    rcases Nat.lt_trichotomy i j with h5 | h5 | h5
    · exact absurd h4 (List.pairwise_iff_getElem.1 hnd _ _ (by simpa using hi) (by simpa using hj) h5)
    · exact h5
    · exact absurd h4.symm (List.pairwise_iff_getElem.1 hnd _ _ (by simpa using hj) (by simpa using hi) h5)
  subst this
  rw [← e1, ← e2]
theorem Vals.zero (f : Nat → α) : Vals 0 f [] := ⟨.nil, by simp⟩
theorem Vals.new {n : Nat} {f : Nat → α} {u : List α} (h : Vals n f u) (hn : f n ∉ u) : Vals (n + 1) f (u ++ [f n]) := by
  refine ⟨List.nodup_append.2 ⟨h.nd, by simp, fun a ha b hb => ?_⟩, fun x => ?_⟩
  · simp at hb; subst hb; rintro rfl; exact hn ha
  · rw [List.mem_append, h.mem, List.mem_singleton]
    constructor
    · rintro (⟨s, hs, e⟩ | rfl)
      · exact ⟨s, by omega, e⟩
      · exact ⟨n, by omega, rfl⟩
    · rintro ⟨s, hs, rfl⟩
      rcases Nat.lt_or_ge s n with h1 | h1
      · exact .inl ⟨s, h1, rfl⟩
      · obtain rfl : s = n := by omega
        exact .inr rfl
theorem Vals.old {n : Nat} {f : Nat → α} {u : List α} (h : Vals n f u) (hn : f n ∈ u) : Vals (n + 1) f u := by
  refine ⟨h.nd, fun x => ?_⟩
  rw [h.mem]
  constructor
  · rintro ⟨s, hs, e⟩; exact ⟨s, by omega, e⟩
  · rintro ⟨s, hs, rfl⟩
    rcases Nat.lt_or_ge s n with h1 | h1
    · exact ⟨s, h1, rfl⟩
    · obtain rfl : s = n := by omega
      exact (h.mem _).1 hn
end
end Go.GL
