/- What is reached in a net without a byte; keys of lists; the sets of a net. -/
import Derived.Test.YtjmbmodmepdmjabDoorLawAdd
import Derived.Test.YtjmbmodmepdmjabDoorLawCut
namespace Go.GL
open Go.GK
def stl (n : Nat) (f : Nat → Bool) : List Int := ints ((List.range n).filter f)
theorem mem_stl {n : Nat} {f : Nat → Bool} {x : Int} : x ∈ stl n f ↔ 0 ≤ x ∧ x < n ∧ f x.toNat = true := by
  unfold stl ints
  rw [List.mem_map]
  constructor
  · rintro ⟨s, hs, rfl⟩
    have := List.mem_filter.1 hs
    have h1 := List.mem_range.1 this.1
    exact ⟨by omega, by omega, by simpa using this.2⟩
  · rintro ⟨h1, h2, h3⟩
    exact ⟨x.toNat, List.mem_filter.2 ⟨List.mem_range.2 (by omega), h3⟩, by omega⟩
theorem stl_congr {n : Nat} {f g : Nat → Bool} (h : ∀ s, s < n → f s = g s) : stl n f = stl n g := by
  unfold stl
  rw [List.filter_congr fun s hs => h s (List.mem_range.1 hs)]
theorem stl_len (n : Nat) (f : Nat → Bool) : (stl n f).length ≤ n := by
  unfold stl ints
  have := List.length_filter_le f (List.range n)
  rw [List.length_range] at this
  simpa using this
theorem stl_inj {n : Nat} {f g : Nat → Bool} (h : stl n f = stl n g) : ∀ s, s < n → f s = g s := fun s hs => by
  have h1 : ((s : Nat) : Int) ∈ stl n f ↔ ((s : Nat) : Int) ∈ stl n g := by rw [h]
  rw [mem_stl, mem_stl] at h1
  have e : ((s : Nat) : Int).toNat = s := by omega
  rw [e] at h1
  have h2 : (f s = true) ↔ (g s = true) := ⟨fun h => (h1.1 ⟨by omega, by omega, h⟩).2.2, fun h => (h1.2 ⟨by omega, by omega, h⟩).2.2⟩
  cases hf : f s <;> cases hg : g s <;> simp_all
/- weights of what is not seen yet -/
def wt (D : List (List Int)) (f : Nat → Bool) : Nat → Nat
  | 0 => 0
  | k + 1 => wt D f k + (if f k then 0 else (D.getD k []).length)
theorem wt_congr {D : List (List Int)} {f g : Nat → Bool} : ∀ {k : Nat}, (∀ s, s < k → f s = g s) → wt D f k = wt D g k
  | 0, _ => rfl
  | k + 1, h => by unfold wt; rw [wt_congr fun s hs => h s (by omega), h k (by omega)]
theorem wt_set {D : List (List Int)} {f : Nat → Bool} {x : Nat} (hf : f x = false) : ∀ {k : Nat}, x < k → wt D (fun j => if j = x then true else f j) k + (D.getD x []).length = wt D f k
  | 0, h => absurd h (Nat.not_lt_zero _)
  | k + 1, h => by
    unfold wt
    by_cases e : k = x
    · subst e
      rw [if_pos (by simp), hf, wt_congr (g := f) fun s hs => by rw [if_neg (by omega)]]
      simp
    · rw [if_neg e]
      have := wt_set (D := D) hf (k := k) (by omega)
      omega
theorem wt_le {D : List (List Int)} {f : Nat → Bool} {c : Nat} (h : ∀ l ∈ D, l.length ≤ c) : ∀ k, wt D f k ≤ k * c
  | 0 => Nat.zero_le _
  | k + 1 => by
    unfold wt
    have := wt_le (f := f) h k
    have h2 : (D.getD k []).length ≤ c := by
      rw [List.getD_eq_getElem?_getD]
      cases hk : D[k]? with
      | none => simp
      | some l => exact h l (List.mem_of_getElem? hk)
    rw [Nat.add_mul, Nat.one_mul]
    split <;> omega
/- what is reached -/
def fr (N : NT) (l : List Int) (s : Nat) : Prop := ∃ x ∈ l, Cl (trF N.1) x [] s
open Classical in
noncomputable def cloD (N : NT) (l : List Int) : List Int := stl N.1.length fun s => decide (fr N l s)
theorem mem_cloD {N : NT} {l : List Int} {x : Int} : x ∈ cloD N l ↔ 0 ≤ x ∧ x < N.1.length ∧ fr N l x.toNat := by
  unfold cloD; rw [mem_stl]; simp
theorem closed_cl {D : List (List Int)} {f : Int → Prop} (hf : ∀ s u, f s → (∃ l, 0 ≤ s ∧ D[s.toNat]? = some l ∧ u ∈ l) → f u) {s u : Int} {w : List UInt8} (h : Cl (trF D) s w u) (hs : f s) : f u := by
  induction h with
  | refl _ => exact hs
  | step h1 _ ih => exact ih (hf _ _ hs ⟨h1.2.2.choose, h1.2.1, h1.2.2.choose_spec⟩)
theorem closure_ok {N : NT} {c fu : Nat} {l : List Int} (hN : NB N c) (hc : c ≤ 4000) (hl : ∀ x ∈ l, 0 ≤ x ∧ x < N.1.length) (hll : l.length ≤ 100000000) (hf : 200000000 ≤ fu) : Ok (au_net_closure fu N l) (fun r => r = cloD N l) := by
  have heq := hN.eq
  have hlen := hN.len
  have hM : N.1.length * c ≤ 4000 * 4000 := Nat.mul_le_mul (by omega) hc
  have hw0 := fun f => wt_le (D := N.1) (f := f) hN.r1 N.1.length
  unfold au_net_closure
  rw [show N.2.1.length = N.1.length from heq.symm, tab_rep]
  refine Ok.chk (by unfold capN; omega) ?_
  refine Ok.loop (fun (x : List Int × List Bool) => ∃ f, x.2 = tab N.1.length f ∧ (∀ y ∈ x.1, (0 ≤ y ∧ y < N.1.length) ∧ fr N l y.toNat) ∧ (∀ s, s < N.1.length → f s = true → fr N l s) ∧ (∀ y ∈ l, f y.toNat = true ∨ y ∈ x.1) ∧
      (∀ s, s < N.1.length → f s = true → ∀ u ∈ N.1.getD s [], f u.toNat = true ∨ u ∈ x.1) ∧ x.1.length + wt N.1 f N.1.length ≤ 116000000)
    (fun (x : List Int × List Bool) => x.1.length + wt N.1 (fun j => x.2.getD j false) N.1.length) ⟨fun _ => false, rfl, fun y hy => ⟨hl y hy, y, hy, by have := hl y hy; rw [show ((y.toNat : Nat) : Int) = y by omega]; exact .refl y⟩, fun s _ h => (by cases h), fun y hy => .inr hy, fun s _ h => (by cases h), by have := hw0 fun _ => false; dsimp only; omega⟩ ?_ fun x nx hI hm hn => ?_
  · have := hw0 fun j => (tab N.1.length fun _ => false).getD j false
    dsimp only; omega
  · obtain ⟨l', seen⟩ := x
    obtain ⟨f, rfl, i1, i2, i3, i4, i5⟩ := hI
    dsimp only at i1 i3 i4 i5 hm hn
    have hgt : ∀ g : Nat → Bool, wt N.1 (fun j => (tab N.1.length g).getD j false) N.1.length = wt N.1 g N.1.length := fun g => wt_congr fun s hs => by
      rw [List.getD_eq_getElem?_getD, tab_get? hs]; rfl
    rw [hgt] at hn
    unfold au_net_closure_b1
    dsimp only
    rcases nil_or_last l' with rfl | ⟨l1, x, rfl⟩
    · -- all is done
      refine Ok.iF (by simp) ?_
      have hall : ∀ s, s < N.1.length → (f s = true ↔ fr N l s) := fun s hs => by
        refine ⟨i2 s hs, fun ⟨y, hy, hc⟩ => ?_⟩
        have h1 := hl y hy
        have hcl := closed_cl (f := fun u => 0 ≤ u ∧ u < N.1.length ∧ f u.toNat = true) (fun s u hs ⟨row, h2, h3, h4⟩ => by
          have hm := List.mem_of_getElem? h3
          have ht := hN.t1 row hm u h4
          refine ⟨ht.1, ht.2, (i4 s.toNat (by omega) hs.2.2 u ?_).elim id fun h => by cases h⟩
          rw [List.getD_eq_getElem?_getD, h3]; exact h4) hc ⟨h1.1, h1.2, (i3 y hy).elim id fun h => by cases h⟩
        simpa using hcl.2.2
      have hres : cloD N l = stl N.1.length f := stl_congr fun s hs => by
        have := hall s hs
        by_cases h : fr N l s
        · simp [h, this.2 h]
        · have h2 : ¬ f s = true := fun h' => h (this.1 h')
          simp [h]; simpa using h2
      rw [hres]
      refine Ok.range (fun k x => x = stl k f) N.1.length rfl (by omega) (fun k x nx' hk hx hn' => ?_) (fun x nx' hx => ?_)
      · subst hx
        unfold au_net_closure_b2
        have hkl := stl_len k f
        refine Ok.iT (by dsimp only; rw [tab_len]; omega) (Ok.bndE (idx_tab hk) (Ok.bif (fun h => Ok.chk (by simp; unfold capN; omega) (hn' _ ?_)) fun h => hn' _ ?_))
        · unfold stl; rw [filter_range_succ, ints_app, if_pos h]; rfl
        · unfold stl; rw [filter_range_succ, if_neg (by rw [h]; decide), List.append_nil]
      · subst hx
        unfold au_net_closure_b2
        exact Ok.iF (by dsimp only; rw [tab_len]; omega) (Ok.some rfl)
    · have hx := i1 x (by simp)
      have hlx : ((l1 ++ [x]).length : Int) = l1.length + 1 := by simp
      have hpos : (((l1 ++ [x]).length : Nat) : Int) - 1 = l1.length := by omega
      have hlx' : (l1 ++ [x]).length = l1.length + 1 := by simp
      rw [hlx'] at i5
      have htk : (l1 ++ [x]).take ((((l1 ++ [x]).length : Nat) : Int) - 1).toNat = l1 := by rw [hpos, Int.toNat_natCast]; simp
      rw [htk]
      have hrow : N.1[x.toNat]? = some (N.1.getD x.toNat []) := by
        rw [List.getD_eq_getElem?_getD, List.getElem?_eq_getElem (by omega)]; rfl
      have i1' : ∀ y ∈ l1, (0 ≤ y ∧ y < N.1.length) ∧ fr N l y.toNat := fun y hy => i1 y (by simp [hy])
      refine Ok.iT (by omega) (Ok.chk (by unfold F64; omega) (Ok.idx? (a := x) (by omega) (by rw [hpos, Int.toNat_natCast]; simp) (Ok.chk (by unfold F64; omega) (Ok.chk (by omega) (Ok.bndE (idx_tabI hx.1.1 (by omega)) (Ok.bif (fun h => ?_) fun h => ?_))))))
      · have hfx : f x.toNat = false := by cases hh : f x.toNat <;> simp [hh] at h ⊢
        have hws := wt_set (D := N.1) hfx (k := N.1.length) (by omega)
        have hrm := List.mem_of_getElem? hrow
        have ht1 := hN.t1 _ hrm
        refine Ok.bndE (idx_tabI hx.1.1 (by omega)) (Ok.idx? hx.1.1 hrow ?_)
        generalize hR : N.1.getD x.toNat [] = row at hrow hws ht1
        refine Ok.chk (by unfold capN; omega) (hn (l1 ++ row, _) ⟨fun j => if j = x.toNat then true else f j, tab_set _ _ _ _, fun y hy => ?_, fun s hs h => ?_, fun y hy => ?_, fun s hs h u hu => ?_, ?_⟩ ?_)
        · rcases List.mem_append.1 hy with hy | hy
          · exact i1' y hy
          · have := ht1 y hy
            obtain ⟨z, hz, hcl⟩ := hx.2
            refine ⟨this, z, hz, ?_⟩
            rw [show ((x.toNat : Nat) : Int) = x by omega] at hcl
            rw [show ((y.toNat : Nat) : Int) = y by omega]
            exact hcl.trans (Cl.one (T := trF N.1) ⟨rfl, hx.1.1, row, hrow, hy⟩)
        · by_cases e : s = x.toNat
          · subst e; exact hx.2
          · dsimp only at h; rw [if_neg e] at h; exact i2 s hs h
        · by_cases e : y.toNat = x.toNat
          · exact .inl (by simp [e])
          · dsimp only; rw [if_neg e]
            rcases i3 y hy with h | h
            · exact .inl h
            · rcases List.mem_append.1 h with h | h
              · exact .inr (List.mem_append.2 (.inl h))
              · simp at h; subst h; exact absurd rfl e
        · by_cases e : u.toNat = x.toNat
          · exact .inl (by simp [e])
          · dsimp only at h ⊢; rw [if_neg e]
            by_cases e2 : s = x.toNat
            · subst e2; rw [hR] at hu; exact .inr (List.mem_append.2 (.inr hu))
            · rw [if_neg e2] at h
              rcases i4 s hs h u hu with h | h
              · exact .inl h
              · rcases List.mem_append.1 h with h | h
                · exact .inr (List.mem_append.2 (.inl h))
                · simp at h; subst h; exact absurd rfl e
        · dsimp only; rw [List.length_append]; omega
        · dsimp only
          rw [tab_set, hgt, List.length_append, hlx']; omega
      · have hfx : f x.toNat = true := by cases hh : f x.toNat <;> simp [hh] at h ⊢
        refine hn (l1, _) ⟨f, rfl, i1', i2, fun y hy => ?_, fun s hs h u hu => ?_, by dsimp only; omega⟩ (by dsimp only; rw [hgt, hlx']; omega)
        · rcases i3 y hy with h | h
          · exact .inl h
          · rcases List.mem_append.1 h with h | h
            · exact .inr h
            · simp at h; subst h; exact .inl hfx
        · rcases i4 s hs h u hu with h | h
          · exact .inl h
          · rcases List.mem_append.1 h with h | h
            · exact .inr h
            · simp at h; subst h; exact .inl hfx
theorem keyT_snoc (l : List Int) (x : Int) : keyT (l ++ [x]) = keyT l ++ (Lib.itoa x ++ ([44] : Str)) := by simp [keyT]
theorem key_ok {l : List Int} {fu : Nat} (hl : ∀ x ∈ l, 0 ≤ x ∧ x < 10000000000) (hll : l.length ≤ 100000000) (hf : 200000000 ≤ fu) : Ok (au_key fu l) (fun r => r = keyT l ∧ r.length ≤ 11 * l.length) := by
  unfold au_key
  refine Ok.range (fun k s => s = keyT (l.take k) ∧ s.length ≤ 11 * k) l.length ⟨rfl, by simp⟩ (by omega) (fun k s nx hk hJ hn => ?_) (fun s nx hJ => ?_)
  · obtain ⟨rfl, hs⟩ := hJ
    unfold au_key_b1
    dsimp only
    have hx := hl _ (List.getElem_mem hk)
    have hi : (Lib.itoa l[k]).length ≤ 10 := by
      have := itoa_len (u := l[k].toNat) (by omega)
      rwa [show ((l[k].toNat : Nat) : Int) = l[k] by omega] at this
    refine Ok.iT (by omega) (Ok.idxN hk (Ok.chk (by unfold F64; omega) (Ok.chk (by simp; unfold capN; omega) (Ok.chk (by rw [List.length_append]; simp only [List.length_cons, List.length_nil]; unfold capN; omega) (hn _ ⟨?_, ?_⟩)))))
    · rw [← List.take_append_getElem hk, keyT_snoc]
    · rw [List.length_append, List.length_append]; simp only [List.length_cons, List.length_nil]; omega
  · obtain ⟨rfl, hs⟩ := hJ
    unfold au_key_b1
    dsimp only
    rw [List.take_of_length_le (Nat.le_refl _)] at hs ⊢
    exact Ok.iF (by omega) (Ok.some ⟨rfl, hs⟩)
def setsD (N : NT) : List BSet := N.2.1.flatMap fun l => l.map (·.1)
theorem flat_len {α β : Type} {g : α → List β} {c : Nat} : ∀ {l : List α}, (∀ x ∈ l, (g x).length ≤ c) → (l.flatMap g).length ≤ l.length * c
  | [], _ => by simp
  | x :: l, h => by
    rw [List.flatMap_cons, List.length_append, List.length_cons, Nat.add_mul, Nat.one_mul]
    have := flat_len (g := g) (c := c) (l := l) fun y hy => h y (by simp [hy])
    have := h x (by simp)
    omega
theorem sets_ok {N : NT} {c fu : Nat} (hN : NB N c) (hc : c ≤ 4000) (hf : 200000000 ≤ fu) : Ok (au_net_sets fu N) (fun r => r = setsD N ∧ r.length ≤ 16000000) := by
  have heq := hN.eq
  have hlen := hN.len
  have hfl : ∀ k, k ≤ N.2.1.length → ((N.2.1.take k).flatMap fun l => l.map (·.1)).length ≤ 16000000 := fun k hk => by
    have h1 := flat_len (l := N.2.1.take k) (g := fun l => l.map (·.1)) (c := 4000) fun l hl => by have := hN.r2 l (List.mem_of_mem_take hl); simp; omega
    have h2 : (N.2.1.take k).length ≤ 4000 := by rw [List.length_take]; omega
    have := Nat.mul_le_mul h2 (Nat.le_refl 4000)
    omega
  unfold au_net_sets
  refine Ok.range (fun k s => s = (N.2.1.take k).flatMap fun l => l.map (·.1)) N.2.1.length rfl (by omega) (fun k s nx hk hJ hn => ?_) (fun s nx hJ => ?_)
  · subst hJ
    unfold au_net_sets_b1
    dsimp only
    refine Ok.iT (by omega) (Ok.idxN hk ?_)
    have hr := hN.r2 _ (List.getElem_mem hk)
    have h1 := hfl k (by omega)
    have hnx : (N.2.1.take (k + 1)).flatMap (fun l => l.map (·.1)) = (N.2.1.take k).flatMap (fun l => l.map (·.1)) ++ (N.2.1[k]).map (·.1) := by
      rw [← List.take_append_getElem hk, List.flatMap_append]; simp
    generalize (N.2.1.take k).flatMap (fun l => l.map (·.1)) = pre at h1 hnx
    generalize N.2.1[k] = row at hr hnx
    refine Ok.range (fun j s => s = pre ++ (row.take j).map (·.1)) row.length (by simp) (by omega) (fun j s nx2 hj hJ hn2 => ?_) (fun s nx2 hJ => ?_)
    · subst hJ
      unfold au_net_sets_b2
      dsimp only
      refine Ok.iT (by omega) (Ok.idxN hj (Ok.chk (by simp; unfold capN; omega) (hn2 _ ?_)))
      rw [show row.take (j + 1) = row.take j ++ [row[j]] from (List.take_append_getElem hj).symm, List.map_append, ← List.append_assoc]; rfl
    · subst hJ
      unfold au_net_sets_b2
      dsimp only
      rw [List.take_of_length_le (Nat.le_refl _)]
      exact Ok.iF (by omega) (hn _ hnx.symm)
  · subst hJ
    unfold au_net_sets_b1
    dsimp only
    have := hfl N.2.1.length (by omega)
    rw [List.take_of_length_le (Nat.le_refl _)] at this ⊢
    exact Ok.iF (by omega) (Ok.some ⟨rfl, this⟩)
end Go.GL
