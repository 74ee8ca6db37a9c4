/- Rows of rows that are all owned: the inner rows are a family at the end of what is owned. -/
import Derived.Test.YtjmbmodmepdmjaaDoorKitRx
namespace Go.GK
def cV : Cd Value where
  sz := 1
  Lay _ v cs := cs = [v] ∧ v.oneCell' = true
  len h := by rw [h.1]; rfl
  mono _ h := h
  one h := by rw [h.1]; intro u hu; simp at hu; subst hu; exact h.2
theorem layV {H : Hp} : ∀ {l xs : List Value}, LayL cV H l xs → xs = l
  | [], xs, h => h
  | a :: l, _, ⟨cs, ys, e, h1, h2⟩ => by subst e; rw [h1.1, layV h2]; rfl
theorem layV_of {H : Hp} : ∀ {l : List Value}, (∀ v ∈ l, v.oneCell' = true) → LayL cV H l l
  | [], _ => rfl
  | a :: l, h => ⟨[a], l, rfl, ⟨rfl, h a (by simp)⟩, layV_of fun v hv => h v (by simp [hv])⟩
section
variable {α : Type}
abbrev Fam (α : Type) := List (Value × List α × List Value)
def famR (e : TypeId) (sz : Nat) (F : Fam α) : List Res := F.map fun f => .row f.1 e sz f.2.1.length f.2.2
def famV (F : Fam α) : List Value := F.map (·.1)
structure FamOk (c : Cd α) (H : Hp) (D : List (List α)) (F : Fam α) : Prop where
  dat : F.map (·.2.1) = D
  lay : ∀ f ∈ F, LayL c H f.2.1 f.2.2
  one : ∀ f ∈ F, f.1.oneCell' = true
variable {c : Cd α} {H H' : Hp} {D : List (List α)} {F : Fam α}
theorem FamOk.mono (h : FamOk c H D F) (hl : H.le H') : FamOk c H' D F := ⟨h.dat, fun f hf => (h.lay f hf).mono hl, h.one⟩
theorem FamOk.nil : FamOk c H [] [] := ⟨rfl, nofun, nofun⟩
theorem FamOk.len (h : FamOk c H D F) : F.length = D.length := by rw [← h.dat]; simp
theorem FamOk.get {i : Int} {x : List α} (h : FamOk c H D F) (hx : idx D i = some x) : ∃ v xs, F[i.toNat]? = some (v, x, xs) ∧ LayL c H x xs ∧ idx (famV F) i = some v := by
  obtain ⟨⟨h0, h1⟩, h2⟩ := idx_some hx
  rw [← h.dat, List.getElem?_map] at h2
  cases hf : F[i.toNat]? with
  | none => rw [hf] at h2; cases h2
  | some f =>
    obtain ⟨v, y, xs⟩ := f
    rw [hf] at h2
    have e : y = x := by simpa using h2
    subst e
    refine ⟨v, xs, rfl, h.lay _ (List.mem_of_getElem? hf), ?_⟩
    unfold idx famV; rw [if_pos h0, List.getElem?_map, hf]; rfl
theorem FamOk.set {i : Nat} {v : Value} {y : List α} {xs : List Value} (h : FamOk c H D F) (hy : LayL c H y xs) (hv : v.oneCell' = true) : FamOk c H (D.set i y) (F.set i (v, y, xs)) := by
  refine ⟨by rw [List.map_set, h.dat], fun f hf => ?_, fun f hf => ?_⟩
  · rcases List.mem_or_eq_of_mem_set hf with hf | rfl
    · exact h.lay f hf
    · exact hy
  · rcases List.mem_or_eq_of_mem_set hf with hf | rfl
    · exact h.one f hf
    · exact hv
theorem FamOk.add (h : FamOk c H D F) : FamOk c H (D ++ [[]]) (F ++ [(.slice none 0 0, [], [])]) := by
  refine ⟨by simp [h.dat], fun f hf => ?_, fun f hf => ?_⟩
  · rcases List.mem_append.1 hf with hf | hf
    · exact h.lay f hf
    · simp at hf; subst hf; exact rfl
  · rcases List.mem_append.1 hf with hf | hf
    · exact h.one f hf
    · simp at hf; subst hf; rfl
theorem FamOk.row (h : FamOk c H D F) : LayL cV H (famV F) (famV F) := layV_of fun v hv => by
  simp only [famV, List.mem_map] at hv
  obtain ⟨f, hf, rfl⟩ := hv
  exact h.one f hf
theorem famV_set {i : Nat} {f : Value × List α × List Value} : famV (F.set i f) = (famV F).set i f.1 := by simp [famV, List.map_set]
theorem spl_set {xs : List Value} {i : Nat} {v : Value} (h : i < xs.length) : spl xs i [v] = xs.set i v := by
  unfold spl
  simp only [List.length_cons, List.length_nil]
  exact (List.set_eq_take_append_cons_drop (l := xs) (i := i) (a := v)).symm ▸ (by rw [if_pos h]; simp)
theorem famR_eraseIdx (e : TypeId) (sz : Nat) (i : Nat) : famR e sz (F.eraseIdx i) = (famR e sz F).eraseIdx i := by
  unfold famR
  induction F generalizing i with
  | nil => rfl
  | cons f F ih => cases i with
    | zero => rfl
    | succ i => simp [ih]
theorem famR_set (e : TypeId) (sz : Nat) (i : Nat) (f : Value × List α × List Value) : famR e sz (F.set i f) = (famR e sz F).set i (.row f.1 e sz f.2.1.length f.2.2) := by simp [famR, List.map_set]
theorem famR_get {e : TypeId} {sz i : Nat} {f : Value × List α × List Value} (h : F[i]? = some f) : (famR e sz F)[i]? = some (.row f.1 e sz f.2.1.length f.2.2) := by simp [famR, h]
variable {w : World} {A B R : List Res} {e : TypeId} {sz i : Nat} {f f' : Value × List α × List Value}
theorem lend_at (hi : F[i]? = some f) : (A ++ (famR e sz F ++ R))[A.length + i]? = some (.row f.1 e sz f.2.1.length f.2.2) := by
  have hlt : i < (famR e sz F).length := by have := (List.getElem?_eq_some_iff.1 hi).1; simpa [famR] using this
  rw [List.getElem?_append_right (by omega), Nat.add_sub_cancel_left, List.getElem?_append_left hlt]
  exact famR_get hi
theorem lend_erase (hi : F[i]? = some f) : (A ++ (famR e sz F ++ R)).eraseIdx (A.length + i) = A ++ (famR e sz (F.eraseIdx i) ++ R) := by
  have hlt : i < (famR e sz F).length := by have := (List.getElem?_eq_some_iff.1 hi).1; simpa [famR] using this
  rw [List.eraseIdx_append_of_length_le (by omega), Nat.add_sub_cancel_left, List.eraseIdx_append_of_lt_length hlt, famR_eraseIdx]
theorem SH.lend (hi : F[i]? = some f) (h : SH w H (A ++ (famR e sz F ++ R))) : SH w H (.row f.1 e sz f.2.1.length f.2.2 :: (A ++ (famR e sz (F.eraseIdx i) ++ R))) := by
  have := h.front (lend_at (A := A) (e := e) (sz := sz) (R := R) hi)
  rwa [lend_erase hi] at this
theorem SH.unlend (hi : F[i]? = some f) (h : SH w H (.row f'.1 e sz f'.2.1.length f'.2.2 :: (A ++ (famR e sz (F.eraseIdx i) ++ R)))) : SH w H (A ++ (famR e sz (F.set i f') ++ R)) := by
  have hlt : i < F.length := (List.getElem?_eq_some_iff.1 hi).1
  have hlt' : i < (famR e sz F).length := by simpa [famR] using hlt
  rw [← lend_erase (A := A) (e := e) (sz := sz) (R := R) hi] at h
  have := h.back (by simp; omega)
  rw [List.set_append_right _ _ (by omega), Nat.add_sub_cancel_left, List.set_append_left _ _ hlt'] at this
  rwa [famR_set]
theorem SH.grow (h : SH w H (A ++ (famR e sz F ++ R))) : SH w H (A ++ (famR e sz (F ++ [(.slice none 0 0, [], [])]) ++ R)) := by
  have h1 := h.nilRow e sz
  have hl : (famR e sz F).length = F.length := by simp [famR]
  refine h1.pick (fun j => if j < A.length + F.length then j + 1 else if j = A.length + F.length then 0 else j) (fun j s hs => ?_) (fun j k hj hk he => ?_)
  · have e1 : A ++ (famR e sz (F ++ [(.slice none 0 0, [], [])]) ++ R) = (A ++ famR e sz F) ++ (.row (.slice none 0 0) e sz 0 [] :: R) := by simp [famR]
    have e2 : A ++ (famR e sz F ++ R) = (A ++ famR e sz F) ++ R := by simp
    rw [e1] at hs
    rw [e2]
    have hlen : (A ++ famR e sz F).length = A.length + F.length := by simp [famR]
    by_cases h1 : j < A.length + F.length
    · rw [if_pos h1, List.getElem?_cons_succ]
      rw [List.getElem?_append_left (by omega)] at hs ⊢
      exact hs
    · rw [if_neg h1]
      by_cases h2 : j = A.length + F.length
      · rw [if_pos h2]
        rw [List.getElem?_append_right (by omega), hlen, h2, Nat.sub_self] at hs
        simpa using hs
      · rw [if_neg h2]
        obtain ⟨q, rfl⟩ : ∃ q, j = A.length + F.length + q + 1 := ⟨j - (A.length + F.length) - 1, by omega⟩
        rw [List.getElem?_append_right (by omega), hlen, show A.length + F.length + q + 1 - (A.length + F.length) = q + 1 by omega, List.getElem?_cons_succ] at hs
        rw [List.getElem?_cons_succ, List.getElem?_append_right (by omega), hlen, show A.length + F.length + q - (A.length + F.length) = q by omega]
        exact hs
  · split at he <;> split at he <;> (try split at he) <;> (try split at he) <;> omega
end

section
variable {α β : Type} {c : Cd α} {d : Cd β} {H : Hp} {D : List (List α)} {F : Fam α} {G : Fam β} {w : World} {A B R : List Res} {e e0 : TypeId} {sz sz0 i : Nat} {f f' : Value × List α × List Value}
variable {P : Program} {Q : Exit → Act → World → Prop} {n : Nat} {L : List (Nat × Value)} {x : Exit} {cd : Code}
theorem SH.lend2 (hi : F[i]? = some f) (h : SH w H (A ++ (famR e0 sz0 G ++ (famR e sz F ++ R)))) : SH w H (.row f.1 e sz f.2.1.length f.2.2 :: (A ++ (famR e0 sz0 G ++ (famR e sz (F.eraseIdx i) ++ R)))) := by
  rw [← List.append_assoc] at h ⊢; exact h.lend hi
theorem SH.unlend2 (hi : F[i]? = some f) (h : SH w H (.row f'.1 e sz f'.2.1.length f'.2.2 :: (A ++ (famR e0 sz0 G ++ (famR e sz (F.eraseIdx i) ++ R))))) : SH w H (A ++ (famR e0 sz0 G ++ (famR e sz (F.set i f') ++ R))) := by
  rw [← List.append_assoc] at h ⊢; exact h.unlend hi
theorem SH.grow2 (h : SH w H (A ++ (famR e0 sz0 G ++ (famR e sz F ++ R)))) : SH w H (A ++ (famR e0 sz0 G ++ (famR e sz (F ++ [(.slice none 0 0, [], [])]) ++ R))) := by
  rw [← List.append_assoc] at h ⊢; exact h.grow
theorem Wp.lend (A : List Res) (hi : F[i]? = some f) (k : Wp P cd Q n L H (.row f.1 e sz f.2.1.length f.2.2 :: (A ++ (famR e sz (F.eraseIdx i) ++ R)))) : Wp P cd Q n L H (A ++ (famR e sz F ++ R)) := fun a w hf hs => k a w hf (hs.lend hi)
theorem Wp.lend2 (A : List Res) (hi : F[i]? = some f) (k : Wp P cd Q n L H (.row f.1 e sz f.2.1.length f.2.2 :: (A ++ (famR e0 sz0 G ++ (famR e sz (F.eraseIdx i) ++ R))))) : Wp P cd Q n L H (A ++ (famR e0 sz0 G ++ (famR e sz F ++ R))) := fun a w hf hs => k a w hf (hs.lend2 hi)
theorem At.unlend (A : List Res) (f' : Value × List α × List Value) (hi : F[i]? = some f) (k : At Q x n L H (A ++ (famR e sz (F.set i f') ++ R))) : At Q x n L H (.row f'.1 e sz f'.2.1.length f'.2.2 :: (A ++ (famR e sz (F.eraseIdx i) ++ R))) := fun a w hf hs => k a w hf (hs.unlend hi)
theorem At.unlend2 (A : List Res) (f' : Value × List α × List Value) (hi : F[i]? = some f) (k : At Q x n L H (A ++ (famR e0 sz0 G ++ (famR e sz (F.set i f') ++ R)))) : At Q x n L H (.row f'.1 e sz f'.2.1.length f'.2.2 :: (A ++ (famR e0 sz0 G ++ (famR e sz (F.eraseIdx i) ++ R)))) := fun a w hf hs => k a w hf (hs.unlend2 hi)
theorem SH.freezeFam : ∀ {F : Fam α} {H : Hp}, (∀ f ∈ F, LayL c H f.2.1 f.2.2) → SH w H (A ++ (famR e c.sz F ++ R)) → ∃ H', H.le H' ∧ SH w H' (A ++ R) ∧ ∀ f ∈ F, SlD c H' f.2.1 f.1
  | [], H, _, h => ⟨H, Hp.le.refl H, h, nofun⟩
  | f :: F, H, hl, h => by
    have hi : (A ++ (famR e c.sz (f :: F) ++ R))[A.length]? = some (.row f.1 e c.sz f.2.1.length f.2.2) := by simp [famR]
    have hle := h.rowLe hi
    obtain ⟨H1, g1, g2, g3⟩ := h.freeze hi
    have he : (A ++ (famR e c.sz (f :: F) ++ R)).eraseIdx A.length = A ++ (famR e c.sz F ++ R) := by
      rw [List.eraseIdx_append_of_length_le (Nat.le_refl _), Nat.sub_self]; rfl
    rw [he] at g2
    obtain ⟨H2, k1, k2, k3⟩ := SH.freezeFam (fun f' hf' => (hl f' (by simp [hf'])).mono g1) g2
    have hs : SlD c H1 f.2.1 f.1 := SlD.of g3 rfl ((hl f (by simp)).mono g1) hle
    refine ⟨H2, g1.trans k1, k2, fun f' hf' => ?_⟩
    rcases List.mem_cons.1 hf' with rfl | hf'
    · exact hs.mono k1
    · exact k3 f' hf'
theorem famLay : ∀ {F : Fam α}, (∀ f ∈ F, SlD c H f.2.1 f.1) → LayL (cL c) H (F.map (·.2.1)) (famV F)
  | [], _ => rfl
  | f :: F, h => ⟨[f.1], famV F, rfl, ⟨f.1, rfl, h f (by simp)⟩, famLay fun g hg => h g (by simp [hg])⟩
theorem Wp.freezeFam (A : List Res) (hN : FamOk c H D F) (k : ∀ H', H.le H' → LayL (cL c) H' D (famV F) → Wp P cd Q n L H' (A ++ R)) : Wp P cd Q n L H (A ++ (famR e c.sz F ++ R)) := fun a w hf hs => by
  obtain ⟨H', h1, h2, h3⟩ := hs.freezeFam hN.lay
  have h4 := famLay h3
  rw [hN.dat] at h4
  exact k H' h1 h4 a w hf h2
theorem famV_len (h : FamOk c H D F) : (famV F).length = D.length := by rw [← h.len]; simp [famV]
end

section
variable {w : World} {H : Hp} {A B R : List Res}
theorem SH.rot (h : SH w H (A ++ (B ++ R))) : SH w H (B ++ (A ++ R)) := by
  refine h.pick (fun j => if j < B.length then A.length + j else if j < B.length + A.length then j - B.length else j) (fun j s hs => ?_) (fun j k hj hk he => ?_)
  · by_cases h1 : j < B.length
    · rw [if_pos h1]
      rw [List.getElem?_append_left h1] at hs
      rw [List.getElem?_append_right (by omega), Nat.add_sub_cancel_left, List.getElem?_append_left h1]; exact hs
    · rw [if_neg h1]
      rw [List.getElem?_append_right (by omega)] at hs
      by_cases h2 : j < B.length + A.length
      · rw [if_pos h2]
        rw [List.getElem?_append_left (by omega)] at hs ⊢
        exact hs
      · rw [if_neg h2]
        rw [List.getElem?_append_right (by omega)] at hs
        rw [List.getElem?_append_right (by omega), List.getElem?_append_right (by omega)]
        rw [show j - A.length - B.length = j - B.length - A.length by omega]; exact hs
  · split at he <;> split at he <;> (try split at he) <;> (try split at he) <;> omega
end

section
variable {α : Type} {F : Fam α} {i : Nat} {f : Value × List α × List Value}
theorem famSet (v : Value) (y : List α) (ys : List Value) : (famV F).set i v = famV (F.set i (v, y, ys)) := by rw [famV_set]
theorem famSpl (v : Value) (y : List α) (ys : List Value) (hi : F[i]? = some f) : spl (famV F) (i * 1 + 0) [v] = famV (F.set i (v, y, ys)) := by
  rw [Nat.mul_one, Nat.add_zero, spl_set (by have := (List.getElem?_eq_some_iff.1 hi).1; simpa [famV] using this)]
  exact famSet v y ys
theorem At.rowOne {Q : Exit → Act → World → Prop} {n : Nat} {L : List (Nat × Value)} {H : Hp} {O : List Res} {x : Exit} {i size m : Nat} {v : Value} {e : TypeId} {xs : List Value} (hi : O[i]? = some (.row v e size m xs)) (k : v.oneCell' = true → At Q x n L H O) : At Q x n L H O := fun a w hf hs => k (hs.rowOne hi) a w hf hs
end

theorem Seg.freezeFam {α : Type} {c : Cd α} {P : Program} {Q : Exit → Act → World → Prop} {ops : Array Oper} {rest : List Oper} {n : Nat} {L : List (Nat × Value)} {H : Hp} {R : List Res} {D : List (List α)} {F : Fam α} {e : TypeId} (A : List Res) (hN : FamOk c H D F) (k : ∀ H', H.le H' → LayL (cL c) H' D (famV F) → Seg P ops Q rest n L H' (A ++ R)) : Seg P ops Q rest n L H (A ++ (famR e c.sz F ++ R)) := fun a w hf hs => by
  obtain ⟨H', h1, h2, h3⟩ := hs.freezeFam hN.lay
  have h4 := famLay h3
  rw [hN.dat] at h4
  exact k H' h1 h4 a w hf h2
end Go.GK
