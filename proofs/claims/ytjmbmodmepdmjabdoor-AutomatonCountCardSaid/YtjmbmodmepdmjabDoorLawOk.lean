/- What is to be shown of a plain function: that it gives a result, and of what kind. -/
import Derived.Test.YtjmbmodmepdmjabDoorK2
namespace Go.GL
open Go.GK
def Ok {α : Type} (x : Option α) (P : α → Prop) : Prop := ∃ r, x = some r ∧ P r
section
variable {α β X R : Type} {P Q : R → Prop}
theorem Ok.some {r : R} (h : P r) : Ok (some r) P := ⟨r, rfl, h⟩
theorem Ok.mono {x : Option R} (h : Ok x P) (k : ∀ r, P r → Q r) : Ok x Q := by obtain ⟨r, e, h⟩ := h; exact ⟨r, e, k r h⟩
theorem Ok.eq {x : Option R} {r : R} (h : Ok x (fun a => a = r)) : x = .some r := by obtain ⟨_, e, rfl⟩ := h; exact e
theorem Ok.of_eq {x : Option R} {r : R} (h : x = .some r) (hp : P r) : Ok x P := ⟨r, h, hp⟩
theorem Ok.chk {p : Prop} [Decidable p] {x : Option R} (hp : p) (h : Ok x P) : Ok (chk p x) P := by unfold GK.chk; rw [if_pos hp]; exact h
theorem Ok.bnd {x : Option α} {Q : α → Prop} {k : α → Option R} (h : Ok x Q) (hk : ∀ a, Q a → Ok (k a) P) : Ok (bnd x k) P := by
  obtain ⟨r, rfl, h⟩ := h; exact hk r h
theorem Ok.bndE {x : Option α} {a : α} {k : α → Option R} (h : x = .some a) (hk : Ok (k a) P) : Ok (GK.bnd x k) P := by
  subst h; exact hk
theorem Ok.bif {b : Bool} {x y : Option R} (ht : b = true → Ok x P) (hf : b = false → Ok y P) : Ok (bif b then x else y) P := by
  cases b
  · exact hf rfl
  · exact ht rfl
theorem Ok.ite {p : Prop} [Decidable p] {x y : Option R} (ht : p → Ok x P) (hf : ¬ p → Ok y P) : Ok (bif decide p then x else y) P :=
  Ok.bif (fun h => ht (of_decide_eq_true h)) (fun h => hf (of_decide_eq_false h))
theorem Ok.T {b : Bool} {x y : Option R} (h : b = true) (hx : Ok x P) : Ok (bif b then x else y) P := by subst h; exact hx
theorem Ok.F {b : Bool} {x y : Option R} (h : b = false) (hy : Ok y P) : Ok (bif b then x else y) P := by subst h; exact hy
theorem Ok.iT {p : Prop} [Decidable p] {x y : Option R} (h : p) (hx : Ok x P) : Ok (bif decide p then x else y) P := Ok.T (decide_eq_true h) hx
theorem Ok.iF {p : Prop} [Decidable p] {x y : Option R} (h : ¬ p) (hy : Ok y P) : Ok (bif decide p then x else y) P := Ok.F (decide_eq_false h) hy
theorem idx_nat {l : List α} {n : Nat} (h : n < l.length) : idx l (n : Int) = .some l[n] := by
  unfold idx; rw [if_pos (by omega)]; simp [h]
theorem idx_int {l : List α} {i : Int} (h0 : 0 ≤ i) (h1 : i < (l.length : Nat)) : idx l i = .some (l[i.toNat]'(by omega)) := by
  unfold idx; rw [if_pos h0]; exact List.getElem?_eq_getElem _
theorem Ok.idxN {l : List α} {n : Nat} {k : α → Option R} (h : n < l.length) (hk : Ok (k l[n]) P) : Ok (GK.bnd (idx l (n : Int)) k) P := Ok.bndE (idx_nat h) hk
theorem Ok.idxI {l : List α} {i : Int} {k : α → Option R} (h0 : 0 ≤ i) (h1 : i < (l.length : Nat)) (hk : Ok (k (l[i.toNat]'(by omega))) P) : Ok (GK.bnd (idx l i) k) P := Ok.bndE (idx_int h0 h1) hk
theorem Ok.idx? {l : List α} {i : Int} {a : α} {k : α → Option R} (h0 : 0 ≤ i) (h1 : l[i.toNat]? = .some a) (hk : Ok (k a) P) : Ok (GK.bnd (idx l i) k) P :=
  Ok.bndE (by unfold idx; rw [if_pos h0]; exact h1) hk
theorem idxS_nat {s : Str} {n : Nat} (h : n < s.length) : idxS s (n : Int) = .some ((s[n].toNat : Nat) : Int) := by
  unfold idxS; rw [if_pos (by omega)]; simp [h]
theorem Ok.idxS {s : Str} {n : Nat} {k : Int → Option R} (h : n < s.length) (hk : Ok (k ((s[n].toNat : Nat) : Int)) P) : Ok (GK.bnd (idxS s (n : Int)) k) P := Ok.bndE (idxS_nat h) hk
/- loops: an invariant, and a number that falls -/
theorem Ok.loop {b : X → (X → Option R) → Option R} (I : X → Prop) (m : X → Nat) : ∀ {fu : Nat} {x : X}, I x → m x < fu →
    (∀ x nx, I x → m x < fu → (∀ x', I x' → m x' < m x → Ok (nx x') P) → Ok (b x nx) P) → Ok (loopK fu b x) P
  | 0, _, _, h, _ => by omega
  | fu + 1, x, hI, hm, step => by
    show Ok (b x (loopK fu b)) P
    refine step x _ hI hm fun x' hI' hm' => Ok.loop I m hI' (by omega) fun y nx hy hmy h => step y nx hy (by omega) h
/- the counter last, a list in front -/
theorem Ok.range {S : Type} {b : S × Nat → (S × Nat → Option R) → Option R} (J : Nat → S → Prop) (n : Nat) {fu : Nat} {s : S} (h0 : J 0 s) (hf : n < fu)
    (step : ∀ k s nx, k < n → J k s → (∀ s', J (k + 1) s' → Ok (nx (s', k + 1)) P) → Ok (b (s, k) nx) P)
    (stop : ∀ s nx, J n s → Ok (b (s, n) nx) P) : Ok (loopK fu b (s, 0)) P := by
  refine Ok.loop (fun x => x.2 ≤ n ∧ J x.2 x.1) (fun x => n - x.2) ⟨by simp, h0⟩ (by simpa using hf) fun x nx hI _ hn => ?_
  obtain ⟨s, k⟩ := x
  obtain ⟨h1, h2⟩ := hI
  rcases Nat.lt_or_ge k n with h | h
  · exact step k s nx h h2 fun s' hs => hn (s', k + 1) ⟨by show k + 1 ≤ n; omega, hs⟩ (by show n - (k + 1) < n - k; omega)
  · have h1 : k ≤ n := h1
    obtain rfl : k = n := by omega
    exact stop s nx h2
theorem Ok.rangeG {S : Type} (mk : S → Nat → X) {b : X → (X → Option R) → Option R} (J : Nat → S → Prop) (n : Nat)
    (step : ∀ k s nx, k < n → J k s → (∀ s', J (k + 1) s' → Ok (nx (mk s' (k + 1))) P) → Ok (b (mk s k) nx) P)
    (stop : ∀ s nx, J n s → Ok (b (mk s n) nx) P) : ∀ (fu k : Nat) (s : S), J k s → k ≤ n → n - k < fu → Ok (loopK fu b (mk s k)) P
  | 0, _, _, _, _, h => by omega
  | fu + 1, k, s, hJ, hk, hf => by
    show Ok (b (mk s k) (loopK fu b)) P
    rcases Nat.lt_or_ge k n with h | h
    · exact step k s _ h hJ fun s' hs => Ok.rangeG mk J n step stop fu (k + 1) s' hs h (by omega)
    · obtain rfl : k = n := by omega
      exact stop s _ hJ
theorem Ok.range2 {S T : Type} {b : S × T × Nat → (S × T × Nat → Option R) → Option R} (J : Nat → S → T → Prop) (n : Nat) {fu : Nat} {s : S} {t : T} (h0 : J 0 s t) (hf : n < fu)
    (step : ∀ k s t nx, k < n → J k s t → (∀ s' t', J (k + 1) s' t' → Ok (nx (s', t', k + 1)) P) → Ok (b (s, t, k) nx) P)
    (stop : ∀ s t nx, J n s t → Ok (b (s, t, n) nx) P) : Ok (loopK fu b (s, t, 0)) P :=
  Ok.rangeG (fun (s : S × T) k => (s.1, s.2, k)) (fun k s => J k s.1 s.2) n (fun k s nx hk hJ hn => step k s.1 s.2 nx hk hJ fun s' t' h => hn (s', t') h) (fun s nx hJ => stop s.1 s.2 nx hJ) fu 0 (s, t) h0 (by omega) (by omega)
theorem Ok.range3 {S T U : Type} {b : S × T × U × Nat → (S × T × U × Nat → Option R) → Option R} (J : Nat → S → T → U → Prop) (n : Nat) {fu : Nat} {s : S} {t : T} {u : U} (h0 : J 0 s t u) (hf : n < fu)
    (step : ∀ k s t u nx, k < n → J k s t u → (∀ s' t' u', J (k + 1) s' t' u' → Ok (nx (s', t', u', k + 1)) P) → Ok (b (s, t, u, k) nx) P)
    (stop : ∀ s t u nx, J n s t u → Ok (b (s, t, u, n) nx) P) : Ok (loopK fu b (s, t, u, 0)) P :=
  Ok.rangeG (fun (s : S × T × U) k => (s.1, s.2.1, s.2.2, k)) (fun k s => J k s.1 s.2.1 s.2.2) n (fun k s nx hk hJ hn => step k s.1 s.2.1 s.2.2 nx hk hJ fun s' t' u' h => hn (s', t', u') h) (fun s nx hJ => stop s.1 s.2.1 s.2.2 nx hJ) fu 0 (s, t, u) h0 (by omega) (by omega)
theorem Ok.count {b : Nat → (Nat → Option R) → Option R} (J : Nat → Prop) (n : Nat) {fu : Nat} (h0 : J 0) (hf : n < fu)
    (step : ∀ k nx, k < n → J k → (J (k + 1) → Ok (nx (k + 1)) P) → Ok (b k nx) P)
    (stop : ∀ nx, J n → Ok (b n nx) P) : Ok (loopK fu b 0) P := by
  refine Ok.loop (fun x => x ≤ n ∧ J x) (fun x => n - x) ⟨by simp, h0⟩ (by simpa using hf) fun k nx hI _ hn => ?_
  obtain ⟨h1, h2⟩ := hI
  rcases Nat.lt_or_ge k n with h | h
  · exact step k nx h h2 fun hs => hn (k + 1) ⟨by omega, hs⟩ (by omega)
  · obtain rfl : k = n := by omega
    exact stop nx h2
end
end Go.GL
