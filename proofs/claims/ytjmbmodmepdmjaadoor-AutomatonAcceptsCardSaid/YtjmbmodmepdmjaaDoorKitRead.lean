/- What an argument that can be read as data lies as; the whole heap ahead of the call as what stays. -/
import Derived.Test.YtjmbmodmepdmjaaDoorKitMem
import Derived.ProofKit
import Derived.OpenShut
import Derived.Carry
import Derived.Deep.Slices
namespace Go.GK
open Go.RowKit Go.Deep
def Hp.of (W : World) : Hp := { at_ := fun b => W.heap[b]?, os := W.os, output := W.output, tape := W.tape }
theorem SH.start (W : World) : SH W (Hp.of W) [] :=
  ⟨fun _ _ h => h, rfl, rfl, rfl, fun i r h => by simp at h, fun i r b h => by simp at h, fun i j r r' b h => by simp at h⟩
theorem SH.below {W w' : World} {O : List Res} (h : SH w' (Hp.of W) O) : Below W.heap.size W w' := by
  have hb : ∀ k, k < W.heap.size → w'.heap[k]? = W.heap[k]? := fun k hk => by
    have := h.imm k W.heap[k] (by simp [Hp.of, hk])
    rw [this]; simp [hk]
  refine ⟨h.os, h.tape, h.output, ?_, hb⟩
  rcases Nat.eq_zero_or_pos W.heap.size with h0 | h0
  · omega
  · have := hb (W.heap.size - 1) (by omega)
    rw [show W.heap[W.heap.size - 1]? = some W.heap[W.heap.size - 1] by simp] at this
    have := (Array.getElem?_eq_some_iff.1 this).1
    omega
section
variable {H : Type} {enc : TypeId × Value → H} {P : Program} {w : World} {base : Nat} {spare : Nat → Bool} {held : Bool}
theorem HCell.of_cell {a : Addr} {u : Value} (h : w.cell? a = some u) : HCell (Hp.of w) (.pointer (some a)) u := by
  unfold World.cell? at h
  cases hb : w.heap[a.block]? with
  | none => simp [hb] at h
  | some o =>
    cases o with
    | cells c t fr =>
      simp only [hb] at h
      cases hs : a.spot with
      | none => simp [hs] at h; exact ⟨a, c, t, fr, rfl, hs, hb, h⟩
      | some x => simp [hs] at h
    | _ => simp [hb] at h
theorem choose_list {α : Type} {Q : Nat → α → Prop} : ∀ n : Nat, (∀ i, i < n → ∃ a, Q i a) → ∃ l : List α, l.length = n ∧ ∀ i a, l[i]? = some a → Q i a
  | 0, _ => ⟨[], rfl, fun i a h => by simp at h⟩
  | n + 1, h => by
    obtain ⟨l, h1, h2⟩ := choose_list n fun i hi => h i (by omega)
    obtain ⟨a, ha⟩ := h n (by omega)
    refine ⟨l ++ [a], by simp [h1], fun i b hb => ?_⟩
    by_cases hi : i < n
    · rw [List.getElem?_append_left (by omega)] at hb; exact h2 i b hb
    · have e : i = n := by have := (List.getElem?_eq_some_iff.1 hb).1; simp at this; omega
      subst e
      rw [List.getElem?_append_right (by omega)] at hb
      simp [h1] at hb; subst hb; exact ha
theorem sl_of_trod {α : Type} (en : α → List Value) {t e : TypeId} {size fuel : Nat} {v : Value} {x : DataW H × List MemPlace} (ht : P.underlying t = some (.slice e)) (hc : P.cellsOf e = size) (hen : ∀ a, (en a).length = size)
    (R : α → Prop) (hel : ∀ n cs y, cs.length = size → DataW.trod enc P w base spare held n e cs = some y → ∃ a, cs = en a ∧ R a) (h : DataW.trod enc P w base spare held fuel t [v] = some x) :
    ∃ l : List α, Sl (Hp.of w) v size l.length (l.flatMap en) ∧ l.length ≤ maxLen ∧ ∀ a ∈ l, R a := by
  rcases open_slice ht h with ⟨h0, _⟩ | ⟨a, len, cap, m, n, D, Pl, h0, hb, hl, hm, hmm, _, hx⟩
  · simp at h0; subst h0
    exact ⟨[], Sl.nil _ _, by simp [maxLen], fun a h => by simp at h⟩
  · simp at h0; subst h0
    have hlm : len ≤ m := by rw [hmm]; split <;> omega
    obtain ⟨l, h1, h2⟩ := choose_list (Q := fun i (b : α) => R b ∧ ∀ j u, (en b)[j]? = some u → w.cell? (a.add (i * size + j)) = some u) len fun i hi => by
      obtain ⟨cs', hcs, htr⟩ := hx i (by omega)
      obtain ⟨hbl, hlen, hcell⟩ := World.cells?_some hcs
      rw [hc] at hlen
      obtain ⟨b, rfl, hR⟩ := hel n cs' _ (by omega) htr
      refine ⟨b, hR, fun j u hj => ?_⟩
      have hj' : j < size := by rw [← hen b]; exact (List.getElem?_eq_some_iff.1 hj).1
      have := hcell j (by rw [hc]; exact hj')
      rw [addr_add_add, hc, hj] at this
      exact this
    refine ⟨l, ⟨flat_len en size hen l, .inr ⟨a, cap, by rw [h1]⟩, fun k u hk => ?_⟩, by omega, fun b hb' => ?_⟩
    · have hlt : k < l.length * size := by rw [← flat_len en size hen l]; exact (List.getElem?_eq_some_iff.1 hk).1
      have hs0 : 0 < size := Nat.pos_of_ne_zero fun h => by subst h; simp at hlt
      have hi : k / size < l.length := Nat.div_lt_of_lt_mul (by rw [Nat.mul_comm]; exact hlt)
      have hjl : k % size < size := Nat.mod_lt _ hs0
      have hk2 : k = k / size * size + k % size := by rw [Nat.mul_comm]; exact (Nat.div_add_mod k size).symm
      have hg := flat_get en size hen l (k / size) (k % size) l[k / size] (by simp [hi]) hjl
      rw [← hk2, hk] at hg
      have := (h2 (k / size) l[k / size] (by simp [hi])).2 (k % size) u hg.symm
      rw [← hk2] at this
      exact HCell.of_cell this
    · obtain ⟨i, hi, rfl⟩ := List.getElem_of_mem hb'
      exact (h2 i _ (by simp [hi])).1
end
end Go.GK
