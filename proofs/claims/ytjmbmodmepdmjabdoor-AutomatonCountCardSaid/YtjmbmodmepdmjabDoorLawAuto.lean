/- The laws of the automaton, in plain words: each is true at fuel that is enough. -/
import Derived.Test.YtjmbmodmepdmjabDoorLawWord
import Derived.Test.YtjmbmodmepdmjabDoorLawAlive
import Derived.Test.YtjmbmodmepdmjabDoorK3
namespace Go.GL
open Go.GK
theorem alive_ok {fu : Nat} (h : 2000 ≤ fu) : Ok (w05_alive fu) (fun r => r = true) := by
  obtain ⟨n, rfl⟩ : ∃ n, fu = n + 2000 := ⟨fu - 2000, by omega⟩
  exact Ok.of_eq (alive_at n) rfl
theorem Ok.alive {fu : Nat} (h : 2000 ≤ fu) : Ok (GK.bnd (w05_alive fu) fun x => Option.some x) (fun r => r = true) := Ok.bnd (alive_ok h) fun _ h => Ok.some h
theorem ShT.mono {l : Tb} {m n : Nat} (h : ShT l m) (hn : m ≤ n) : ShT l n := ⟨by have := h.1; omega, fun s hs => by have := h.2 s hs; omega⟩
theorem notT {b : Bool} (h : (!b) = false) : b = true := by cases b <;> simp at h ⊢
theorem byT_of {H : Hp} {l : Tb} {v : Value} (h : SlD (cP cB (cL (cP cU8 (cP cU8 cI64)))) H l v) : ByT l := by
  intro s hs e he
  obtain ⟨cs, c1, c2, _, _, h2⟩ := h.mem s hs
  obtain ⟨v', _, h3⟩ := h2
  obtain ⟨cs', d1, d2, _, h4, f1, f2, _, h5, _⟩ := h3.mem e he
  exact ⟨h4.2, h5.2⟩
end Go.GL
