/- Regular expressions as data. -/
import Derived.Test.YtjmbmodmepdmjaaDoorKitSort
namespace Go.GK
inductive Rx where
  | mk (kind : Int) (set : BSet) (subs : List Rx)
def Rx.kind : Rx → Int | .mk k _ _ => k
def Rx.set : Rx → BSet | .mk _ p _ => p
def Rx.subs : Rx → List Rx | .mk _ _ l => l
mutual
def LayRx (H : Hp) : Rx → List Value → Prop
  | .mk k p subs, cs => ∃ v xs, cs = .int .i64 k :: ((bcs p).toList ++ [v]) ∧ Sl H v 6 subs.length xs ∧ subs.length ≤ 9223372036854775807 ∧ LayRxL H subs xs
def LayRxL (H : Hp) : List Rx → List Value → Prop
  | [], xs => xs = []
  | a :: l, xs => ∃ cs ys, xs = cs ++ ys ∧ LayRx H a cs ∧ LayRxL H l ys
end
theorem LayRx.len {H : Hp} {a : Rx} {cs : List Value} (h : LayRx H a cs) : cs.length = 6 := by
  cases a with
  | mk k p subs => simp only [LayRx] at h; obtain ⟨v, xs, rfl, _⟩ := h; rfl
theorem LayRx.one {H : Hp} {a : Rx} {cs : List Value} (h : LayRx H a cs) : ∀ u ∈ cs, u.oneCell' = true := by
  cases a with
  | mk k p subs =>
    simp only [LayRx] at h; obtain ⟨v, xs, rfl, hs, _⟩ := h
    intro u hu
    simp only [List.mem_cons, List.mem_append, List.not_mem_nil, or_false] at hu
    rcases hu with rfl | hu | rfl
    · rfl
    · exact bcs_one _ u (by simpa using hu)
    · rcases hs.sl with ⟨rfl, _⟩ | ⟨a, cap, rfl⟩ <;> rfl
mutual
theorem LayRx.mono {H H' : Hp} (hl : H.le H') : ∀ (a : Rx) (cs : List Value), LayRx H a cs → LayRx H' a cs
  | .mk k p subs, cs, h => by
    simp only [LayRx] at h ⊢
    obtain ⟨v, xs, e, h1, h2, h3⟩ := h
    exact ⟨v, xs, e, h1.mono hl, h2, LayRxL.mono hl subs xs h3⟩
theorem LayRxL.mono {H H' : Hp} (hl : H.le H') : ∀ (l : List Rx) (xs : List Value), LayRxL H l xs → LayRxL H' l xs
  | [], _, h => by simp only [LayRxL] at h ⊢; exact h
  | a :: l, _, h => by
    simp only [LayRxL] at h ⊢
    obtain ⟨cs, ys, e, h1, h2⟩ := h
    exact ⟨cs, ys, e, LayRx.mono hl a cs h1, LayRxL.mono hl l ys h2⟩
end
def cRx : Cd Rx where
  sz := 6
  Lay := LayRx
  len h := LayRx.len h
  mono hl h := LayRx.mono hl _ _ h
  one h := LayRx.one h
theorem layRxL {H : Hp} : ∀ {l : List Rx} {xs : List Value}, LayRxL H l xs ↔ LayL cRx H l xs
  | [], xs => by simp only [LayRxL, LayL]
  | a :: l, xs => by
    simp only [LayRxL, LayL]
    constructor
    · rintro ⟨cs, ys, e, h1, h2⟩; exact ⟨cs, ys, e, h1, layRxL.1 h2⟩
    · rintro ⟨cs, ys, e, h1, h2⟩; exact ⟨cs, ys, e, h1, layRxL.2 h2⟩
theorem layRx {H : Hp} {a : Rx} {cs : List Value} : cRx.Lay H a cs ↔ ∃ v, cs = [.int .i64 a.kind, w64 (word a.set 0), w64 (word a.set 1), w64 (word a.set 2), w64 (word a.set 3), v] ∧ SlD cRx H a.subs v := by
  cases a with
  | mk k p subs =>
    show LayRx H (.mk k p subs) cs ↔ _
    simp only [LayRx]
    constructor
    · rintro ⟨v, xs, e, h1, h2, h3⟩; exact ⟨v, e, ⟨xs, h1, layRxL.1 h3⟩, h2⟩
    · rintro ⟨v, e, ⟨xs, h1, h3⟩, h2⟩; exact ⟨v, xs, e, h1, h2, layRxL.2 h3⟩
theorem layRx_mk {H : Hp} {k : Int} {p : BSet} {l : List Rx} {v : Value} (h : SlD cRx H l v) : cRx.Lay H (.mk k p l) [.int .i64 k, w64 (word p 0), w64 (word p 1), w64 (word p 2), w64 (word p 3), v] := layRx.2 ⟨v, rfl, h⟩
end Go.GK
