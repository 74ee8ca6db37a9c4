/- Nets of words: what a part of a net does for the rest. -/
import Derived.Test.YtjmbmodmepdmjabDoorLawLang
namespace Go.GL
/- macro transitions: from a state, with a word, to a state -/
abbrev Tr := Int → List UInt8 → Int → Prop
inductive Cl (T : Tr) : Tr
  | refl (s : Int) : Cl T s [] s
  | step {s t u : Int} {v w : List UInt8} : T s v t → Cl T t w u → Cl T s (v ++ w) u
theorem Cl.one {T : Tr} {s t : Int} {v : List UInt8} (h : T s v t) : Cl T s v t := by
  have := Cl.step h (Cl.refl t)
  rwa [List.append_nil] at this
theorem Cl.trans {T : Tr} {s t u : Int} {v w : List UInt8} (h : Cl T s v t) (k : Cl T t w u) : Cl T s (v ++ w) u := by
  induction h with
  | refl s => exact k
  | step h1 _ ih => rw [List.append_assoc]; exact .step h1 (ih k)
theorem Cl.mono {T T' : Tr} (h : ∀ s w u, T s w u → Cl T' s w u) {s u : Int} {w : List UInt8} (k : Cl T s w u) : Cl T' s w u := by
  induction k with
  | refl s => exact .refl s
  | step h1 _ ih => exact (h _ _ _ h1).trans ih
def Un (T R : Tr) : Tr := fun s w u => T s w u ∨ R s w u
def Mac (a : Int) (A : List UInt8 → Prop) (b : Int) : Tr := fun s w u => s = a ∧ u = b ∧ A w
/- a word that is taken apart into words of B -/
inductive Rep (B : List UInt8 → Prop) : List UInt8 → Prop
  | nil : Rep B []
  | cons {v w} : B v → Rep B w → Rep B (v ++ w)
theorem Rep.app {B : List UInt8 → Prop} {v w : List UInt8} (h : Rep B v) (k : Rep B w) : Rep B (v ++ w) := by
  induction h with
  | nil => exact k
  | cons h1 _ ih => rw [List.append_assoc]; exact .cons h1 ih
/- T and T' agree on the states outside of the private ones -/
def Same (priv : Int → Prop) (T T' : Tr) : Prop := ∀ s w u, ¬ priv s → ¬ priv u → (Cl T s w u ↔ Cl T' s w u)
/- a relation among states outside -/
def Out (priv : Int → Prop) (R : Tr) : Prop := ∀ s w u, R s w u → ¬ priv s ∧ ¬ priv u
/- what a net of private states does for the rest: it is one macro step -/
def Does (priv : Int → Prop) (D : Tr) (a : Int) (A : List UInt8 → Prop) (b : Int) : Prop :=
  ∀ R : Tr, Out priv R → Same priv (Un R D) (Un R (Mac a A b))
/- a state in the middle is struck out -/
theorem elim {R : Tr} {m a b : Int} {A B C : List UInt8 → Prop} (hR : Out (fun s => s = m) R) (ha : a ≠ m) (hb : b ≠ m) :
    Same (fun s => s = m) (Un (Un (Un R (Mac a A m)) (Mac m B m)) (Mac m C b)) (Un R (Mac a (fun w => ∃ x y z, w = x ++ (y ++ z) ∧ A x ∧ Rep B y ∧ C z) b)) := by
  intro s w u hs hu
  let T := Un (Un (Un R (Mac a A m)) (Mac m B m)) (Mac m C b)
  let T' := Un R (Mac a (fun w => ∃ x y z, w = x ++ (y ++ z) ∧ A x ∧ Rep B y ∧ C z) b)
  constructor
  · intro h
    -- from outside: as T'; from the middle: words of B, then C
    have key : ∀ {s u : Int} {w : List UInt8}, Cl T s w u → u ≠ m → (s ≠ m → Cl T' s w u) ∧ (s = m → ∃ y z r, w = y ++ (z ++ r) ∧ Rep B y ∧ C z ∧ Cl T' b r u) := by
      intro s u w h
      induction h with
      | refl s => exact fun hu => ⟨fun _ => .refl s, fun h => absurd h hu⟩
      | @step s t u v w h1 h2 ih =>
        intro hu
        obtain ⟨i1, i2⟩ := ih hu
        constructor
        · intro hs
          rcases h1 with ((h1 | ⟨rfl, rfl, h1⟩) | ⟨rfl, rfl, h1⟩) | ⟨rfl, rfl, h1⟩
          · exact .step (.inl h1) (i1 (hR _ _ _ h1).2)
          · obtain ⟨y, z, r, rfl, e1, e2, e3⟩ := i2 rfl
            have : Cl T' s (v ++ (y ++ z)) b := Cl.one (.inr ⟨rfl, rfl, v, y, z, rfl, h1, e1, e2⟩)
            have := this.trans e3
            simpa using this
          · exact absurd rfl hs
          · exact absurd rfl hs
        · rintro rfl
          rcases h1 with ((h1 | ⟨rfl, _, h1⟩) | ⟨_, rfl, h1⟩) | ⟨_, rfl, h1⟩
          · exact absurd rfl (hR _ _ _ h1).1
          · exact absurd rfl ha
          · obtain ⟨y, z, r, rfl, e1, e2, e3⟩ := i2 rfl
            exact ⟨v ++ y, z, r, by simp, .cons h1 e1, e2, e3⟩
          · exact ⟨[], v, w, by simp, .nil, h1, i1 hb⟩
    exact (key h hu).1 hs
  · refine Cl.mono fun s w u h => ?_
    rcases h with h | ⟨rfl, rfl, x, y, z, rfl, h1, h2, h3⟩
    · exact Cl.one (.inl (.inl (.inl h)))
    · have e1 : Cl T s x m := Cl.one (.inl (.inl (.inr ⟨rfl, rfl, h1⟩)))
      have e2 : Cl T m y m := by
        clear e1 h1 h3
        induction h2 with
        | nil => exact .refl m
        | cons h4 _ ih => exact .step (.inl (.inr ⟨rfl, rfl, h4⟩)) ih
      exact e1.trans (e2.trans (Cl.one (.inr ⟨rfl, rfl, h3⟩)))
theorem Same.trans {p q : Int → Prop} {T T' T'' : Tr} (h : Same p T T') (k : Same q T' T'') : Same (fun s => p s ∨ q s) T T'' := fun s w u hs hu =>
  (h s w u (fun e => hs (.inl e)) (fun e => hu (.inl e))).trans (k s w u (fun e => hs (.inr e)) (fun e => hu (.inr e)))
theorem Same.weak {p q : Int → Prop} {T T' : Tr} (h : Same p T T') (hq : ∀ s, p s → q s) : Same q T T' := fun s w u hs hu => h s w u (fun e => hs (hq s e)) (fun e => hu (hq u e))
theorem Same.congr {p : Int → Prop} {T T' U U' : Tr} (h : Same p T T') (e : ∀ s w u, T s w u ↔ U s w u) (e' : ∀ s w u, T' s w u ↔ U' s w u) : Same p U U' := by
  have h1 : T = U := by funext s w u; exact propext (e s w u)
  have h2 : T' = U' := by funext s w u; exact propext (e' s w u)
  subst h1; subst h2; exact h
theorem Does.congr {p : Int → Prop} {D D' : Tr} {a b : Int} {A A' : List UInt8 → Prop} (h : Does p D a A b) (e : ∀ s w u, D s w u ↔ D' s w u) (e' : ∀ w, A w ↔ A' w) : Does p D' a A' b := fun R hR =>
  (h R hR).congr (fun s w u => by simp only [Un, e]) (fun s w u => by simp only [Un, Mac, e'])
theorem Does.weak {p q : Int → Prop} {D : Tr} {a b : Int} {A : List UInt8 → Prop} (h : Does p D a A b) (hq : ∀ s, p s → q s) : Does q D a A b := fun R hR =>
  (h R fun s w u r => ⟨fun e => (hR s w u r).1 (hq s e), fun e => (hR s w u r).2 (hq u e)⟩).weak hq
theorem Does.mac (a b : Int) (A : List UInt8 → Prop) (p : Int → Prop) : Does p (Mac a A b) a A b := fun _ _ _ _ _ _ _ => Iff.rfl
theorem un_swap (R E M : Tr) (s : Int) (w : List UInt8) (u : Int) : Un (Un R E) M s w u ↔ Un (Un R M) E s w u := by
  constructor
  · rintro ((h | h) | h)
    · exact .inl (.inl h)
    · exact .inr h
    · exact .inl (.inr h)
  · rintro ((h | h) | h)
    · exact .inl (.inl h)
    · exact .inr h
    · exact .inl (.inr h)
/- two nets side by side -/
theorem Does.alt {p q : Int → Prop} {D E : Tr} {a b : Int} {A B : List UInt8 → Prop} (hD : Does p D a A b) (hE : Does q E a B b) (hpE : Out p E) (hqa : ¬ q a) (hqb : ¬ q b) :
    Does (fun s => p s ∨ q s) (Un D E) a (fun w => A w ∨ B w) b := fun R hR => by
  have h1 := hD (Un R E) fun s w u h => by
    rcases h with h | h
    · exact ⟨fun e => (hR _ _ _ h).1 (.inl e), fun e => (hR _ _ _ h).2 (.inl e)⟩
    · exact hpE _ _ _ h
  have h2 := hE (Un R (Mac a A b)) fun s w u h => by
    rcases h with h | ⟨rfl, rfl, _⟩
    · exact ⟨fun e => (hR _ _ _ h).1 (.inr e), fun e => (hR _ _ _ h).2 (.inr e)⟩
    · exact ⟨hqa, hqb⟩
  refine ((h1.congr (U := Un R (Un D E)) (U' := Un (Un R (Mac a A b)) E) (fun s w u => ?_) (fun s w u => ?_)).trans h2).congr (fun _ _ _ => Iff.rfl) (fun s w u => ?_)
  · constructor
    · rintro ((h | h) | h)
      · exact .inl h
      · exact .inr (.inr h)
      · exact .inr (.inl h)
    · rintro (h | h | h)
      · exact .inl (.inl h)
      · exact .inr h
      · exact .inl (.inr h)
  · exact un_swap _ _ _ s w u
  · simp only [Un, Mac]
    constructor
    · rintro ((h | ⟨h1, h2, h3⟩) | ⟨h1, h2, h3⟩)
      · exact .inl h
      · exact .inr ⟨h1, h2, .inl h3⟩
      · exact .inr ⟨h1, h2, .inr h3⟩
    · rintro (h | ⟨h1, h2, h3 | h3⟩)
      · exact .inl (.inl h)
      · exact .inl (.inr ⟨h1, h2, h3⟩)
      · exact .inr ⟨h1, h2, h3⟩
theorem Rep_none {w : List UInt8} : Rep (fun _ => False) w ↔ w = [] := by
  constructor
  · intro h
    cases h with
    | nil => rfl
    | cons h _ => exact h.elim
  · rintro rfl; exact .nil
/- one behind the other -/
theorem Does.seq {p q : Int → Prop} {D E : Tr} {a m b : Int} {A B : List UInt8 → Prop} (hD : Does p D a A m) (hE : Does q E m B b) (hpE : Out p E) (hqa : ¬ q a) (hqm : ¬ q m) (ham : a ≠ m) (hbm : b ≠ m) :
    Does (fun s => p s ∨ q s ∨ s = m) (Un D E) a (fun w => ∃ x y, w = x ++ y ∧ A x ∧ B y) b := fun R hR => by
  have hRp : Out p R := fun s w u h => ⟨fun e => (hR _ _ _ h).1 (.inl e), fun e => (hR _ _ _ h).2 (.inl e)⟩
  have hRq : Out q R := fun s w u h => ⟨fun e => (hR _ _ _ h).1 (.inr (.inl e)), fun e => (hR _ _ _ h).2 (.inr (.inl e))⟩
  have hRm : Out (fun s => s = m) R := fun s w u h => ⟨fun e => (hR _ _ _ h).1 (.inr (.inr e)), fun e => (hR _ _ _ h).2 (.inr (.inr e))⟩
  have h1 := hD (Un R E) fun s w u h => by
    rcases h with h | h
    · exact hRp _ _ _ h
    · exact hpE _ _ _ h
  have h2 := hE (Un R (Mac a A m)) fun s w u h => by
    rcases h with h | ⟨rfl, rfl, _⟩
    · exact hRq _ _ _ h
    · exact ⟨hqa, hqm⟩
  have h3 := elim (R := R) (m := m) (a := a) (b := b) (A := A) (B := fun _ => False) (C := B) hRm ham hbm
  have e1 : Same p (Un R (Un D E)) (Un (Un R (Mac a A m)) E) := h1.congr (fun s w u => by
    constructor
    · rintro ((h | h) | h)
      · exact .inl h
      · exact .inr (.inr h)
      · exact .inr (.inl h)
    · rintro (h | h | h)
      · exact .inl (.inl h)
      · exact .inr h
      · exact .inl (.inr h)) (fun s w u => un_swap _ _ _ s w u)
  have e3 : Same (fun s => s = m) (Un (Un R (Mac a A m)) (Mac m B b)) (Un R (Mac a (fun w => ∃ x y, w = x ++ y ∧ A x ∧ B y) b)) := h3.congr (fun s w u => by
    constructor
    · rintro (((h | h) | ⟨_, _, h⟩) | h)
      · exact .inl (.inl h)
      · exact .inl (.inr h)
      · exact h.elim
      · exact .inr h
    · rintro ((h | h) | h)
      · exact .inl (.inl (.inl h))
      · exact .inl (.inl (.inr h))
      · exact .inr h) (fun s w u => by
    simp only [Un, Mac, Rep_none]
    constructor
    · rintro (h | ⟨h1, h2, x, y, z, rfl, h3, rfl, h5⟩)
      · exact .inl h
      · exact .inr ⟨h1, h2, x, z, by simp, h3, h5⟩
    · rintro (h | ⟨h1, h2, x, y, rfl, h3, h4⟩)
      · exact .inl h
      · exact .inr ⟨h1, h2, x, [], y, by simp, h3, rfl, h4⟩)
  exact (e1.trans (h2.trans e3)).weak fun s h => by
    rcases h with h | h | h
    · exact .inl h
    · exact .inr (.inl h)
    · exact .inr (.inr h)
/- a loop -/
theorem Does.star {p : Int → Prop} {D : Tr} {a m b : Int} {B : List UInt8 → Prop} (hD : Does p D m B m) (hpa : ¬ p a) (hpb : ¬ p b) (hpm : ¬ p m) (ham : a ≠ m) (hbm : b ≠ m) :
    Does (fun s => p s ∨ s = m) (Un (Un (Mac a (fun w => w = []) m) (Mac m (fun w => w = []) b)) D) a (Rep B) b := fun R hR => by
  have hRp : Out p R := fun s w u h => ⟨fun e => (hR _ _ _ h).1 (.inl e), fun e => (hR _ _ _ h).2 (.inl e)⟩
  have hRm : Out (fun s => s = m) R := fun s w u h => ⟨fun e => (hR _ _ _ h).1 (.inr e), fun e => (hR _ _ _ h).2 (.inr e)⟩
  have h1 := hD (Un R (Un (Mac a (fun w => w = []) m) (Mac m (fun w => w = []) b))) fun s w u h => by
    rcases h with h | ⟨rfl, rfl, _⟩ | ⟨rfl, rfl, _⟩
    · exact hRp _ _ _ h
    · exact ⟨hpa, hpm⟩
    · exact ⟨hpm, hpb⟩
  have h3 := elim (R := R) (m := m) (a := a) (b := b) (A := fun w => w = []) (B := B) (C := fun w => w = []) hRm ham hbm
  have e1 : Same p (Un R (Un (Un (Mac a (fun w => w = []) m) (Mac m (fun w => w = []) b)) D)) (Un (Un (Un R (Mac a (fun w => w = []) m)) (Mac m B m)) (Mac m (fun w => w = []) b)) := h1.congr (fun s w u => by
    constructor
    · rintro ((h | h) | h)
      · exact .inl h
      · exact .inr (.inl h)
      · exact .inr (.inr h)
    · rintro (h | h | h)
      · exact .inl (.inl h)
      · exact .inl (.inr h)
      · exact .inr h) (fun s w u => by
    constructor
    · rintro ((h | h | h) | h)
      · exact .inl (.inl (.inl h))
      · exact .inl (.inl (.inr h))
      · exact .inr h
      · exact .inl (.inr h)
    · rintro (((h | h) | h) | h)
      · exact .inl (.inl h)
      · exact .inl (.inr (.inl h))
      · exact .inr h
      · exact .inl (.inr (.inr h)))
  have e3 := h3.congr (fun _ _ _ => Iff.rfl) (U' := Un R (Mac a (Rep B) b)) (fun s w u => by
    simp only [Un, Mac]
    constructor
    · rintro (h | ⟨h1, h2, x, y, z, rfl, rfl, h4, rfl⟩)
      · exact .inl h
      · exact .inr ⟨h1, h2, by simpa using h4⟩
    · rintro (h | ⟨h1, h2, h3⟩)
      · exact .inl h
      · exact .inr ⟨h1, h2, [], w, [], by simp, rfl, h3, rfl⟩)
  exact e1.trans e3
theorem Does.none (p : Int → Prop) (a b : Int) : Does p (fun _ _ _ => False) a (fun _ => False) b := fun R _ s w u _ _ => by
  have : Un R (fun _ _ _ => False) = Un R (Mac a (fun _ => False) b) := by
    funext s w u; simp [Un, Mac]
  rw [this]
/- the language of a net that does A from a to b -/
theorem Does.lang {p : Int → Prop} {D : Tr} {a b : Int} {A : List UInt8 → Prop} (h : Does p D a A b) (hab : a ≠ b) (hpa : ¬ p a) (hpb : ¬ p b) (w : List UInt8) : Cl D a w b ↔ A w := by
  have h1 := h (fun _ _ _ => False) (fun _ _ _ h => h.elim) a w b hpa hpb
  have e1 : Un (fun _ _ _ => False) D = D := by funext s w u; simp [Un]
  have e2 : Un (fun _ _ _ => False) (Mac a A b) = Mac a A b := by funext s w u; simp [Un]
  rw [e1, e2] at h1
  rw [h1]
  clear h1
  refine ⟨fun h => ?_, fun h => Cl.one ⟨rfl, rfl, h⟩⟩
  generalize hs : a = s at h
  generalize hu : b = u at h
  cases h with
  | refl => subst hs; exact absurd hu.symm hab
  | step g1 g2 =>
    obtain ⟨_, rfl, g1⟩ := g1
    cases g2 with
    | refl => simpa using g1
    | step g3 _ => subst hs; exact absurd (g3.1.symm.trans hu.symm) hab
end Go.GL
