/- What the net of an expression does. -/
import Derived.Test.YtjmbmodmepdmjabDoorLawRx
namespace Go.GL
open Go.GK
abbrev NT := (List (List Int)) × (List (List (BSet × Int × Int))) × Int
def trF (D : List (List Int)) : Tr := fun s w u => w = [] ∧ 0 ≤ s ∧ ∃ l, D[s.toNat]? = some l ∧ u ∈ l
def trO (E : List (List (BSet × Int × Int))) : Tr := fun s w u => ∃ c : UInt8, w = [c] ∧ 0 ≤ s ∧ ∃ l, E[s.toNat]? = some l ∧ ∃ e ∈ l, e.1 c.toNat = true ∧ e.2.1 = u
def trN (N : NT) : Tr := Un (trF N.1) (trO N.2.1)
structure NB (N : NT) (c : Nat) : Prop where
  eq : N.1.length = N.2.1.length
  len : N.1.length ≤ c
  r1 : ∀ l ∈ N.1, l.length ≤ c
  r2 : ∀ l ∈ N.2.1, l.length ≤ c
  p0 : 0 ≤ N.2.2
  p1 : N.2.2 ≤ c
  t1 : ∀ l ∈ N.1, ∀ u ∈ l, 0 ≤ u ∧ u < N.1.length
  t2 : ∀ l ∈ N.2.1, ∀ e ∈ l, 0 ≤ e.2.1 ∧ e.2.1 < N.1.length
  q2 : ∀ l ∈ N.2.1, ∀ e ∈ l, 0 ≤ e.2.2 ∧ e.2.2 < N.2.2
def Pv (N N' : NT) (s : Int) : Prop := (N.1.length : Int) ≤ s ∧ s < N'.1.length
structure Add (N N' : NT) (a : Int) (A : List UInt8 → Prop) (b : Int) : Prop where
  len : N.1.length ≤ N'.1.length
  ex : ∃ Dl : Tr, (∀ s w u, trN N' s w u ↔ Un (trN N) Dl s w u) ∧ (∀ s w u, Dl s w u → (s = a ∨ Pv N N' s) ∧ (u = b ∨ Pv N N' u)) ∧ Does (Pv N N') Dl a A b
theorem NB.mono {N : NT} {c c' : Nat} (h : NB N c) (hc : c ≤ c') : NB N c' :=
  ⟨h.eq, by have := h.len; omega, fun l hl => by have := h.r1 l hl; omega, fun l hl => by have := h.r2 l hl; omega, h.p0, by have := h.p1; omega, h.t1, h.t2, h.q2⟩
theorem Add.congr {N N' : NT} {a b : Int} {A A' : List UInt8 → Prop} (h : Add N N' a A b) (e : ∀ w, A w ↔ A' w) : Add N N' a A' b := by
  obtain ⟨Dl, h1, h2, h3⟩ := h.ex
  exact ⟨h.len, Dl, h1, h2, h3.congr (fun _ _ _ => Iff.rfl) e⟩
theorem Add.none (N : NT) (a b : Int) : Add N N a (fun _ => False) b :=
  ⟨Nat.le_refl _, fun _ _ _ => False, fun s w u => by simp [Un], fun _ _ _ h => h.elim, Does.none _ a b⟩
theorem Add.alt {N N1 N2 : NT} {a b : Int} {A B : List UInt8 → Prop} (h : Add N N1 a A b) (k : Add N1 N2 a B b) (ha : a < N.1.length) (hb : b < N.1.length) : Add N N2 a (fun w => A w ∨ B w) b := by
  obtain ⟨D, d1, d2, d3⟩ := h.ex
  obtain ⟨E, e1, e2, e3⟩ := k.ex
  have l1 := h.len
  have l2 := k.len
  refine ⟨by omega, Un D E, fun s w u => ?_, fun s w u hu => ?_, (Does.alt d3 e3 (fun s w u hu => ?_) ?_ ?_).weak fun s hs => ?_⟩
  · rw [e1]; unfold Un; rw [d1]; unfold Un; exact or_assoc
  · unfold Pv at *
    rcases hu with hu | hu
    · have := d2 s w u hu; omega
    · have := e2 s w u hu; omega
  · have := e2 s w u hu
    unfold Pv at *; omega
  · unfold Pv; omega
  · unfold Pv; omega
  · unfold Pv at *; omega
theorem Add.seq {N N0 N1 N2 : NT} {a m b : Int} {A B : List UInt8 → Prop} (h0 : ∀ s w u, trN N0 s w u ↔ trN N s w u) (hl : N0.1.length = N.1.length + 1) (hm : m = N.1.length)
    (h : Add N0 N1 a A m) (k : Add N1 N2 m B b) (ha : a < N.1.length) (hb : b < N.1.length) : Add N N2 a (fun w => ∃ x y, w = x ++ y ∧ A x ∧ B y) b := by
  obtain ⟨D, d1, d2, d3⟩ := h.ex
  obtain ⟨E, e1, e2, e3⟩ := k.ex
  have l1 := h.len
  have l2 := k.len
  refine ⟨by omega, Un D E, fun s w u => ?_, fun s w u hu => ?_, (Does.seq d3 e3 (fun s w u hu => ?_) ?_ ?_ ?_ ?_).weak fun s hs => ?_⟩
  · rw [e1]; unfold Un; rw [d1]; unfold Un; rw [h0]; exact or_assoc
  · unfold Pv at *
    rcases hu with hu | hu
    · have := d2 s w u hu; omega
    · have := e2 s w u hu; omega
  · have := e2 s w u hu
    unfold Pv at *; omega
  · unfold Pv; omega
  · unfold Pv; omega
  · omega
  · omega
  · unfold Pv at *; omega
theorem Add.star {N N0 N1 : NT} {a m b : Int} {B : List UInt8 → Prop} (h0 : ∀ s w u, trN N0 s w u ↔ Un (trN N) (Un (Mac a (fun w => w = []) m) (Mac m (fun w => w = []) b)) s w u) (hl : N0.1.length = N.1.length + 1) (hm : m = N.1.length)
    (h : Add N0 N1 m B m) (ha : a < N.1.length) (hb : b < N.1.length) : Add N N1 a (Rep B) b := by
  obtain ⟨D, d1, d2, d3⟩ := h.ex
  have l1 := h.len
  refine ⟨by omega, Un (Un (Mac a (fun w => w = []) m) (Mac m (fun w => w = []) b)) D, fun s w u => ?_, fun s w u hu => ?_, (Does.star d3 ?_ ?_ ?_ ?_ ?_).weak fun s hs => ?_⟩
  · rw [d1]; unfold Un; rw [h0]; unfold Un; exact or_assoc
  · unfold Pv at *
    rcases hu with (⟨rfl, rfl, _⟩ | ⟨rfl, rfl, _⟩) | hu
    · omega
    · omega
    · have := d2 s w u hu; omega
  · unfold Pv; omega
  · unfold Pv; omega
  · unfold Pv; omega
  · omega
  · omega
  · unfold Pv at *; omega
/- tables with one more row, with one more entry -/
theorem get_snoc {α : Type} {D : List (List α)} {s : Nat} {l : List α} : (D ++ [[]])[s]? = some l ↔ D[s]? = some l ∨ s = D.length ∧ l = [] := by
  rcases Nat.lt_trichotomy s D.length with h | h | h
  · rw [List.getElem?_append_left h]
    exact ⟨.inl, fun h' => h'.elim id fun h' => by omega⟩
  · subst h
    rw [List.getElem?_append_right (Nat.le_refl _), Nat.sub_self]
    simp [eq_comm]
  · rw [List.getElem?_eq_none (by simp; omega), List.getElem?_eq_none (by omega)]
    simp; omega
theorem trF_snoc (D : List (List Int)) (s : Int) (w : List UInt8) (u : Int) : trF (D ++ [[]]) s w u ↔ trF D s w u := by
  unfold trF
  constructor
  · rintro ⟨h1, h2, l, h3, h4⟩
    rcases get_snoc.1 h3 with h3 | ⟨_, rfl⟩
    · exact ⟨h1, h2, l, h3, h4⟩
    · cases h4
  · rintro ⟨h1, h2, l, h3, h4⟩
    exact ⟨h1, h2, l, get_snoc.2 (.inl h3), h4⟩
theorem trO_snoc (E : List (List (BSet × Int × Int))) (s : Int) (w : List UInt8) (u : Int) : trO (E ++ [[]]) s w u ↔ trO E s w u := by
  unfold trO
  constructor
  · rintro ⟨c, h1, h2, l, h3, e, h4, h5⟩
    rcases get_snoc.1 h3 with h3 | ⟨_, rfl⟩
    · exact ⟨c, h1, h2, l, h3, e, h4, h5⟩
    · cases h4
  · rintro ⟨c, h1, h2, l, h3, h4⟩
    exact ⟨c, h1, h2, l, get_snoc.2 (.inl h3), h4⟩
theorem get_put {α : Type} {D : List (List α)} {a s : Nat} {x l : List α} {y : α} (hx : D[a]? = some x) : (D.set a (x ++ [y]))[s]? = some l ↔ (s = a ∧ l = x ++ [y]) ∨ (s ≠ a ∧ D[s]? = some l) := by
  have hl := (List.getElem?_eq_some_iff.1 hx).1
  rw [List.getElem?_set]
  by_cases h : a = s
  · subst h; simp [hl]; exact ⟨fun h => h.symm, fun h => h.symm⟩
  · rw [if_neg h]
    exact ⟨fun h' => .inr ⟨fun e => h e.symm, h'⟩, fun h' => h'.elim (fun e => absurd e.1.symm h) fun e => e.2⟩
theorem trF_put {D : List (List Int)} {a : Int} {x : List Int} {t : Int} (ha : 0 ≤ a) (hx : D[a.toNat]? = some x) (s : Int) (w : List UInt8) (u : Int) : trF (D.set a.toNat (x ++ [t])) s w u ↔ Un (trF D) (Mac a (fun w => w = []) t) s w u := by
  unfold trF Un Mac
  constructor
  · rintro ⟨h1, h2, l, h3, h4⟩
    rcases (get_put hx).1 h3 with ⟨h5, rfl⟩ | ⟨_, h5⟩
    · have : s = a := by omega
      subst this
      rcases List.mem_append.1 h4 with h4 | h4
      · exact .inl ⟨h1, h2, x, hx, h4⟩
      · simp at h4; exact .inr ⟨rfl, h4, h1⟩
    · exact .inl ⟨h1, h2, l, h5, h4⟩
  · rintro (⟨h1, h2, l, h3, h4⟩ | ⟨rfl, rfl, h1⟩)
    · by_cases h : s.toNat = a.toNat
      · rw [h, hx] at h3; cases h3
        exact ⟨h1, h2, x ++ [t], (get_put hx).2 (.inl ⟨h, rfl⟩), List.mem_append.2 (.inl h4)⟩
      · exact ⟨h1, h2, l, (get_put hx).2 (.inr ⟨h, h3⟩), h4⟩
    · exact ⟨h1, ha, x ++ [u], (get_put hx).2 (.inl ⟨rfl, rfl⟩), by simp⟩
theorem trO_put {E : List (List (BSet × Int × Int))} {a : Int} {x : List (BSet × Int × Int)} {p : BSet} {t q : Int} (ha : 0 ≤ a) (hx : E[a.toNat]? = some x) (s : Int) (w : List UInt8) (u : Int) :
    trO (E.set a.toNat (x ++ [(p, t, q)])) s w u ↔ Un (trO E) (Mac a (fun w => ∃ c : UInt8, w = [c] ∧ p c.toNat = true) t) s w u := by
  unfold trO Un Mac
  constructor
  · rintro ⟨c, h1, h2, l, h3, e, h4, h6⟩
    rcases (get_put hx).1 h3 with ⟨h5, rfl⟩ | ⟨_, h5⟩
    · have : s = a := by omega
      subst this
      rcases List.mem_append.1 h4 with h4 | h4
      · exact .inl ⟨c, h1, h2, x, hx, e, h4, h6⟩
      · simp at h4; subst h4; exact .inr ⟨rfl, h6.2.symm, c, h1, h6.1⟩
    · exact .inl ⟨c, h1, h2, l, h5, e, h4, h6⟩
  · rintro (⟨c, h1, h2, l, h3, e, h4, h6⟩ | ⟨rfl, rfl, c, h1, h6⟩)
    · by_cases h : s.toNat = a.toNat
      · rw [h, hx] at h3; cases h3
        exact ⟨c, h1, h2, _, (get_put hx).2 (.inl ⟨h, rfl⟩), e, List.mem_append.2 (.inl h4), h6⟩
      · exact ⟨c, h1, h2, l, (get_put hx).2 (.inr ⟨h, h3⟩), e, h4, h6⟩
    · exact ⟨c, h1, ha, _, (get_put hx).2 (.inl ⟨rfl, rfl⟩), (p, u, q), by simp, h6, rfl⟩
theorem mem_put {α : Type} {D : List (List α)} {a : Nat} {x l : List α} {y : α} (hx : D[a]? = some x) (h : l ∈ D.set a (x ++ [y])) : l ∈ D ∨ l = x ++ [y] := by
  obtain ⟨s, hs⟩ := List.mem_iff_getElem?.1 h
  rcases (get_put hx).1 hs with ⟨_, rfl⟩ | ⟨_, h⟩
  · exact .inr rfl
  · exact .inl (List.mem_of_getElem? h)
/- the net with one more state -/
theorem NB.snoc {N : NT} {c : Nat} (h : NB N c) : NB (N.1 ++ [[]], N.2.1 ++ [[]], N.2.2) (c + 1) := by
  refine ⟨by simp [h.eq], by have := h.len; simp; omega, fun l hl => ?_, fun l hl => ?_, h.p0, by have := h.p1; simp only; omega, fun l hl u hu => ?_, fun l hl e he => ?_, fun l hl e he => ?_⟩
  · rcases List.mem_append.1 hl with hl | hl
    · have := h.r1 l hl; omega
    · simp at hl; subst hl; simp
  · rcases List.mem_append.1 hl with hl | hl
    · have := h.r2 l hl; omega
    · simp at hl; subst hl; simp
  · rcases List.mem_append.1 hl with hl | hl
    · have := h.t1 l hl u hu; simp; omega
    · simp at hl; subst hl; cases hu
  · rcases List.mem_append.1 hl with hl | hl
    · have := h.t2 l hl e he; simp; omega
    · simp at hl; subst hl; cases he
  · rcases List.mem_append.1 hl with hl | hl
    · exact h.q2 l hl e he
    · simp at hl; subst hl; cases he
theorem NB.free {N : NT} {c : Nat} (h : NB N c) {a : Nat} {x : List Int} {t : Int} (hx : N.1[a]? = some x) (h0 : 0 ≤ t) (h1 : t < N.1.length) : NB (N.1.set a (x ++ [t]), N.2.1, N.2.2) (c + 1) := by
  have hm := List.mem_of_getElem? hx
  refine ⟨by simp [h.eq], by have := h.len; simp; omega, fun l hl => ?_, fun l hl => by have := h.r2 l hl; omega, h.p0, by have := h.p1; simp only; omega, fun l hl u hu => ?_, fun l hl e he => by have := h.t2 l hl e he; simp; omega, h.q2⟩
  · rcases mem_put hx hl with hl | rfl
    · have := h.r1 l hl; omega
    · have := h.r1 x hm; simp; omega
  · rw [List.length_set]
    rcases mem_put hx hl with hl | rfl
    · exact h.t1 l hl u hu
    · rcases List.mem_append.1 hu with hu | hu
      · exact h.t1 x hm u hu
      · simp at hu; subst hu; exact ⟨h0, h1⟩
theorem NB.on {N : NT} {c : Nat} (h : NB N c) {a : Nat} {x : List (BSet × Int × Int)} {t : Int} {p : BSet} (hx : N.2.1[a]? = some x) (h0 : 0 ≤ t) (h1 : t < N.1.length) : NB (N.1, N.2.1.set a (x ++ [(p, t, N.2.2)]), N.2.2 + 1) (c + 1) := by
  have hm := List.mem_of_getElem? hx
  have hp := h.p0
  refine ⟨by simp [h.eq], by have := h.len; simp only; omega, fun l hl => by have := h.r1 l hl; omega, fun l hl => ?_, by simp only; omega, by have := h.p1; simp only; omega, h.t1, fun l hl e he => ?_, fun l hl e he => ?_⟩
  · rcases mem_put hx hl with hl | rfl
    · have := h.r2 l hl; omega
    · have := h.r2 x hm; simp; omega
  · rcases mem_put hx hl with hl | rfl
    · exact h.t2 l hl e he
    · rcases List.mem_append.1 he with he | he
      · exact h.t2 x hm e he
      · simp at he; subst he; exact ⟨h0, h1⟩
  · dsimp only
    rcases mem_put hx hl with hl | rfl
    · have := h.q2 l hl e he; omega
    · rcases List.mem_append.1 he with he | he
      · have := h.q2 x hm e he; omega
      · simp at he; subst he; dsimp only; omega
theorem Add.one {N N' : NT} {a b : Int} {A : List UInt8 → Prop} (hl : N'.1.length = N.1.length) (h : ∀ s w u, trN N' s w u ↔ Un (trN N) (Mac a A b) s w u) : Add N N' a A b :=
  ⟨by omega, Mac a A b, h, fun s w u h => ⟨.inl h.1, .inl h.2.1⟩, Does.mac a b A _⟩
/- the whole expression -/
def bud (d : Nat) (l : List Rx) : Nat := l.length + 2 * (l.map (sz d)).sum
theorem bud_cons (d : Nat) (x : Rx) (l : List Rx) : bud d (x :: l) = 1 + 2 * sz d x + bud d l := by unfold bud; simp; omega
theorem drop_idx {l rest : List Rx} {x : Rx} {k : Nat} (h : l.drop k = x :: rest) : ∃ hk : k < l.length, l[k] = x ∧ l.drop (k + 1) = rest := by
  have hk : k < l.length := by
    rcases Nat.lt_or_ge k l.length with h1 | h1
    · exact h1
    · rw [List.drop_eq_nil_of_le h1] at h; cases h
  refine ⟨hk, ?_⟩
  rw [List.drop_eq_getElem_cons hk] at h
  exact ⟨(List.cons.inj h).1, (List.cons.inj h).2⟩
def AddD (d : Nat) (slf : NT → Rx → Int → Int → Option NT) (xs : List Rx) : Prop :=
  ∀ x ∈ xs, ∀ N c (a b : Int), NB N c → 0 ≤ a → a < N.1.length → 0 ≤ b → b < N.1.length → c + 2 * sz d x ≤ 8589934592 → Ok (slf N x a b) (fun N' => NB N' (c + 2 * sz d x) ∧ Add N N' a (mt d x) b)
theorem alt_loop {d fu : Nat} {r : Rx} {a b : Int} {slf : NT → Rx → Int → Int → Option NT} (hs : AddD d slf r.subs) (ha : 0 ≤ a) (hb : 0 ≤ b) : ∀ (rest : List Rx) (f k c : Nat) (N : NT), r.subs.drop k = rest → rest.length < f → NB N c → a < N.1.length → b < N.1.length → c + bud d rest ≤ 8589934592 →
    Ok (loopK f (fun p nx => au_net_add_b1 fu r a b slf p.1 p.2.1 p.2.2.1 p.2.2.2 nx) (N.1, N.2.1, k, N.2.2)) (fun N' => NB N' (c + bud d rest) ∧ Add N N' a (fun w => ∃ x ∈ rest, mt d x w) b)
  | _, 0, _, _, _, _, h, _, _, _, _ => absurd h (Nat.not_lt_zero _)
  | [], f + 1, k, c, N, hk, _, hN, h1, h2, hc => by
    have hk : r.subs.length ≤ k := by
      rcases Nat.lt_or_ge k r.subs.length with h | h
      · rw [List.drop_eq_getElem_cons h] at hk; cases hk
      · exact h
    show Ok (au_net_add_b1 fu r a b slf N.1 N.2.1 k N.2.2 _) _
    unfold au_net_add_b1
    exact Ok.iF (by omega) (Ok.some ⟨hN.mono (by omega), (Add.none N a b).congr fun w => by simp⟩)
  | x :: rest, f + 1, k, c, N, hk, hf, hN, h1, h2, hc => by
    obtain ⟨hk, hx, hd⟩ := drop_idx hk
    rw [bud_cons] at hc ⊢
    show Ok (au_net_add_b1 fu r a b slf N.1 N.2.1 k N.2.2 _) _
    unfold au_net_add_b1
    refine Ok.iT (by omega) (Ok.idxN hk ?_)
    rw [hx]
    have hm : x ∈ r.subs := hx ▸ List.getElem_mem hk
    refine Ok.bnd (hs x hm N c a b hN ha h1 hb h2 (by omega)) fun N1 ⟨g1, g2⟩ => ?_
    have hl := g2.len
    refine (alt_loop (fu := fu) hs ha hb rest f (k + 1) (c + 2 * sz d x) N1 hd (by simp at hf; omega) g1 (by omega) (by omega) (by omega)).mono fun N2 ⟨g3, g4⟩ => ⟨g3.mono (by omega), ?_⟩
    exact (Add.alt g2 g4 h1 h2).congr fun w => by simp
theorem cat_loop {d fu : Nat} {r : Rx} {b : Int} {slf : NT → Rx → Int → Int → Option NT} (hs : AddD d slf r.subs) (hb : 0 ≤ b) : ∀ (rest : List Rx) (f k c : Nat) (N : NT) (a : Int), rest ≠ [] → r.subs.drop k = rest → rest.length < f → NB N c → 0 ≤ a → a < N.1.length → b < N.1.length → c + bud d rest ≤ 8589934592 →
    Ok (loopK f (fun p nx => au_net_add_b4 fu r b slf p.1 p.2.1 p.2.2.1 p.2.2.2.1 p.2.2.2.2 nx) (N.1, N.2.1, a, k, N.2.2)) (fun N' => NB N' (c + bud d rest) ∧ Add N N' a (Ls (rest.map (mt d))) b)
  | _, 0, _, _, _, _, _, _, h, _, _, _, _, _ => absurd h (Nat.not_lt_zero _)
  | [], _ + 1, _, _, _, _, h, _, _, _, _, _, _, _ => absurd rfl h
  | x :: rest, f + 1, k, c, N, a, _, hk, hf, hN, ha, h1, h2, hc => by
    obtain ⟨hk, hx, hd⟩ := drop_idx hk
    have hlr : rest.length = r.subs.length - (k + 1) := by rw [← hd, List.length_drop]
    have hlen := hN.len
    have heq := hN.eq
    rw [bud_cons] at hc ⊢
    show Ok (au_net_add_b4 fu r b slf N.1 N.2.1 a k N.2.2 _) _
    unfold au_net_add_b4
    refine Ok.iT (by omega) (Ok.idxN hk ?_)
    rw [hx]
    have hm : x ∈ r.subs := hx ▸ List.getElem_mem hk
    have hf' : rest.length < f := by simp at hf; omega
    refine Ok.ite (fun h3 => ?_) fun h3 => ?_
    · refine Ok.chk (by unfold capN; omega) (Ok.chk (by unfold capN; omega) ?_)
      unfold au_net_add_j5
      have hN0 := hN.snoc
      have hl0 : (N.1 ++ [[]]).length = N.1.length + 1 := by simp
      rw [show ((N.2.1.length : Nat) : Int) = (N.1.length : Nat) by omega]
      refine Ok.bnd (hs x hm (N.1 ++ [[]], N.2.1 ++ [[]], N.2.2) (c + 1) a N.1.length hN0 ha (by simp only [hl0]; omega) (by omega) (by simp only [hl0]; omega) (by omega)) fun N1 ⟨g1, g2⟩ => ?_
      have hl := g2.len
      simp only [hl0] at hl
      refine (cat_loop (fu := fu) hs hb rest f (k + 1) (c + 1 + 2 * sz d x) N1 N.1.length (fun h => by subst h; simp at hlr; omega) hd hf' g1 (by omega) (by omega) (by omega) (by omega)).mono fun N2 ⟨g3, g4⟩ => ⟨g3.mono (by omega), ?_⟩
      refine Add.seq (m := N.1.length) (fun s w u => ?_) hl0 rfl g2 g4 h1 h2
      unfold trN Un
      rw [trF_snoc, trO_snoc]
    · obtain rfl : rest = [] := List.length_eq_zero_iff.1 (by omega)
      unfold au_net_add_j5
      refine Ok.bnd (hs x hm N c a b hN ha h1 hb h2 (by omega)) fun N1 ⟨g1, g2⟩ => ?_
      cases f with
      | zero => simp at hf'
      | succ f =>
        show Ok (au_net_add_b4 fu r b slf N1.1 N1.2.1 b (k + 1) N1.2.2 _) _
        unfold au_net_add_b4
        refine Ok.iF (by omega) (Ok.some ⟨g1.mono (by omega), g2.congr fun w => ?_⟩)
        show mt d x w ↔ ∃ y z, w = y ++ z ∧ mt d x y ∧ z = []
        constructor
        · intro h; exact ⟨w, [], by simp, h, rfl⟩
        · rintro ⟨y, z, rfl, h, rfl⟩; simpa using h
theorem add_ok : ∀ (d : Nat) (r : Rx) (fu : Nat), rxOk d r → d + sz d r < fu → ∀ N c (a b : Int), NB N c → 0 ≤ a → a < N.1.length → 0 ≤ b → b < N.1.length → c + 2 * sz d r ≤ 8589934592 →
    Ok (au_net_add fu N r a b) (fun N' => NB N' (c + 2 * sz d r) ∧ Add N N' a (mt d r) b)
  | _, _, 0, _, h, _, _, _, _, _, _, _, _, _, _ => absurd h (Nat.not_lt_zero _)
  | 0, _, _ + 1, h, _, _, _, _, _, _, _, _, _, _, _ => h.elim
  | d + 1, r, fu + 1, hr, hf, N, c, a, b, hN, ha, h1, hb, h2, hc => by
    have hK := hr.1
    have hs : AddD d (au_net_add fu) r.subs := fun x hx N c a b hN ha h1 hb h2 hc => by
      have := sz_sub (d := d) hx
      exact add_ok d x fu (hr.2 x hx) (by omega) N c a b hN ha h1 hb h2 hc
    have hlen := hN.len
    have heq := hN.eq
    have hsl := sz_len d r
    have hbud : bud d r.subs ≤ 2 * sz (d + 1) r := by
      show _ ≤ 2 * (2 + r.subs.length + (r.subs.map (sz d)).sum)
      unfold bud; omega
    have g1 : N.1[a.toNat]? = some (N.1[a.toNat]'(by omega)) := List.getElem?_eq_getElem (by omega)
    have g2 : N.2.1[a.toNat]? = some (N.2.1[a.toNat]'(by omega)) := List.getElem?_eq_getElem (by omega)
    have b1 := hN.r1 _ (List.getElem_mem (by omega : a.toNat < N.1.length))
    have b2 := hN.r2 _ (List.getElem_mem (by omega : a.toNat < N.2.1.length))
    have hp0 := hN.p0
    have hp1 := hN.p1
    show Ok (au_net_add_b0 fu (au_net_add fu) N r a b) _
    unfold au_net_add_b0
    refine Ok.ite (fun k1 => Ok.idx? ha g1 (Ok.chk (by simp; unfold capN; omega) (Ok.some ⟨(hN.free g1 hb h2).mono (by omega), ?_⟩))) fun k1 => Ok.ite (fun k2 => Ok.idx? ha g2 (Ok.chk (by simp; unfold capN; omega) (Ok.chk (by unfold F64; omega) (Ok.some ⟨(hN.on g2 hb h2).mono (by omega), ?_⟩)))) fun k2 => Ok.ite (fun k4 => ?_) fun k4 => Ok.ite (fun k3 => ?_) fun k3 => Ok.ite (fun k5 => ?_) fun k5 => Ok.some ⟨hN.mono (by omega), (Add.none N a b).congr fun w => ?_⟩
    · refine Add.one (by simp) fun s w u => ?_
      have : mt (d + 1) r = fun w => w = [] := by funext w; unfold mt; rw [if_pos k1]
      rw [this]
      unfold trN Un
      rw [trF_put ha g1]
      unfold Un
      exact or_right_comm
    · refine Add.one rfl fun s w u => ?_
      have : mt (d + 1) r = fun w => ∃ c : UInt8, w = [c] ∧ r.set c.toNat = true := by funext w; unfold mt; rw [if_neg k1, if_pos k2]
      rw [this]
      unfold trN Un
      rw [trO_put ha g2]
      unfold Un
      exact or_assoc.symm
    · refine (alt_loop (fu := fu) hs ha hb r.subs fu 0 c N rfl (by omega) hN h1 h2 (by omega)).mono fun N' ⟨e1, e2⟩ => ⟨e1.mono (by omega), e2.congr fun w => ?_⟩
      conv => rhs; unfold mt
      rw [if_neg k1, if_neg k2, if_pos k4]
    · have hl := hK.len
      rw [if_pos (.inl k3)] at hl
      refine (cat_loop (fu := fu) hs hb r.subs fu 0 c N a (fun h => by rw [h] at hl; simp at hl) rfl (by omega) hN ha h1 h2 (by omega)).mono fun N' ⟨e1, e2⟩ => ⟨e1.mono (by omega), e2.congr fun w => ?_⟩
      conv => rhs; unfold mt
      rw [if_neg k1, if_neg k2, if_neg k4, if_pos k3]
    · have hl := hK.len
      rw [if_neg (by omega), if_pos k5] at hl
      have g3 : (N.1 ++ [[]])[a.toNat]? = some (N.1[a.toNat]'(by omega)) := by rw [List.getElem?_append_left (by omega)]; exact g1
      have hN0 := hN.snoc
      have hl0 : (N.1 ++ [[]]).length = N.1.length + 1 := by simp
      have hN1 := hN0.free (t := N.1.length) g3 (by omega) (by simp only [hl0]; omega)
      have hx : r.subs[0]? = some (r.subs[0]'(by omega)) := List.getElem?_eq_getElem (by omega)
      have hxm : r.subs[0]'(by omega) ∈ r.subs := List.getElem_mem _
      have hss := sz_sub (d := d) hxm
      generalize r.subs[0]'(by omega) = x at hx hxm hss
      rw [show ((N.2.1.length : Nat) : Int) = (N.1.length : Nat) by omega, show N.2.1.length = N.1.length by omega]
      have g4 : ((N.1 ++ [[]]).set a.toNat (N.1[a.toNat]'(by omega) ++ [(N.1.length : Int)]))[N.1.length]? = some [] := by
        rw [List.getElem?_set_ne (by omega)]; simp
      have hN2 := hN1.free (t := b) g4 hb (by simp only [List.length_set, hl0]; omega)
      refine Ok.chk (by unfold capN; omega) (Ok.chk (by unfold capN; omega) (Ok.idx? ha g3 (Ok.chk (by simp; unfold capN; omega) (Ok.idx? (by omega) g4 (Ok.chk (by simp; unfold capN; omega) (Ok.idx? (by omega) hx ?_))))))
      refine Ok.bnd (hs x hxm _ (c + 1 + 1 + 1) N.1.length N.1.length hN2 (by omega) (by simp only [List.length_set, hl0]; omega) (by omega) (by simp only [List.length_set, hl0]; omega) (by omega)) fun N' ⟨e1, e2⟩ => Ok.some ⟨e1.mono (by omega), ?_⟩
      refine (Add.star (N := N) (fun s w u => ?_) (by simp) rfl e2 h1 h2).congr fun w => ?_
      · unfold trN Un
        dsimp only
        have e0 := trF_put (a := (N.1.length : Int)) (t := b) (by omega) g4 s w u
        rw [Int.toNat_natCast] at e0
        rw [e0]
        unfold Un
        rw [trF_put ha g3]
        unfold Un
        rw [trF_snoc, trO_snoc]
        constructor
        · rintro (((h | h) | h) | h)
          · exact .inl (.inl h)
          · exact .inr (.inl h)
          · exact .inr (.inr h)
          · exact .inl (.inr h)
        · rintro ((h | h) | (h | h))
          · exact .inl (.inl (.inl h))
          · exact .inr h
          · exact .inl (.inl (.inr h))
          · exact .inl (.inr h)
      · conv => rhs; unfold mt
        rw [if_neg k1, if_neg k2, if_neg k4, if_neg k3, if_pos k5]
        have : mt d x = fun v => ∃ y, r.subs[0]? = some y ∧ mt d y v := by
          funext v; rw [hx]; simp
        rw [this]
    · unfold mt
      rw [if_neg k1, if_neg k2, if_neg k4, if_neg k3, if_neg k5]
end Go.GL
