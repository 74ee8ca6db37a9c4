/- The pass in the order of the text, operation by operation. -/
import Derived.Test.YtjmbmodmepdmjaaDoorKitSeg
namespace Go.GK
def putL (d : Option Tmp) (v : Value) (L : List (Nat × Value)) : List (Nat × Value) := match d with
  | some d => (d, v) :: L
  | none => L
def lkF : List (Nat × (Rec → Hp → Prop)) → Rec → Hp → Nat → Prop
  | [], _, _, _ => True
  | (k, f) :: l, ρ, H, m => match Nat.beq k m with
    | true => f ρ H
    | false => lkF l ρ H m
def SegO (P : Program) (ops : Array Oper) (Q : Exit → Act → World → Prop) (n N : Nat) (H : Hp) (O : List Res) : Nat → List Oper → List Ann → (Rec → List (Nat × Value)) → (Rec → List Res) → List (Nat × (Rec → Hp → Prop)) → Prop
  | _, [], _, LL, XX, FF => ∀ H' ρ, H.le H' → (∀ m, lkF FF ρ H' m) → At Q .normal n (LL ρ) H' (XX ρ ++ O)
  | _, _ :: _, [], _, _, _ => False
  | i, o :: os, an :: as, LL, XX, FF => ∃ od : Rec → Out, LocO P ops n N H O i o an (fun ρ t => lk (LL ρ) t) (fun ρ r => (XX ρ)[r]?) (fun ρ m H' => lkF FF ρ H' m) od ∧ (∀ ρ, (od ρ).toks.map (·.1) = an.wr) ∧
      SegO P ops Q n N H O (i + 1) os as (fun ρ => putL o.dst (od ρ).val (LL ρ)) (fun ρ => setT (XX ρ) (od ρ).toks) ((i, fun ρ => (od ρ).fact) :: FF)

theorem lkR_none {ts : List (Nat × Res)} {r : Nat} (h : memB (ts.map (·.1)) r = false) : lkR ts r = none := by
  induction ts with
  | nil => rfl
  | cons p ts ih =>
    obtain ⟨k, x⟩ := p
    simp only [List.map_cons, memB, List.any_cons, Bool.or_eq_false_iff] at h
    simp only [lkR]
    cases hb : Nat.beq k r with
    | true =>
      have := Nat.eq_of_beq_eq_true hb
      subst this
      have := h.1; simp at this
    | false => exact ih h.2
theorem lkR_some {ts : List (Nat × Res)} {r : Nat} (h : memB (ts.map (·.1)) r = true) : ∃ x, lkR ts r = some x := by
  induction ts with
  | nil => simp [memB] at h
  | cons p ts ih =>
    obtain ⟨k, x⟩ := p
    simp only [lkR]
    cases hb : Nat.beq k r with
    | true => exact ⟨x, rfl⟩
    | false =>
      simp only [List.map_cons, memB, List.any_cons, Bool.or_eq_true] at h
      rcases h with h | h
      · have := Nat.eq_of_beq_eq_true h; subst this; simp at hb
      · exact ih h

theorem LocO.congr {P : Program} {ops : Array Oper} {n N : Nat} {H : Hp} {O : List Res} {i : Nat} {o : Oper} {an : Ann} {S S' : Rec → Nat → Option Value} {R R' : Rec → Nat → Option Res} {F F' : Rec → Nat → Hp → Prop} {od : Rec → Out}
    (h : LocO P ops n N H O i o an S R F od) (hS : ∀ ρ t v, S ρ t = some v → S' ρ t = some v) (hR : ∀ ρ r x, R ρ r = some x → R' ρ r = some x) (hF : ∀ ρ H', (∀ m, m ∈ an.ms → m ≠ i → F' ρ m H') → (∀ m, m ∈ an.ms → m ≠ i → F ρ m H')) :
    LocO P ops n N H O i o an S' R' F' od where
  dst := h.dst
  stab := h.stab
  mono := h.mono
  run H' ρ Y a w h1 h2 h3 h4 h5 := h.run H' ρ Y a w h1 (hF ρ H' h2) h3 (fun t ht v hv => h4 t ht v (hS ρ t v hv)) (fun r hr x hx => h5 r hr x (hR ρ r x hx))

theorem SegO.get {P : Program} {ops : Array Oper} {Q : Exit → Act → World → Prop} {n N : Nat} {H : Hp} {O : List Res} {l : List Oper} {A : List Ann} {L : List (Nat × Value)} {X : List Res} (hlen : A.length = l.length) :
    ∀ (os : List Oper) (as : List Ann) (i : Nat) (odp : Nat → Rec → Out) (LL : Rec → List (Nat × Value)) (XX : Rec → List Res) (FF : List (Nat × (Rec → Hp → Prop))), l.drop i = os → A.drop i = as → i ≤ l.length →
      (∀ ρ t, lk (LL ρ) t = curS l odp L (fun _ => true) ρ t i) → (∀ ρ r x, (XX ρ)[r]? = some x → curR A odp X (fun _ => true) ρ r i = some x) → (∀ ρ, (XX ρ).length = N) → (∀ ρ r, r < N → (XX ρ)[r]? = curR A odp X (fun _ => true) ρ r i) →
      (∀ m ρ H', (m < i → (odp m ρ).fact H') → lkF FF ρ H' m) → SegO P ops Q n N H O i os as LL XX FF →
      ∃ od : Nat → Rec → Out, (∀ j, j < i → od j = odp j) ∧
        (∀ j o an, i ≤ j → l[j]? = some o → A[j]? = some an → LocO P ops n N H O j o an (fun ρ t => curS l od L (fun _ => true) ρ t j) (fun ρ r => curR A od X (fun _ => true) ρ r j) (fun ρ m => (od m ρ).fact) (od j)) ∧
        ∃ (LLf : Rec → List (Nat × Value)) (XXf : Rec → List Res), (∀ ρ t, lk (LLf ρ) t = curS l od L (fun _ => true) ρ t l.length) ∧ (∀ ρ, (XXf ρ).length = N) ∧ (∀ ρ r, r < N → (XXf ρ)[r]? = curR A od X (fun _ => true) ρ r l.length) ∧
          ∀ H' ρ, H.le H' → (∀ j, j < l.length → (od j ρ).fact H') → At Q .normal n (LLf ρ) H' (XXf ρ ++ O)
  | [], as, i, odp, LL, XX, FF, hl, hA, hi, hS, hR, hX, hR2, hF, h => by
    have hil : i = l.length := by
      have := congrArg List.length hl
      simp at this; omega
    subst hil
    refine ⟨odp, fun _ _ => rfl, fun j o an hj ho _ => ?_, LL, XX, hS, hX, hR2, fun H' ρ hle hf => h H' ρ hle fun m => hF m ρ H' (hf m)⟩
    have := (List.getElem?_eq_some_iff.1 ho).1
    omega
  | o :: os, [], i, odp, LL, XX, FF, hl, hA, hi, hS, hR, hX, hR2, hF, h => h.elim
  | o :: os, an :: as, i, odp, LL, XX, FF, hl, hA, hi, hS, hR, hX, hR2, hF, ⟨od0, hloc, hwr, h⟩ => by
    have hli : l[i]? = some o := by
      have := congrArg (·[0]?) hl
      simpa using this
    have hai : A[i]? = some an := by
      have := congrArg (·[0]?) hA
      simpa using this
    have hlt : i < l.length := (List.getElem?_eq_some_iff.1 hli).1
    let od1 : Nat → Rec → Out := fun j => if j = i then od0 else odp j
    have e1 : od1 i = od0 := if_pos rfl
    have e2 : ∀ j, j < i → od1 j = odp j := fun j hj => if_neg (by omega)
    have cS : ∀ (od : Nat → Rec → Out), (∀ j, j < i → od j = odp j) → ∀ ρ t, curS l odp L (fun _ => true) ρ t i = curS l od L (fun _ => true) ρ t i := fun od hod ρ t =>
      curS_congr i fun j hj _ => ⟨rfl, fun _ => by rw [hod j hj]⟩
    have cR : ∀ (od : Nat → Rec → Out), (∀ j, j < i → od j = odp j) → ∀ ρ r, curR A odp X (fun _ => true) ρ r i = curR A od X (fun _ => true) ρ r i := fun od hod ρ r =>
      curR_congr i fun j hj _ => ⟨rfl, fun _ => by rw [hod j hj]⟩
    have sucS : ∀ ρ t, lk (putL o.dst (od0 ρ).val (LL ρ)) t = curS l od1 L (fun _ => true) ρ t (i + 1) := fun ρ t => by
      unfold curS
      rw [hli, e1, ← cS od1 e2, ← hS ρ t]
      simp only [Option.bind_some, true_and]
      unfold putL
      cases ho : o.dst with
      | none => simp
      | some d =>
        simp only [lk, Option.some.injEq]
        cases hb : Nat.beq d t with
        | true => rw [if_pos (Nat.eq_of_beq_eq_true hb)]
        | false => rw [if_neg (Nat.ne_of_beq_eq_false hb)]
    have sucR2 : ∀ ρ r, r < N → (setT (XX ρ) (od0 ρ).toks)[r]? = curR A od1 X (fun _ => true) ρ r (i + 1) := fun ρ r hr => by
      unfold curR
      rw [hai, e1, ← cR od1 e2, setT_get _ _ (by rw [hX]; exact hr), ← hR2 ρ r hr]
      simp only [Option.map_some, true_and, Option.some.injEq]
      by_cases hm : memB an.wr r = true
      · rw [if_pos hm]
        obtain ⟨x, hx⟩ := lkR_some (ts := (od0 ρ).toks) (r := r) (by rw [hwr]; exact hm)
        rw [hx]
      · rw [if_neg hm, lkR_none (by rw [hwr]; simpa using hm)]
    have sucX : ∀ ρ, (setT (XX ρ) (od0 ρ).toks).length = N := fun ρ => by rw [setT_len, hX]
    obtain ⟨od, g1, g2, LLf, XXf, g3⟩ := SegO.get hlen os as (i + 1) od1 _ _ _ (by rw [← List.drop_drop, hl]; rfl) (by rw [← List.drop_drop, hA]; rfl) hlt sucS
      (fun ρ r x hx => by
        have hr : r < N := by rw [← sucX ρ]; exact (List.getElem?_eq_some_iff.1 hx).1
        rw [← sucR2 ρ r hr]; exact hx) sucX sucR2
      (fun m ρ H' hm => by
        simp only [lkF]
        cases hb : Nat.beq i m with
        | true =>
          have := Nat.eq_of_beq_eq_true hb
          subst this
          have := hm (by omega)
          rwa [e1] at this
        | false =>
          have := Nat.ne_of_beq_eq_false hb
          exact hF m ρ H' fun hlt => by have := hm (by omega); rwa [e2 m hlt] at this) h
    have g1' : ∀ j, j < i → od j = odp j := fun j hj => by rw [g1 j (by omega), e2 j hj]
    refine ⟨od, g1', fun j o' an' hj ho ha => ?_, LLf, XXf, g3⟩
    by_cases e : j = i
    · subst e
      rw [hli] at ho; injection ho with ho; subst ho
      rw [hai] at ha; injection ha with ha; subst ha
      rw [g1 j (by omega), e1]
      refine hloc.congr (fun ρ t v hv => ?_) (fun ρ r x hx => ?_) (fun ρ H' hf m hm hne => ?_)
      · rw [hS ρ t, cS od g1'] at hv; exact hv
      · have := hR ρ r x hx; rw [cR od g1'] at this; exact this
      · refine hF m ρ H' fun hlt => ?_
        rw [← g1' m hlt]; exact hf m hm hne
    · exact g2 j o' an' (by omega) ho ha

theorem SegO.run {P : Program} {Q : Exit → Act → World → Prop} {id : Nat} {l : List Oper} {n N : Nat} {H : Hp} {O X : List Res} {L : List (Nat × Value)} (A : List Ann) (hm : P.follows .mixedOrders = true) (hN : X.length = N) (hOK : regO l A N = true)
    (h : SegO P l.toArray Q n N H O 0 l A (fun _ => L) (fun _ => X) []) : Wp P (.region id l.toArray true) Q n L H (X ++ O) := by
  intro a w hf hs
  have htab := hOK
  unfold regO at htab
  rw [Bool.and_eq_true] at htab
  obtain ⟨hlen, _, _⟩ := tabO_spec htab.2
  obtain ⟨od, _, hl, LLf, XXf, h1, h2, h3, h4⟩ := SegO.get (L := L) (X := X) hlen l A 0 (fun _ _ => ⟨undef, [], fun _ => True⟩) (fun _ => L) (fun _ => X) [] rfl rfl (Nat.zero_le _) (fun _ _ => rfl) (fun _ _ _ h => h) (fun _ => hN) (fun _ _ _ => rfl) (fun _ _ _ _ => trivial) h
  refine wp_ord hm hOK (fun i o an ho ha => hl i o an (Nat.zero_le _) ho ha) (fun H' ρ Y a w g1 g2 g3 g4 g5 g6 g7 g8 => ?_) hN hs hf
  refine h4 H' ρ g1 g2 a w ⟨g6, g7, fun t v hv => g8 t v (by rw [← h1]; exact hv)⟩ ?_
  have : Y = XXf ρ := by
    apply List.ext_getElem? 
    intro r
    by_cases hr : r < N
    · have h5 : (XXf ρ)[r]? = some ((XXf ρ)[r]'(by rw [h2]; exact hr)) := by simp
      rw [h5]
      exact g4 r _ hr (by rw [← h3 ρ r hr]; exact h5)
    · rw [List.getElem?_eq_none (by omega), List.getElem?_eq_none (by rw [h2]; omega)]
  rw [← this]; exact g5
end Go.GK
