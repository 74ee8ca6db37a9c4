/- Regions whose order is open, with owned things in registers: the record's order theorem turned into a pass in the order of the text. -/
import Derived.Test.YtjmbmodmepdmjaaDoorKitOrd
namespace Go.GK

structure Out where
  val : Value
  toks : List (Nat × Res)
  fact : Hp → Prop
abbrev Rec := Nat → Value
def upd (ρ : Rec) (i : Nat) (v : Value) : Rec := fun j => match Nat.beq j i with
  | true => v
  | false => ρ j
def mask (ms : List Nat) (ρ : Rec) : Rec := fun j => match ms.any (Nat.beq j) with
  | true => ρ j
  | false => undef
theorem mask_congr {ms : List Nat} {ρ ρ' : Rec} (h : ∀ m ∈ ms, ρ m = ρ' m) : mask ms ρ = mask ms ρ' := by
  funext j
  unfold mask
  cases hb : ms.any (Nat.beq j) with
  | true =>
    obtain ⟨m, hm, he⟩ := List.any_eq_true.1 hb
    have := Nat.eq_of_beq_eq_true he
    subst this
    exact h _ hm
  | false => rfl
structure Ann where
  rd : List Nat
  wr : List Nat
  ms : List Nat
abbrev an0 : Ann := ⟨[], [], []⟩
def lkR : List (Nat × Res) → Nat → Option Res
  | [], _ => none
  | (k, x) :: l, r => match Nat.beq k r with
    | true => some x
    | false => lkR l r
def setT (X : List Res) : List (Nat × Res) → List Res
  | [] => X
  | (r, x) :: ts => (setT X ts).set r x
theorem setT_len (X : List Res) : ∀ ts, (setT X ts).length = X.length
  | [] => rfl
  | (r, x) :: ts => by simp [setT, setT_len X ts]
theorem setT_get (X : List Res) (r : Nat) (hr : r < X.length) : ∀ ts, (setT X ts)[r]? = match lkR ts r with | some x => some x | none => X[r]?
  | [] => rfl
  | (k, x) :: ts => by
    simp only [setT, lkR]
    cases hb : Nat.beq k r with
    | true =>
      have := Nat.eq_of_beq_eq_true hb
      subst this
      simp [setT_len, hr]
    | false =>
      have := Nat.ne_of_beq_eq_false hb
      rw [List.getElem?_set_ne this, setT_get X r hr ts]
def memB (l : List Nat) (r : Nat) : Bool := l.any (Nat.beq r)
theorem memB_iff {l : List Nat} {r : Nat} : memB l r = true ↔ r ∈ l := by
  unfold memB
  rw [List.any_eq_true]
  constructor
  · rintro ⟨x, h, e⟩; have := Nat.eq_of_beq_eq_true e; subst this; exact h
  · intro h; exact ⟨r, h, by simp⟩

def confl (ops : Array Oper) (x y : Oper) (ax ay : Ann) : Bool := meets ops x y || ax.wr.any (fun r => memB ay.rd r || memB ay.wr r) || ay.wr.any (fun r => memB ax.rd r)
/- the table of what comes ahead, beside the operations and their notes -/
def rowO (ops : Array Oper) (t : Nat) (oj : Oper) (aj : Ann) : Nat → Nat → List Oper → List Ann → Bool
  | 0, _, _, _ => true
  | k + 1, i, o :: os, a :: as => (!confl ops o oj a aj || t.testBit i) && rowO ops t oj aj k (i + 1) os as
  | _ + 1, _, _, _ => false
def tabO (ops : Array Oper) (l : List Oper) (A : List Ann) (N : Nat) : Nat → List Nat → List Oper → List Ann → Bool
  | _, [], [], [] => true
  | j, t :: ts, o :: os, a :: as => (a.ms.all fun m => Nat.beq m j || t.testBit m) && (a.wr.all fun r => Nat.blt r N) && (a.rd.all fun r => Nat.blt r N) && rowO ops t o a j 0 l A && tabO ops l A N (j + 1) ts os as
  | _, _, _, _ => false
def regO (l : List Oper) (A : List Ann) (N : Nat) : Bool := backB 0 l && tabO l.toArray l A N 0 (ancs [] l) l A

theorem rowO_spec {ops : Array Oper} {t : Nat} {oj : Oper} {aj : Ann} : ∀ {k i : Nat} {os : List Oper} {as : List Ann}, rowO ops t oj aj k i os as = true → ∀ (q : Nat) (o : Oper) (a : Ann), q < k → os[q]? = some o → as[q]? = some a → confl ops o oj a aj = true → t.testBit (i + q) = true
  | 0, _, _, _, _, q, _, _, h, _, _, _ => by omega
  | k + 1, i, o' :: os, a' :: as, hb, q, o, a, hq, ho, ha, hc => by
    simp only [rowO, Bool.and_eq_true] at hb
    cases q with
    | zero => simp at ho ha; subst ho ha; rw [hc] at hb; simpa using hb.1
    | succ q =>
      have := rowO_spec hb.2 q o a (by omega) (by simpa using ho) (by simpa using ha) hc
      rwa [show i + 1 + q = i + (q + 1) by omega] at this
  | k + 1, i, [], _, hb, q, o, a, _, ho, _, _ => by simp at ho
  | k + 1, i, _ :: _, [], hb, q, o, a, _, _, ha, _ => by simp at ha

theorem tabO_spec {ops : Array Oper} {l : List Oper} {A : List Ann} {N : Nat} : ∀ {j : Nat} {ts : List Nat} {os : List Oper} {as : List Ann}, tabO ops l A N j ts os as = true →
    as.length = os.length ∧ ts.length = os.length ∧ ∀ (q : Nat) (o : Oper) (a : Ann), os[q]? = some o → as[q]? = some a →
      (∀ m ∈ a.ms, m = j + q ∨ (ts.getD q 0).testBit m = true) ∧ (∀ r ∈ a.wr, r < N) ∧ (∀ r ∈ a.rd, r < N) ∧ rowO ops (ts.getD q 0) o a (j + q) 0 l A = true
  | j, [], [], [], _ => ⟨rfl, rfl, fun q o a h => by simp at h⟩
  | j, t :: ts, o :: os, a :: as, h => by
    simp only [tabO, Bool.and_eq_true] at h
    obtain ⟨⟨⟨⟨h1, h2⟩, h3⟩, h4⟩, h5⟩ := h
    obtain ⟨k1, k2, k3⟩ := tabO_spec h5
    refine ⟨by simp [k1], by simp [k2], fun q o' a' ho ha => ?_⟩
    cases q with
    | zero =>
      simp at ho ha; subst ho ha
      refine ⟨fun m hm => ?_, fun r hr => ?_, fun r hr => ?_, h4⟩
      · have := List.all_eq_true.1 h1 m hm
        simp only [Bool.or_eq_true] at this
        rcases this with h | h
        · exact .inl (Nat.eq_of_beq_eq_true h)
        · exact .inr h
      · have := List.all_eq_true.1 h2 r hr; simpa using this
      · have := List.all_eq_true.1 h3 r hr; simpa using this
    | succ q =>
      have := k3 q o' a' (by simpa using ho) (by simpa using ha)
      rwa [show j + 1 + q = j + (q + 1) by omega] at this
  | _, [], [], _ :: _, h => by simp [tabO] at h
  | _, [], _ :: _, _, h => by simp [tabO] at h
  | _, _ :: _, [], _, h => by simp [tabO] at h
  | _, _ :: _, _ :: _, [], h => by simp [tabO] at h

/- What lies in a slot, and in a register, by the last of the first operations that has run and writes it. -/
def curS (l : List Oper) (od : Nat → Rec → Out) (L : List (Nat × Value)) (p : Nat → Bool) (ρ : Rec) (t : Nat) : Nat → Option Value
  | 0 => lk L t
  | j + 1 => if p j = true ∧ (l[j]?).bind (·.dst) = some t then some (od j ρ).val else curS l od L p ρ t j
def curR (A : List Ann) (od : Nat → Rec → Out) (X : List Res) (p : Nat → Bool) (ρ : Rec) (r : Nat) : Nat → Option Res
  | 0 => X[r]?
  | j + 1 => if p j = true ∧ ((A[j]?).map fun a => memB a.wr r) = some true then lkR (od j ρ).toks r else curR A od X p ρ r j

theorem curS_congr {l : List Oper} {od od' : Nat → Rec → Out} {L : List (Nat × Value)} {p q : Nat → Bool} {ρ ρ' : Rec} {t : Nat} : ∀ i, (∀ j, j < i → (l[j]?).bind (·.dst) = some t → p j = q j ∧ (p j = true → od j ρ = od' j ρ')) → curS l od L p ρ t i = curS l od' L q ρ' t i
  | 0, _ => rfl
  | i + 1, h => by
    unfold curS
    rw [curS_congr i fun j hj ht => h j (by omega) ht]
    by_cases ht : (l[i]?).bind (·.dst) = some t
    · obtain ⟨h1, h2⟩ := h i (by omega) ht
      cases hp : p i with
      | true => rw [← h1, hp, h2 hp]
      | false => rw [← h1, hp]; simp
    · simp [ht]
theorem curR_congr {A : List Ann} {od od' : Nat → Rec → Out} {X : List Res} {p q : Nat → Bool} {ρ ρ' : Rec} {r : Nat} : ∀ i, (∀ j, j < i → ((A[j]?).map fun a => memB a.wr r) = some true → p j = q j ∧ (p j = true → od j ρ = od' j ρ')) → curR A od X p ρ r i = curR A od' X q ρ' r i
  | 0, _ => rfl
  | i + 1, h => by
    unfold curR
    rw [curR_congr i fun j hj ht => h j (by omega) ht]
    by_cases ht : ((A[i]?).map fun a => memB a.wr r) = some true
    · obtain ⟨h1, h2⟩ := h i (by omega) ht
      cases hp : p i with
      | true => rw [← h1, hp, h2 hp]
      | false => rw [← h1, hp]; simp
    · simp [ht]
theorem curS_cut {l : List Oper} {od : Nat → Rec → Out} {L : List (Nat × Value)} {p : Nat → Bool} {ρ : Rec} {t i : Nat} : ∀ k, i ≤ k → (∀ j, i ≤ j → j < k → (l[j]?).bind (·.dst) = some t → p j = false) → curS l od L p ρ t k = curS l od L p ρ t i
  | 0, h, _ => by have : i = 0 := by omega
                  subst this; rfl
  | k + 1, h, hp => by
    by_cases e : i = k + 1
    · subst e; rfl
    · have hu : curS l od L p ρ t (k + 1) = if p k = true ∧ (l[k]?).bind (·.dst) = some t then some (od k ρ).val else curS l od L p ρ t k := rfl
      rw [hu, if_neg (fun ⟨h1, h2⟩ => by have := hp k (by omega) (by omega) h2; rw [this] at h1; cases h1)]
      exact curS_cut k (by omega) fun j h1 h2 h3 => hp j h1 (by omega) h3
theorem curR_cut {A : List Ann} {od : Nat → Rec → Out} {X : List Res} {p : Nat → Bool} {ρ : Rec} {r i : Nat} : ∀ k, i ≤ k → (∀ j, i ≤ j → j < k → ((A[j]?).map fun a => memB a.wr r) = some true → p j = false) → curR A od X p ρ r k = curR A od X p ρ r i
  | 0, h, _ => by have : i = 0 := by omega
                  subst this; rfl
  | k + 1, h, hp => by
    by_cases e : i = k + 1
    · subst e; rfl
    · have hu : curR A od X p ρ r (k + 1) = if p k = true ∧ ((A[k]?).map fun a => memB a.wr r) = some true then lkR (od k ρ).toks r else curR A od X p ρ r k := rfl
      rw [hu, if_neg (fun ⟨h1, h2⟩ => by have := hp k (by omega) (by omega) h2; rw [this] at h1; cases h1)]
      exact curR_cut k (by omega) fun j h1 h2 h3 => hp j h1 (by omega) h3

/- What is owed of one operation. -/
structure LocO (P : Program) (ops : Array Oper) (n N : Nat) (H : Hp) (O : List Res) (i : Nat) (o : Oper) (an : Ann) (S : Rec → Nat → Option Value) (R : Rec → Nat → Option Res) (F : Rec → Nat → Hp → Prop) (od : Rec → Out) : Prop where
  dst : ∀ d, o.dst = some d → d < n
  stab : ∀ ρ, od (mask an.ms ρ) = od ρ
  mono : ∀ ρ H' H'', H'.le H'' → (od ρ).fact H' → (od ρ).fact H''
  run : ∀ (H' : Hp) (ρ : Rec) (Y : List Res) (a : Act) (w : World), H.le H' → (∀ m, m ∈ an.ms → m ≠ i → F ρ m H') → Y.length = N → (∀ t ∈ o.looksAt ops, ∀ v, S ρ t = some v → a.tmps.getD t undef = v) →
    (∀ r, (memB an.rd r = true ∨ memB an.wr r = true) → ∀ x, R ρ r = some x → Y[r]? = some x) → SH w H' (Y ++ O) → a.defers = [] → a.tmps.size = n →
    ∀ (K : Act → World → Prop) (Q : Exit → Act → World → Prop), (∀ v w' H'' Y', H'.le H'' → SH w' H'' (Y' ++ O) → Y'.length = N → (∀ r, memB an.wr r = false → Y'[r]? = Y[r]?) →
      (∀ r x, memB an.wr r = true → lkR (od (upd ρ i v)).toks r = some x → Y'[r]? = some x) → (od (upd ρ i v)).fact H'' → (o.dst.isSome = true → (od (upd ρ i v)).val = v) → K (a.put o.dst v) w') →
      if Region.wanted o (yielded ops a.tmps) then o.wp P a w K Q else K (a.put o.dst undef) w

structure JO (l : List Oper) (A : List Ann) (od : Nat → Rec → Out) (L : List (Nat × Value)) (X : List Res) (H : Hp) (O : List Res) (n N : Nat) (p : Nat → Bool) (a : Act) (w : World) : Prop where
  ex : ∃ H' ρ Y, H.le H' ∧ SH w H' (Y ++ O) ∧ Y.length = N ∧ a.defers = [] ∧ a.tmps.size = n ∧ (∀ t v, curS l od L p ρ t l.length = some v → a.tmps.getD t undef = v) ∧
    (∀ r x, r < N → curR A od X p ρ r l.length = some x → Y[r]? = some x) ∧ (∀ j, p j = true → j < l.length ∧ (od j ρ).fact H')

theorem upd_same (ρ : Rec) (i : Nat) (v : Value) : upd ρ i v i = v := by simp [upd]
theorem upd_ne {ρ : Rec} {i j : Nat} {v : Value} (h : j ≠ i) : upd ρ i v j = ρ j := by
  unfold upd
  cases hb : Nat.beq j i with
  | true => exact absurd (Nat.eq_of_beq_eq_true hb) h
  | false => rfl

theorem wp_ord {P : Program} {Q : Exit → Act → World → Prop} {id : Nat} {l : List Oper} {A : List Ann} {n N : Nat} {H : Hp} {O : List Res} {L : List (Nat × Value)} {X : List Res} {od : Nat → Rec → Out}
    (hm : P.follows .mixedOrders = true) (hOK : regO l A N = true)
    (hl : ∀ i o an, l[i]? = some o → A[i]? = some an → LocO P l.toArray n N H O i o an (fun ρ t => curS l od L (fun _ => true) ρ t i) (fun ρ r => curR A od X (fun _ => true) ρ r i) (fun ρ m => (od m ρ).fact) (od i))
    (fin : ∀ H' ρ Y a w, H.le H' → (∀ j, j < l.length → (od j ρ).fact H') → Y.length = N → (∀ r x, r < N → curR A od X (fun _ => true) ρ r l.length = some x → Y[r]? = some x) → SH w H' (Y ++ O) → a.defers = [] → a.tmps.size = n →
      (∀ t v, curS l od L (fun _ => true) ρ t l.length = some v → a.tmps.getD t undef = v) → Q .normal a w)
    {a : Act} {w : World} (hX : X.length = N) (hs : SH w H (X ++ O)) (hf : Fr a n L) : (Code.region id l.toArray true).wp P Q a w := by
  unfold regO at hOK
  rw [Bool.and_eq_true] at hOK
  obtain ⟨hb, htab⟩ := hOK
  obtain ⟨hlen, _, hspec⟩ := tabO_spec htab
  have hAn : ∀ i o, l[i]? = some o → ∃ an, A[i]? = some an := fun i o ho => by
    have : i < A.length := by rw [hlen]; exact (List.getElem?_eq_some_iff.1 ho).1
    exact ⟨A[i], List.getElem?_eq_getElem this⟩
  have hms : ∀ i o an, l[i]? = some o → A[i]? = some an → ∀ m ∈ an.ms, m = i ∨ (anc l i).testBit m = true := fun i o an ho ha m hm => by
    have := (hspec i o an ho ha).1 m hm
    rwa [Nat.zero_add] at this
  have hconf : ∀ i j oi oj ai aj, l[i]? = some oi → l[j]? = some oj → A[i]? = some ai → A[j]? = some aj → i < j → confl l.toArray oi oj ai aj = true → (anc l j).testBit i = true := fun i j oi oj ai aj hi hj hai haj hij hc => by
    have := (hspec j oj aj hj haj).2.2.2
    rw [Nat.zero_add] at this
    have := rowO_spec this i oi ai hij hi hai hc
    rwa [Nat.zero_add] at this
  refine wp_any_inv hm hb (J := JO l A od L X H O n N) ?_ ?_ ?_
  · intro p a w i o hli hpi hcl hanc hancs ⟨H', ρ, Y, h1, h2, h3, h4, h5, h6, h7, h8⟩
    obtain ⟨an, hai⟩ := hAn i o hli
    have hlt : i < l.length := (List.getElem?_eq_some_iff.1 hli).1
    have hloc := hl i o an hli hai
    have hwrN := (hspec i o an hli hai).2.1
    have hrdN := (hspec i o an hli hai).2.2.1
    -- what has run does not speak of 'i'
    have stable : ∀ j oj, l[j]? = some oj → p j = true → ∀ v, od j (upd ρ i v) = od j ρ := fun j oj hj hpj v => by
      obtain ⟨aj, haj⟩ := hAn j oj hj
      have hst := (hl j oj aj hj haj).stab
      rw [← hst (upd ρ i v), ← hst ρ]
      congr 1
      refine mask_congr fun m hm => upd_ne fun e => ?_
      subst e
      rcases hms j oj aj hj haj m hm with e | e
      · subst e; rw [hpi] at hpj; cases hpj
      · rw [hancs j oj hj hpj m e] at hpi; cases hpi
    have later : ∀ j oj aj, l[j]? = some oj → A[j]? = some aj → i < j → confl l.toArray o oj an aj = true → p j = false := fun j oj aj hj haj hij hc => by
      cases hp : p j with
      | false => rfl
      | true => rw [hancs j oj hj hp i (hconf i j o oj an aj hli hj hai haj hij hc)] at hpi; cases hpi
    have earlier : ∀ j oj aj, l[j]? = some oj → A[j]? = some aj → j < i → confl l.toArray oj o aj an = true → p j = true := fun j oj aj hj haj hij hc =>
      hanc j (hconf j i oj o aj an hj hli haj hai hij hc)
    have dstOf : ∀ (j t : Nat), (l[j]?).bind (fun x : Oper => x.dst) = some t → ∃ (oj : Oper) (aj : Ann), l[j]? = some oj ∧ A[j]? = some aj ∧ oj.dst = some t := fun j t h => by
      cases hj : l[j]? with
      | none => rw [hj] at h; cases h
      | some oj => rw [hj] at h; obtain ⟨aj, haj⟩ := hAn j oj hj; exact ⟨oj, aj, rfl, haj, h⟩
    have wrOf : ∀ (j r : Nat), j < l.length → ((A[j]?).map fun a => memB a.wr r) = some true → ∃ (oj : Oper) (aj : Ann), l[j]? = some oj ∧ A[j]? = some aj ∧ memB aj.wr r = true := fun j r hj h => by
      cases ha : A[j]? with
      | none => rw [ha] at h; cases h
      | some aj => rw [ha] at h; exact ⟨l[j], aj, by simp [hj], rfl, by simpa using h⟩
    have conf_wr : ∀ (x y : Oper) (ax ay : Ann) (r : Nat), memB ax.wr r = true → (memB ay.rd r = true ∨ memB ay.wr r = true) → confl l.toArray x y ax ay = true := fun x y ax ay r h1 h2 => by
      unfold confl
      have : ax.wr.any (fun r => memB ay.rd r || memB ay.wr r) = true := List.any_eq_true.2 ⟨r, memB_iff.1 h1, by rcases h2 with h | h <;> simp [h]⟩
      simp [this]
    have conf_rd : ∀ (x y : Oper) (ax ay : Ann) (r : Nat), memB ay.wr r = true → (memB ax.rd r = true ∨ memB ax.wr r = true) → confl l.toArray x y ax ay = true := fun x y ax ay r h1 h2 => by
      rcases h2 with h2 | h2
      · unfold confl
        have : ay.wr.any (fun r => memB ax.rd r) = true := List.any_eq_true.2 ⟨r, memB_iff.1 h1, h2⟩
        simp [this]
      · exact conf_wr x y ax ay r h2 (.inr h1)
    have hslots : ∀ t ∈ o.looksAt l.toArray, ∀ v, curS l od L (fun _ => true) ρ t i = some v → a.tmps.getD t undef = v := fun t ht v hv => by
      refine h6 t v ?_
      rw [curS_cut (i := i) l.length (by omega) (fun j hij hjk hd => by
        by_cases hji : j = i
        · subst hji; exact hpi
        · obtain ⟨oj, aj, hj, haj, hdj⟩ := dstOf j t hd
          refine later j oj aj hj haj (by omega) ?_
          unfold confl; simp only [meets, hdj, mem_names_of_looks ht, Bool.or_true, Bool.true_or])]
      rw [curS_congr (q := fun _ => true) (ρ' := ρ) i (fun j hj hd => by
        obtain ⟨oj, aj, hj', haj, hdj⟩ := dstOf j t hd
        refine ⟨earlier j oj aj hj' haj hj ?_, fun _ => rfl⟩
        unfold confl; simp only [meets, hdj, mem_names_of_looks ht, Bool.true_or])]
      exact hv
    have hregs : ∀ r, (memB an.rd r = true ∨ memB an.wr r = true) → ∀ x, curR A od X (fun _ => true) ρ r i = some x → Y[r]? = some x := fun r hr x hx => by
      refine h7 r x (hr.elim (fun h => hrdN r (memB_iff.1 h)) (fun h => hwrN r (memB_iff.1 h))) ?_
      rw [curR_cut (i := i) l.length (by omega) (fun j hij hjk hd => by
        by_cases hji : j = i
        · subst hji; exact hpi
        · obtain ⟨oj, aj, hj, haj, hdj⟩ := wrOf j r hjk hd
          exact later j oj aj hj haj (by omega) (conf_rd _ _ _ _ r hdj hr))]
      rw [curR_congr (q := fun _ => true) (ρ' := ρ) i (fun j hj hd => by
        obtain ⟨oj, aj, hj', haj, hdj⟩ := wrOf j r (by omega) hd
        exact ⟨earlier j oj aj hj' haj hj (conf_wr _ _ _ _ r hdj hr), fun _ => rfl⟩)]
      exact hx
    have hfacts : ∀ m, m ∈ an.ms → m ≠ i → (od m ρ).fact H' := fun m hm hne => by
      rcases hms i o an hli hai m hm with e | e
      · exact absurd e hne
      · exact (h8 m (hanc m e)).2
    have hK : ∀ v w' H'' Y', H'.le H'' → SH w' H'' (Y' ++ O) → Y'.length = N → (∀ r, memB an.wr r = false → Y'[r]? = Y[r]?) →
        (∀ r x, memB an.wr r = true → lkR (od i (upd ρ i v)).toks r = some x → Y'[r]? = some x) → (od i (upd ρ i v)).fact H'' → (o.dst.isSome = true → (od i (upd ρ i v)).val = v) → JO l A od L X H O n N (upP p i) (a.put o.dst v) w' := by
      intro v w' H'' Y' k1 k2 k3 k4 k5 k6 k7
      have hup : ∀ j, j ≠ i → upP p i j = p j := fun j hj => by simp [upP, hj]
      have hupi : upP p i i = true := by simp [upP]
      refine ⟨H'', upd ρ i v, Y', h1.trans k1, k2, k3, ?_, ?_, fun t u hu => ?_, fun r x hr hx => ?_, fun j hj => ?_⟩
      · cases o.dst <;> exact h4
      · cases o.dst <;> simp [Act.put, h5]
      · by_cases hdt : o.dst = some t
        · rw [curS_cut (i := i + 1) l.length (by omega) (fun j hij hjk hd => by
            obtain ⟨oj, aj, hj', haj, hdj⟩ := dstOf j t hd
            rw [hup j (by omega)]
            refine later j oj aj hj' haj (by omega) ?_
            unfold confl; simp only [meets, hdt, mem_names_of_dst hdj, Bool.true_or])] at hu
          unfold curS at hu
          rw [if_pos ⟨hupi, by simp [hli, hdt]⟩] at hu
          injection hu with hu
          rw [k7 (by simp [hdt])] at hu
          subst hu
          rw [hdt]; exact getD_put_eq (by rw [h5]; exact hloc.dst t hdt)
        · rw [getD_put_ne hdt]
          refine h6 t u ?_
          rw [← hu]
          exact curS_congr l.length fun j hj hd => by
            obtain ⟨oj, aj, hj', haj, hdj⟩ := dstOf j t hd
            have hji : j ≠ i := fun e => by subst e; rw [hli] at hj'; injection hj' with e; subst e; exact hdt hdj
            exact ⟨(hup j hji).symm, fun hp => (stable j oj hj' hp v).symm⟩
      · by_cases hr' : memB an.wr r = true
        · rw [curR_cut (i := i + 1) l.length (by omega) (fun j hij hjk hd => by
            obtain ⟨oj, aj, hj', haj, hdj⟩ := wrOf j r hjk hd
            rw [hup j (by omega)]
            exact later j oj aj hj' haj (by omega) (conf_wr _ _ _ _ r hr' (.inr hdj)))] at hx
          unfold curR at hx
          rw [if_pos ⟨hupi, by simp [hai, hr']⟩] at hx
          exact k5 r x hr' hx
        · have hr'' : memB an.wr r = false := by simpa using hr'
          rw [k4 r hr'']
          refine h7 r x hr ?_
          rw [← hx]
          exact curR_congr l.length fun j hj hd => by
            obtain ⟨oj, aj, hj', haj, hdj⟩ := wrOf j r hj hd
            have hji : j ≠ i := fun e => by subst e; rw [hai] at haj; injection haj with e; subst e; exact hr' hdj
            exact ⟨(hup j hji).symm, fun hp => (stable j oj hj' hp v).symm⟩
      · by_cases hji : j = i
        · subst hji; exact ⟨hlt, k6⟩
        · rw [hup j hji] at hj
          obtain ⟨q1, q2⟩ := h8 j hj
          refine ⟨q1, ?_⟩
          rw [stable j l[j] (by simp [q1]) hj v]
          exact (hl j l[j] (A[j]'(by omega)) (by simp [q1]) (by simp [hlen, q1])).mono ρ H' H'' k1 q2
    exact hloc.run H' ρ Y a w h1 hfacts h3 hslots hregs h2 h4 h5 _ Q hK
  · intro p a w hall ⟨H', ρ, Y, h1, h2, h3, h4, h5, h6, h7, h8⟩
    refine fin H' ρ Y a w h1 (fun j hj => (h8 j (hall j hj)).2) h3 (fun r x hr hx => h7 r x hr ?_) h2 h4 h5 (fun t v hv => h6 t v ?_)
    · rw [curR_congr (q := fun _ => true) (ρ' := ρ) l.length fun j hj _ => ⟨hall j hj, fun _ => rfl⟩]; exact hx
    · rw [curS_congr (q := fun _ => true) (ρ' := ρ) l.length fun j hj _ => ⟨hall j hj, fun _ => rfl⟩]; exact hv
  · refine ⟨H, fun _ => undef, X, Hp.le.refl H, hs.drew, hX, hf.defers, hf.size, fun t v hv => hf.get t v ?_, fun r x hr hx => ?_, fun j hj => by cases hj⟩
    · rwa [curS_cut (i := 0) l.length (Nat.zero_le _) (fun j _ _ _ => rfl)] at hv
    · rwa [curR_cut (i := 0) l.length (Nat.zero_le _) (fun j _ _ _ => rfl)] at hx

end Go.GK
