/- A region whose order is open: one pass in the order of the text serves every order, where each operation of the head speaks only of what it looks at, and the tail waits for all ahead of it. -/
import Derived.Test.YtjmbmodmepdmjaaDoorKit
namespace Go.GK

abbrev SP := Hp → Value → Prop
def Grows (G : Hp → Hp → Prop) (S : SP) : Prop := ∀ H H' v, G H H' → S H v → S H' v

def edge (l : List Oper) (i j : Nat) : Bool :=
  match l[j]? with
  | some o => o.after.any fun e => Region.binds .any e && Nat.beq e.on i
  | none => false

def names (ops : Array Oper) (o : Oper) : List Tmp := o.dst.toList ++ o.looksAt ops
def meets (ops : Array Oper) (x y : Oper) : Bool :=
  (match x.dst with | some d => (names ops y).any (Nat.beq d) | none => false) || (match y.dst with | some d => (names ops x).any (Nat.beq d) | none => false)

/- The look at a region: what touches one slot is ordered, all ahead of the tail is waited for, every edge leads back. -/
def backB : Nat → List Oper → Bool
  | _, [] => true
  | i, o :: os => (o.after.all fun e => !Region.binds .any e || Nat.blt e.on i) && backB (i + 1) os
def hasEdge (o : Oper) (i : Nat) : Bool := o.after.any fun e => Region.binds .any e && Nat.beq e.on i
def rowB (ops : Array Oper) (k j : Nat) (o : Oper) : Nat → List Oper → Bool
  | _, [] => true
  | i, x :: xs => (Nat.ble j i || ((!(meets ops x o) && Nat.blt j k) || hasEdge o i)) && rowB ops k j o (i + 1) xs
def allB (l : List Oper) (ops : Array Oper) (k : Nat) : Nat → List Oper → Bool
  | _, [] => true
  | j, o :: os => rowB ops k j o 0 l && allB l ops k (j + 1) os
def regOK (l : List Oper) (k : Nat) : Bool := backB 0 l && allB l l.toArray k 0 l

theorem backB_spec : ∀ {l : List Oper} {i : Nat}, backB i l = true → ∀ (j : Nat) (o : Oper), l[j]? = some o → ∀ e ∈ o.after, Region.binds .any e = true → e.on < i + j
  | [], _, _, j, o, h => by simp at h
  | x :: xs, i, hb, j, o, h => by
    simp only [backB, Bool.and_eq_true] at hb
    cases j with
    | zero =>
      simp at h; subst h
      intro e he hbi
      have := (Array.all_eq_true_iff_forall_mem.1 hb.1) e he
      simp [hbi] at this
      omega
    | succ j =>
      intro e he hbi
      have := backB_spec hb.2 j o (by simpa using h) e he hbi
      omega

theorem rowB_spec {ops : Array Oper} {k j : Nat} {o : Oper} : ∀ {l : List Oper} {i : Nat}, rowB ops k j o i l = true → ∀ (a : Nat) (x : Oper), l[a]? = some x → i + a < j →
    (meets ops x o = true ∨ k ≤ j) → hasEdge o (i + a) = true
  | [], _, _, a, x, h, _, _ => by simp at h
  | y :: ys, i, hb, a, x, h, hlt, hm => by
    simp only [rowB, Bool.and_eq_true] at hb
    cases a with
    | zero =>
      simp at h; subst h
      have h1 := hb.1
      simp at h1
      rcases h1 with h1 | h1
      · omega
      · rcases h1 with h1 | h1
        · rcases hm with hm | hm
          · rw [hm] at h1; simp at h1
          · omega
        · exact h1
    | succ a =>
      have := rowB_spec hb.2 a x (by simpa using h) (by omega) hm
      rwa [show i + 1 + a = i + (a + 1) by omega] at this

theorem allB_spec {l0 : List Oper} {ops : Array Oper} {k : Nat} : ∀ {l : List Oper} {i : Nat}, allB l0 ops k i l = true → ∀ (j : Nat) (o : Oper), l[j]? = some o → rowB ops k (i + j) o 0 l0 = true
  | [], _, _, j, o, h => by simp at h
  | y :: ys, i, hb, j, o, h => by
    simp only [allB, Bool.and_eq_true] at hb
    cases j with
    | zero => simp at h; subst h; exact hb.1
    | succ j =>
      have := allB_spec hb.2 j o (by simpa using h)
      rwa [show i + 1 + j = i + (j + 1) by omega] at this

theorem regOK_edge {l : List Oper} {k : Nat} (h : regOK l k = true) {i j : Nat} {x o : Oper} (hi : l[i]? = some x) (hj : l[j]? = some o) (hlt : i < j) (hm : meets l.toArray x o = true ∨ k ≤ j) :
    ∃ e ∈ o.after, Region.binds .any e = true ∧ e.on = i := by
  simp only [regOK, Bool.and_eq_true] at h
  have h1 := allB_spec h.2 j o hj
  have h2 := rowB_spec h1 i x hi (by omega) (by simpa using hm)
  simp only [hasEdge, Nat.zero_add] at h2
  obtain ⟨c, hc, hb⟩ := Array.any_eq_true.1 h2
  simp only [Bool.and_eq_true] at hb
  exact ⟨o.after[c], Array.getElem_mem hc, hb.1, Nat.eq_of_beq_eq_true hb.2⟩

/- The slot's predicate, by the last of the first 'i' operations that is listed and writes it. -/
def cur (l : List Oper) (Φ : Nat → SP) (S : Nat → SP) (listed : Nat → Bool) (t : Nat) : Nat → SP
  | 0 => Φ t
  | i + 1 => if listed i = true ∧ ((l[i]?).bind (·.dst)) = some t then S i else cur l Φ S listed t i

theorem cur_grows {G : Hp → Hp → Prop} {l : List Oper} {Φ S : Nat → SP} {listed : Nat → Bool} {t : Nat} (hΦ : ∀ t, Grows G (Φ t)) (hS : ∀ i, Grows G (S i)) : ∀ i, Grows G (cur l Φ S listed t i)
  | 0 => hΦ t
  | i + 1 => by
    unfold cur
    split
    · exact hS i
    · exact cur_grows hΦ hS i

theorem cur_congr {l : List Oper} {Φ S : Nat → SP} {p q : Nat → Bool} {t : Nat} : ∀ i, (∀ j, j < i → ((l[j]?).bind (·.dst)) = some t → p j = q j) → cur l Φ S p t i = cur l Φ S q t i
  | 0, _ => rfl
  | i + 1, h => by
    unfold cur
    rw [cur_congr i fun j hj ht => h j (by omega) ht]
    by_cases ht : ((l[i]?).bind (·.dst)) = some t
    · rw [h i (by omega) ht]
    · simp [ht]

theorem cur_cut {l : List Oper} {Φ S : Nat → SP} {p : Nat → Bool} {t : Nat} {i : Nat} : ∀ k, i ≤ k → (∀ j, i ≤ j → j < k → ((l[j]?).bind (·.dst)) = some t → p j = false) → cur l Φ S p t k = cur l Φ S p t i
  | 0, h, _ => by have : i = 0 := by omega
                  subst this; rfl
  | k + 1, h, hp => by
    by_cases e : i = k + 1
    · subst e; rfl
    · have hu : cur l Φ S p t (k + 1) = if p k = true ∧ ((l[k]?).bind (·.dst)) = some t then S k else cur l Φ S p t k := rfl
      rw [hu, if_neg (fun ⟨h1, h2⟩ => by have := hp k (by omega) (by omega) h2; rw [this] at h1; cases h1)]
      exact cur_cut k (by omega) fun j h1 h2 h3 => hp j h1 (by omega) h3

section
variable {P : Program} {Q : Exit → Act → World → Prop}

/- What is owed of one operation of the head. -/
def LocOp (P : Program) (G : Hp → Hp → Prop) (ops : Array Oper) (H : Hp) (O : List Res) (n : Nat) (o : Oper) (Φ : Nat → SP) (S : SP) : Prop :=
  Grows G S ∧ (∀ d, o.dst = some d → d < n) ∧ ∀ (H' : Hp) (a : Act) (w : World), G H H' → SH w H' O → a.defers = [] → a.tmps.size = n → (∀ t ∈ o.looksAt ops, Φ t H' (a.tmps.getD t undef)) →
    ∀ (K : Act → World → Prop) (Q : Exit → Act → World → Prop), (∀ v w' H'', G H' H'' → SH w' H'' O → (o.dst.isSome = true → S H'' v) → K (a.put o.dst v) w') →
      if Region.wanted o (yielded ops a.tmps) then o.wp P a w K Q else K (a.put o.dst undef) w

structure LocSt (G : Hp → Hp → Prop) (l : List Oper) (Φ S : Nat → SP) (H : Hp) (O : List Res) (n k : Nat) (listed : Nat → Bool) (a : Act) (w : World) : Prop where
  ex : ∃ H', G H H' ∧ SH w H' O ∧ a.defers = [] ∧ a.tmps.size = n ∧ ∀ t, cur l Φ S listed t k H' (a.tmps.getD t undef)

theorem getD_put_ne {a : Act} {d : Option Tmp} {v : Value} {t : Nat} (h : d ≠ some t) : (a.put d v).tmps.getD t undef = a.tmps.getD t undef := by
  cases d with
  | none => rfl
  | some d =>
    have : d ≠ t := fun e => h (by rw [e])
    simp [Act.put, Array.getElem?_setIfInBounds_ne this]
theorem getD_put_eq {a : Act} {d : Tmp} {v : Value} (h : d < a.tmps.size) : (a.put (some d) v).tmps.getD d undef = v := by
  simp [Act.put, h]

theorem mem_names_of_looks {ops : Array Oper} {o : Oper} {t : Tmp} (h : t ∈ o.looksAt ops) : (names ops o).any (Nat.beq t) = true := by
  simp only [names, List.any_append, Bool.or_eq_true]
  exact .inr (List.any_eq_true.2 ⟨t, h, by simp⟩)
theorem mem_names_of_dst {ops : Array Oper} {o : Oper} {t : Tmp} (h : o.dst = some t) : (names ops o).any (Nat.beq t) = true := by
  simp [names, h]

inductive JSt (P : Program) (G : Hp → Hp → Prop) (l : List Oper) (Q : Exit → Act → World → Prop) (Φ S : Nat → SP) (H : Hp) (O : List Res) (n k : Nat) (p : Nat → Bool) (a : Act) (w : World) : Prop where
  | head (h1 : ∀ t, k ≤ t → p t = false) (h2 : LocSt G l Φ S H O n k p a w)
  | tail (j : Nat) (hj : k ≤ j) (hp : ∀ i, i < l.length → p i = decide (i < j)) (hw : wpList P l.toArray Q (l.drop j) a w)

/- How many are not listed. -/
def cnt (p : Nat → Bool) : Nat → Nat
  | 0 => 0
  | m + 1 => cnt p m + if p m then 0 else 1
theorem cnt_zero {p : Nat → Bool} : ∀ {m : Nat}, cnt p m = 0 → ∀ i, i < m → p i = true
  | 0, _, i, h => by omega
  | m + 1, hc, i, h => by
    simp only [cnt] at hc
    by_cases e : i = m
    · subst e
      cases hp : p i with
      | true => rfl
      | false => rw [hp] at hc; simp at hc
    · exact cnt_zero (p := p) (m := m) (by omega) i (by omega)
theorem cnt_same {p q : Nat → Bool} : ∀ {m : Nat}, (∀ i, i < m → p i = q i) → cnt p m = cnt q m
  | 0, _ => rfl
  | m + 1, h => by
    simp only [cnt]
    rw [h m (by omega), cnt_same fun i hi => h i (by omega)]
theorem cnt_set {p q : Nat → Bool} {i : Nat} : ∀ {m : Nat}, i < m → p i = false → q i = true → (∀ j, j ≠ i → q j = p j) → cnt p m = cnt q m + 1
  | 0, h, _, _, _ => by omega
  | m + 1, h, hp, hq, hj => by
    simp only [cnt]
    by_cases e : i = m
    · subst e
      rw [hp, hq, cnt_same (p := p) (q := q) fun j hj' => (hj j (by omega)).symm]
      simp
    · rw [cnt_set (m := m) (by omega) hp hq hj, hj m (fun x => e x.symm)]
      omega

theorem any_order {G : Hp → Hp → Prop} (htrans : ∀ A B C, G A B → G B C → G A C) {l : List Oper} {k n : Nat} {Φ S : Nat → SP} {H : Hp} {O : List Res} (hk : k ≤ l.length) (hOK : regOK l k = true)
    (hΦ : ∀ t, Grows G (Φ t)) (hS0 : ∀ i, Grows G (S i))
    (hS : ∀ i o, i < k → l[i]? = some o → LocOp P G l.toArray H O n o (fun t => cur l Φ S (fun _ => true) t i) (S i))
    (fin : ∀ a w H', G H H' → SH w H' O → a.defers = [] → a.tmps.size = n → (∀ t, cur l Φ S (fun _ => true) t k H' (a.tmps.getD t undef)) → wpList P l.toArray Q (l.drop k) a w) :
    ∀ (fuel : Nat) (listed : Array Bool) (a : Act) (w : World), listed.size = l.length →
      (∀ (j : Nat) (o : Oper), l[j]? = some o → listed.getD j false = true → ∀ e ∈ o.after, Region.binds .any e = true → listed.getD e.on false = true) →
      cnt (fun i => listed.getD i false) l.length = fuel →
      JSt P G l Q Φ S H O n k (fun i => listed.getD i false) a w →
      wpAny P .any l.toArray Q fuel listed a w := by
  have hback := by simp only [regOK, Bool.and_eq_true] at hOK; exact backB_spec hOK.1
  -- all of the head listed: the tail's state
  have toTail : ∀ (listed : Array Bool) a w, JSt P G l Q Φ S H O n k (fun i => listed.getD i false) a w → (∀ i, i < k → listed.getD i false = true) →
      ∃ j, k ≤ j ∧ (∀ i, i < l.length → listed.getD i false = decide (i < j)) ∧ wpList P l.toArray Q (l.drop j) a w := by
    intro listed a w hJ hall
    cases hJ with
    | tail j hj hp hw => exact ⟨j, hj, hp, hw⟩
    | head h1 h2 =>
      obtain ⟨H', g1, g2, g3, g4, g5⟩ := h2.ex
      refine ⟨k, Nat.le_refl _, fun i _ => ?_, fin a w H' g1 g2 g3 g4 fun t => ?_⟩
      · by_cases hik : i < k
        · simp only [hik, decide_true]; exact hall i hik
        · simp only [hik, decide_false]; exact h1 i (by omega)
      · rw [← cur_congr k fun j hj _ => (hall j hj)]; exact g5 t
  -- nothing is ready: all is listed
  have allListed : ∀ (listed : Array Bool), listed.size = l.length → Region.ready .any l.toArray listed = [] → ∀ i, i < l.length → listed.getD i false = true := by
    intro listed hsz hr i
    induction i using Nat.strongRecOn with
    | _ i ih =>
      intro hi
      cases hl : listed.getD i false with
      | true => rfl
      | false =>
        exfalso
        have hmem : i ∈ Region.ready .any l.toArray listed := mem_ready.2 ⟨getD_in (by rw [hsz]; exact hi) hl, l[i], by simp [hi], fun e he hb => by
          have := hback i l[i] (by simp [hi]) e he hb
          exact ih e.on (by omega) (by omega)⟩
        rw [hr] at hmem; cases hmem
  have finish : ∀ (listed : Array Bool) a w, listed.size = l.length → JSt P G l Q Φ S H O n k (fun i => listed.getD i false) a w → Region.ready .any l.toArray listed = [] → Q .normal a w := by
    intro listed a w hsz hJ hr
    have hall := allListed listed hsz hr
    obtain ⟨j, hkj, hp, hw⟩ := toTail listed a w hJ fun i hi => hall i (by omega)
    have hj : l.length ≤ j := by
      rcases Nat.lt_or_ge j l.length with h | h
      · have h1 := hp j h; rw [hall j h] at h1; simp at h1
      · exact h
    rw [List.drop_of_length_le hj] at hw
    exact hw
  intro fuel
  induction fuel with
  | zero =>
    intro listed a w hsz _ hcount hJ
    have hall := cnt_zero hcount
    have hr : Region.ready .any l.toArray listed = [] := by
      cases hrr : Region.ready .any l.toArray listed with
      | nil => rfl
      | cons i rs =>
        exfalso
        have hmem : i ∈ Region.ready .any l.toArray listed := by rw [hrr]; simp
        obtain ⟨hun, oi, hoi, _⟩ := mem_ready.1 hmem
        have hlt : i < l.length := by simpa using (Array.getElem?_eq_some_iff.1 hoi).1
        have h2 : listed.getD i false = true := hall i hlt
        rw [getD_both hun] at h2; cases h2
    exact ⟨hr, finish listed a w hsz hJ hr⟩
  | succ fuel ih =>
    intro listed a w hsz hcl hcount hJ
    refine ⟨finish listed a w hsz hJ, fun i hi => ?_⟩
    obtain ⟨hun, o, hoi, hdeps⟩ := mem_ready.1 hi
    have hli : l[i]? = some o := by simpa using hoi
    have hlt : i < l.length := (List.getElem?_eq_some_iff.1 hli).1
    have hun' := getD_both hun
    -- what every next state owes
    have hsz' : (listed.setIfInBounds i true).size = l.length := by simp [hsz]
    have hgi : (listed.setIfInBounds i true).getD i false = true := by simp [hsz, hlt]
    have hgo : ∀ j, j ≠ i → (listed.setIfInBounds i true).getD j false = listed.getD j false := fun j hj => getD_set_ne false (Ne.symm hj)
    have hcl' : ∀ (j : Nat) (o : Oper), l[j]? = some o → (listed.setIfInBounds i true).getD j false = true → ∀ e ∈ o.after, Region.binds .any e = true → (listed.setIfInBounds i true).getD e.on false = true := by
      intro j oj hj hl e he hb
      by_cases hji : j = i
      · subst hji
        have : oj = o := Option.some.inj (hj.symm.trans hli)
        subst this
        exact getD_set_true (hdeps e he hb)
      · rw [hgo j hji] at hl
        exact getD_set_true (hcl j oj hj hl e he hb)
    have hcount' : cnt (fun j => (listed.setIfInBounds i true).getD j false) l.length = fuel := by
      have := cnt_set (p := fun j => listed.getD j false) (q := fun j => (listed.setIfInBounds i true).getD j false) hlt hun' hgi hgo
      omega
    have next : ∀ a' w', JSt P G l Q Φ S H O n k (fun j => (listed.setIfInBounds i true).getD j false) a' w' → wpAny P .any l.toArray Q fuel (listed.setIfInBounds i true) a' w' :=
      fun a' w' hJ' => ih _ a' w' hsz' hcl' hcount' hJ'
    have hwp : ∀ (h : if Region.wanted o (yielded l.toArray a.tmps) then o.wp P a w (fun a' w' => JSt P G l Q Φ S H O n k (fun j => (listed.setIfInBounds i true).getD j false) a' w') Q ∨ (o.asks P a w ∧ LetsOut Q)
        else JSt P G l Q Φ S H O n k (fun j => (listed.setIfInBounds i true).getD j false) (a.put o.dst undef) w),
        wpOp P l.toArray Q i (wpAny P .any l.toArray Q fuel (listed.setIfInBounds i true)) a w := by
      intro h
      refine wpOp_mono next ?_
      unfold wpOp
      simp only [hoi]
      exact h
    apply hwp
    -- a later operation that meets 'o' is not listed
    have later : ∀ (j : Nat) (oj : Oper), l[j]? = some oj → i < j → (meets l.toArray o oj = true ∨ k ≤ j) → listed.getD j false = false := by
      intro j oj hj hij hm
      obtain ⟨e, he, hb, hon⟩ := regOK_edge hOK hli hj hij hm
      cases hl : listed.getD j false with
      | false => rfl
      | true =>
        have := hcl j oj hj hl e he hb
        rw [hon, hun'] at this; cases this
    have earlier : ∀ (j : Nat) (oj : Oper), l[j]? = some oj → j < i → (meets l.toArray oj o = true ∨ k ≤ i) → listed.getD j false = true := by
      intro j oj hj hij hm
      obtain ⟨e, he, hb, hon⟩ := regOK_edge hOK hj hli hij hm
      have := hdeps e he hb
      rwa [hon] at this
    by_cases hall : ∀ j, j < k → listed.getD j false = true
    · -- the tail
      obtain ⟨j, hkj, hp, hw⟩ := toTail listed a w hJ hall
      have hij : i = j := by
        have h1 := hp i hlt
        rw [hun'] at h1
        have h2 : j ≤ i := by simpa using h1.symm
        rcases Nat.lt_or_ge j i with h3 | h3
        · exfalso
          have hjlt : j < l.length := by omega
          have h4 := earlier j l[j] (by simp [hjlt]) h3 (.inr (by omega))
          rw [hp j hjlt] at h4; simp at h4
        · omega
      subst hij
      have hdrop : l.drop i = o :: l.drop (i + 1) := by
        have : o = l[i] := by rw [List.getElem?_eq_getElem hlt] at hli; exact (Option.some.inj hli).symm
        rw [this]; exact List.drop_eq_getElem_cons hlt
      rw [hdrop] at hw
      have hnext : ∀ a' w', wpList P l.toArray Q (l.drop (i + 1)) a' w' → JSt P G l Q Φ S H O n k (fun j => (listed.setIfInBounds i true).getD j false) a' w' := fun a' w' h =>
        .tail (i + 1) (by omega) (fun j hj => by
          by_cases hji : j = i
          · subst hji; rw [hgi]; simp
          · rw [hgo j hji, hp j hj]
            have : (j < i) ↔ (j < i + 1) := by omega
            simp only [this]) h
      unfold wpList at hw
      split
      · rename_i hwant
        rw [if_pos hwant] at hw
        exact hw.imp (Oper.wp_mono hnext) id
      · rename_i hwant
        rw [if_neg hwant] at hw
        exact hnext _ _ hw
    · -- the head
      have hJ2 : (∀ t, k ≤ t → listed.getD t false = false) ∧ LocSt G l Φ S H O n k (fun i => listed.getD i false) a w := by
        cases hJ with
        | head h1 h2 => exact ⟨h1, h2⟩
        | tail j hj hp hw =>
          exact absurd (fun t ht => by rw [hp t (by omega)]; simp; omega) hall
      obtain ⟨h1, ⟨H', g1, g2, g3, g4, g5⟩⟩ := hJ2
      have hik : i < k := by
        rcases Nat.lt_or_ge i k with h | h
        · exact h
        · exact absurd (fun j hj => earlier j l[j] (by simp) (by omega) (.inr h)) hall
      obtain ⟨hgrow, hd, hloc⟩ := hS i o hik hli
      have hlooks : ∀ t ∈ o.looksAt l.toArray, cur l Φ S (fun _ => true) t i H' (a.tmps.getD t undef) := by
        intro t ht
        have := g5 t
        rw [cur_cut (i := i) k (by omega) (fun j hij hjk hdst => by
          by_cases hji : j = i
          · subst hji; exact hun'
          · cases hlj : l[j]? with
            | none => simp [hlj] at hdst
            | some oj =>
              refine later j oj hlj (by omega) (.inl ?_)
              simp [hlj] at hdst
              simp only [meets, hdst, mem_names_of_looks ht, Bool.or_true])] at this
        rw [cur_congr i (fun j hj hdst => by
          cases hlj : l[j]? with
          | none => simp [hlj] at hdst
          | some oj =>
            refine earlier j oj hlj hj (.inl ?_)
            simp [hlj] at hdst
            simp only [meets, hdst, mem_names_of_looks ht, Bool.true_or])] at this
        exact this
      have hK : ∀ v w' H'', G H' H'' → SH w' H'' O → (o.dst.isSome = true → S i H'' v) → JSt P G l Q Φ S H O n k (fun j => (listed.setIfInBounds i true).getD j false) (a.put o.dst v) w' := by
        intro v w' H'' hle hs hv
        refine .head (fun t ht => ?_) ⟨H'', htrans _ _ _ g1 hle, hs, ?_, ?_, fun t => ?_⟩
        · show (listed.setIfInBounds i true).getD t false = false
          rw [hgo t (by omega)]; exact h1 t ht
        · cases o.dst <;> exact g3
        · cases o.dst <;> simp [Act.put, g4]
        · by_cases hdt : o.dst = some t
          · rw [hdt, getD_put_eq (by rw [g4]; exact hd t hdt)]
            rw [cur_cut (i := i + 1) k (by omega) (fun j hij hjk hdst => by
              show (listed.setIfInBounds i true).getD j false = false
              rw [hgo j (by omega)]
              cases hlj : l[j]? with
              | none => simp [hlj] at hdst
              | some oj =>
                refine later j oj hlj (by omega) (.inl ?_)
                simp [hlj] at hdst
                simp only [meets, hdt, mem_names_of_dst hdst, Bool.true_or])]
            unfold cur
            rw [if_pos ⟨hgi, by simp [hli, hdt]⟩]
            exact hv (by simp [hdt])
          · rw [getD_put_ne hdt]
            rw [cur_congr (q := fun j => listed.getD j false) k (fun j hj hdst => by
              by_cases hji : j = i
              · subst hji; simp [hli] at hdst; exact absurd hdst hdt
              · exact hgo j hji)]
            exact cur_grows hΦ hS0 k _ _ _ hle (g5 t)
      have := hloc H' a w g1 g2 g3 g4 hlooks (fun a' w' => JSt P G l Q Φ S H O n k (fun j => (listed.setIfInBounds i true).getD j false) a' w') Q hK
      split
      · rename_i hw; rw [if_pos hw] at this; exact .inl this
      · rename_i hw; rw [if_neg hw] at this; exact this
end
end Go.GK

namespace Go.GK
/- The derivation in the order of the text. -/
def Loc (P : Program) (G : Hp → Hp → Prop) (ops : Array Oper) (H : Hp) (O : List Res) (n : Nat) (Z : Act → World → Prop) : List Oper → (Nat → SP) → Prop
  | [], Φ => ∀ a w H', G H H' → SH w H' O → a.defers = [] → a.tmps.size = n → (∀ t, Φ t H' (a.tmps.getD t undef)) → Z a w
  | o :: os, Φ => ∃ S, LocOp P G ops H O n o Φ S ∧ Loc P G ops H O n Z os (match o.dst with | some d => fun t => if t = d then S else Φ t | none => Φ)

theorem cur_cons {o : Oper} {os : List Oper} {Φ S : Nat → SP} {S0 : SP} {t : Nat} : ∀ i,
    cur (o :: os) Φ (fun | 0 => S0 | i + 1 => S i) (fun _ => true) t (i + 1) = cur os (match o.dst with | some d => fun t => if t = d then S0 else Φ t | none => Φ) S (fun _ => true) t i
  | 0 => by
    simp only [cur, true_and, List.getElem?_cons_zero, Option.bind_some]
    cases h : o.dst with
    | none => simp
    | some d =>
      by_cases e : t = d
      · subst e; simp
      · have : ¬ d = t := fun x => e x.symm
        simp [e, this]
  | i + 1 => by
    have hu : cur (o :: os) Φ (fun | 0 => S0 | i + 1 => S i) (fun _ => true) t (i + 1 + 1) = if True ∧ (((o :: os)[i + 1]?).bind (·.dst)) = some t then S i else cur (o :: os) Φ (fun | 0 => S0 | i + 1 => S i) (fun _ => true) t (i + 1) := by simp [cur]
    have hv : ∀ Ψ, cur os Ψ S (fun _ => true) t (i + 1) = if True ∧ ((os[i]?).bind (·.dst)) = some t then S i else cur os Ψ S (fun _ => true) t i := by simp [cur]
    rw [hu, hv, cur_cons i]
    simp

theorem Loc.get {P : Program} {G : Hp → Hp → Prop} {ops : Array Oper} {H : Hp} {O : List Res} {n : Nat} {Z : Act → World → Prop} : ∀ {os : List Oper} {Φ : Nat → SP}, Loc P G ops H O n Z os Φ →
    ∃ S : Nat → SP, (∀ i, Grows G (S i)) ∧ (∀ i o, os[i]? = some o → LocOp P G ops H O n o (fun t => cur os Φ S (fun _ => true) t i) (S i)) ∧
      (∀ a w H', G H H' → SH w H' O → a.defers = [] → a.tmps.size = n → (∀ t, cur os Φ S (fun _ => true) t os.length H' (a.tmps.getD t undef)) → Z a w)
  | [], Φ, h => ⟨fun _ _ _ => True, fun _ _ _ _ _ _ => trivial, fun i o hi => by simp at hi, h⟩
  | o :: os, Φ, ⟨S0, h0, h⟩ => by
    obtain ⟨S, hg, hl, hf⟩ := Loc.get h
    refine ⟨fun | 0 => S0 | i + 1 => S i, fun i => ?_, fun i o' hi => ?_, fun a w H' g1 g2 g3 g4 g5 => hf a w H' g1 g2 g3 g4 fun t => ?_⟩
    · cases i with
      | zero => exact h0.1
      | succ i => exact hg i
    · cases i with
      | zero => simp at hi; subst hi; exact h0
      | succ i =>
        have := hl i o' (by simpa using hi)
        simp only [cur_cons]
        exact this
    · have := g5 t
      rw [List.length_cons, cur_cons] at this
      exact this

theorem wp_draw {P : Program} {G : Hp → Hp → Prop} (hrefl : ∀ H, G H H) (htrans : ∀ A B C, G A B → G B C → G A C) {Q : Exit → Act → World → Prop} {id : Nat} {l : List Oper} (k : Nat) {n : Nat} {Φ : Nat → SP} {H : Hp} {O : List Res}
    (hm : P.follows .mixedOrders = true) (hk : Nat.ble k l.length = true) (hOK : regOK l k = true) (hΦ : ∀ t, Grows G (Φ t))
    (h : Loc P G l.toArray H O n (wpList P l.toArray Q (l.drop k)) (l.take k) Φ) {a : Act} {w : World} (hs : SH w H O) (hd : a.defers = []) (hsz : a.tmps.size = n) (ha : ∀ t, Φ t H (a.tmps.getD t undef)) :
    (Code.region id l.toArray true).wp P Q a w := by
  have hk' : k ≤ l.length := by simpa using hk
  obtain ⟨S, hg, hl, hf⟩ := h.get
  have hlen : (l.take k).length = k := by simp; omega
  have hcur : ∀ t i, i ≤ k → cur (l.take k) Φ S (fun _ => true) t i = cur l Φ S (fun _ => true) t i := by
    intro t i
    induction i with
    | zero => intro _; rfl
    | succ i ih =>
      intro hi
      have : (l.take k)[i]? = l[i]? := by rw [List.getElem?_take]; simp; omega
      simp only [cur, this, ih (by omega)]
  refine wp_region_any hm ?_
  have := any_order (P := P) (Q := Q) htrans (l := l) (k := k) (n := n) (Φ := Φ) (S := S) (H := H) (O := O) hk' hOK hΦ hg (fun i o hi hio => by
      have := hl i o (by rw [List.getElem?_take]; simp [hi, hio])
      have he : (fun t => cur (l.take k) Φ S (fun _ => true) t i) = fun t => cur l Φ S (fun _ => true) t i := funext fun t => hcur t i (by omega)
      rwa [he] at this)
    (fun a w H' g1 g2 g3 g4 g5 => hf a w H' g1 g2 g3 g4 fun t => by rw [hlen, hcur t k (Nat.le_refl _)]; exact g5 t)
    l.length (Array.replicate l.length false) a { w with drawn := w.drawn + 1 } (by simp) (fun j o _ hj => by rw [getD_replicate_false] at hj; cases hj)
    (by
      have : ∀ m, cnt (fun i => (Array.replicate l.length false).getD i false) m = m := by
        intro m
        induction m with
        | zero => rfl
        | succ m ih =>
          have hu : ∀ p : Nat → Bool, cnt p (m + 1) = cnt p m + if p m then 0 else 1 := fun _ => rfl
          rw [hu, ih, getD_replicate_false]
          rfl
      exact this _)
    (.head (fun t _ => getD_replicate_false _ _) ⟨H, hrefl H, hs.drew, hd, hsz, fun t => by
      rw [cur_cut (i := 0) k (Nat.zero_le _) (fun j _ _ _ => getD_replicate_false _ _)]
      exact ha t⟩)
  simpa using this

/- Slots with a value, or with what is known of it. -/
inductive SV where
  | is (v : Value)
  | sat (p : SP)
def SV.sp : SV → SP
  | .is v => fun _ u => u = v
  | .sat p => p
def lks : List (Nat × SV) → Nat → Option SV
  | [], _ => none
  | (k, v) :: l, t => match Nat.beq k t with
    | true => some v
    | false => lks l t
def phi (LL : List (Nat × SV)) (t : Nat) : SP := match lks LL t with
  | some s => s.sp
  | none => fun _ _ => True
def lift (L : List (Nat × Value)) : List (Nat × SV) := L.map fun p => (p.1, .is p.2)

theorem lks_lift : ∀ (L : List (Nat × Value)) (t : Nat), lks (lift L) t = (lk L t).map .is
  | [], _ => rfl
  | (k, v) :: L, t => by
    simp only [lift, List.map_cons, lks, lk]
    cases Nat.beq k t with
    | true => rfl
    | false => exact lks_lift L t

theorem phi_cons (LL : List (Nat × SV)) (d : Nat) (s : SV) : phi ((d, s) :: LL) = fun t => if t = d then s.sp else phi LL t := by
  funext t
  simp only [phi, lks]
  cases hb : Nat.beq d t with
  | true => have := Nat.eq_of_beq_eq_true hb; subst this; simp
  | false => have := Nat.ne_of_beq_eq_false hb; rw [if_neg (fun e => this e.symm)]

def evr (LL : List (Nat × SV)) (looks : List Nat) : Operand → Option Value
  | .tmp t => match looks.any (Nat.beq t) with
    | true => match lks LL t with
      | some (.is v) => some v
      | _ => none
    | false => none
  | .const v => some v
  | .global g => some (.pointer (some ⟨g, 0, none⟩))
  | .func f => some (.func (.func f) #[] #[])

theorem evr_ok {LL : List (Nat × SV)} {looks : List Nat} {H : Hp} {a : Act} (h : ∀ t ∈ looks, phi LL t H (a.tmps.getD t undef)) (x : Operand) (u : Value) (hx : evr LL looks x = some u) : a.eval x = u := by
  cases x with
  | tmp t =>
    simp only [evr] at hx
    split at hx
    · rename_i hm
      split at hx
      · rename_i v hv
        simp at hx; subst hx
        obtain ⟨s, hs, he⟩ := List.any_eq_true.1 hm
        have := Nat.eq_of_beq_eq_true he
        subst this
        have := h t hs
        simp only [phi, hv, SV.sp] at this
        exact this
      · cases hx
    · cases hx
  | const u => simpa [evr, Act.eval] using hx
  | global g => simpa [evr, Act.eval] using hx
  | func f => simpa [evr, Act.eval] using hx

def SegL (P : Program) (G : Hp → Hp → Prop) (ops : Array Oper) (Z : Act → World → Prop) (rest : List Oper) (n : Nat) (LL : List (Nat × SV)) (H : Hp) (O : List Res) : Prop :=
  Loc P G ops H O n Z rest (phi LL)
def EndL (Z : Act → World → Prop) (n : Nat) (LL : List (Nat × SV)) (L : List (Nat × Value)) (H : Hp) (O : List Res) : Prop :=
  ∀ a w, SH w H O → (∀ t, phi LL t H (a.tmps.getD t undef)) → Fr a n L → Z a w

section
variable {P : Program} {G : Hp → Hp → Prop} {ops : Array Oper} {Z : Act → World → Prop} {rest : List Oper} {n : Nat} {LL : List (Nat × SV)} {L : List (Nat × Value)} {H : Hp} {O : List Res}

theorem SegL.done (h : ∀ H', G H H' → EndL Z n LL [] H' O) : SegL P G ops Z [] n LL H O :=
  fun a w H' g1 g2 g3 g4 g5 => h H' g1 a w g2 g5 ⟨g3, g4, fun t v hv => by simp [lk] at hv⟩
theorem EndL.nil (h : ∀ a w, Fr a n L → SH w H O → Z a w) : EndL Z n LL L H O := fun a w hs _ hf => h a w hf hs
theorem Fr.add {a : Act} {t : Nat} {v : Value} (h : Fr a n L) (hv : a.tmps.getD t undef = v) : Fr a n ((t, v) :: L) := by
  refine ⟨h.defers, h.size, fun t' v' h' => ?_⟩
  simp only [lk] at h'
  split at h'
  · rename_i hb
    have := Nat.eq_of_beq_eq_true hb
    subst this
    simp at h'; subst h'; exact hv
  · exact h.get _ _ h'
theorem EndL.is {t : Nat} {v : Value} (hv : lks LL t = some (.is v)) (h : EndL Z n LL ((t, v) :: L) H O) : EndL Z n LL L H O := fun a w hs hp hf =>
  h a w hs hp (hf.add (by have := hp t; simp only [phi, hv, SV.sp] at this; exact this))
theorem EndL.sat {t : Nat} {p : SP} (hv : lks LL t = some (.sat p)) (h : ∀ v, p H v → EndL Z n LL ((t, v) :: L) H O) : EndL Z n LL L H O := fun a w hs hp hf =>
  h _ (by have := hp t; simp only [phi, hv, SV.sp] at this; exact this) a w hs hp (hf.add rfl)

theorem SegL.of_loc {d : Tmp} {o : Oper} {s : SV} (ho : o.dst = some d) (hl : LocOp P G ops H O n o (phi LL) s.sp) (k : SegL P G ops Z rest n ((d, s) :: LL) H O) : SegL P G ops Z (o :: rest) n LL H O := by
  refine ⟨s.sp, hl, ?_⟩
  rw [ho]
  simp only [← phi_cons]
  exact k

def looks (op : Op) : List Nat := Oper.looksAt #[] { dst := none, op, type := 0, pos := "", after := #[], guard := none }
theorem looks_none {d : Option Tmp} {op : Op} {T : TypeId} {pos : String} {af : Array Edge} : Oper.looksAt ops { dst := d, op, type := T, pos, after := af, guard := none } = looks op := by simp [Oper.looksAt, looks]
theorem looks_sub {d : Option Tmp} {op : Op} {T : TypeId} {pos : String} {af : Array Edge} {g : Option (Nat × Bool)} {t : Nat} (h : t ∈ looks op) : t ∈ Oper.looksAt ops { dst := d, op, type := T, pos, after := af, guard := g } := by
  simp only [Oper.looksAt, looks, List.mem_append] at h ⊢
  rcases h with h | h
  · exact .inl h
  · simp at h

theorem SegL.op {d : Tmp} {op : Op} {T : TypeId} {pos : String} {af : Array Edge} {v : Value} (hrefl : ∀ H, G H H)
    (h : ∀ H', G H H' → OpT P op T (evr LL (looks op)) H' O v) (hd : Nat.blt d n = true) (k : SegL P G ops Z rest n ((d, .is v) :: LL) H O) :
    SegL P G ops Z ({ dst := some d, op, type := T, pos, after := af, guard := none } :: rest) n LL H O := by
  refine SegL.of_loc (s := .is v) rfl ⟨fun _ _ _ _ h => h, fun d' hd' => ?_, fun H' a w g1 g2 g3 g4 g5 K Q hK => ?_⟩ k
  · simp at hd'; subst hd'; simpa using hd
  · rw [if_pos (by simp [Region.wanted])]
    rw [looks_none] at g5
    exact Oper.wp_of_quietAt (h H' g1 a w _ rfl rfl (evr_ok g5) g2) g2 fun w' hw' => hK _ _ H' (hrefl H') hw' (fun _ => rfl)

theorem SegL.opG {d t : Tmp} {op : Op} {T : TypeId} {pos : String} {af : Array Edge} {v : Value} {j : Nat} {b : Bool} (hrefl : ∀ H, G H H)
    (hj : guardSlot ops j = some t) (hb : lks LL t = some (.is (.bool b)))
    (h : ∀ H', G H H' → OpT P op T (evr LL (looks op)) H' O v) (hd : Nat.blt d n = true) (k : SegL P G ops Z rest n ((d, .is v) :: LL) H O) :
    SegL P G ops Z ({ dst := some d, op, type := T, pos, after := af, guard := some (j, b) } :: rest) n LL H O := by
  refine SegL.of_loc (s := .is v) rfl ⟨fun _ _ _ _ h => h, fun d' hd' => ?_, fun H' a w g1 g2 g3 g4 g5 K Q hK => ?_⟩ k
  · simp at hd'; subst hd'; simpa using hd
  · have hjt := hj
    unfold guardSlot at hjt
    have ht : a.tmps.getD t undef = .bool b := by
      have := g5 t (by simp [Oper.looksAt, hjt])
      simp only [phi, hb, SV.sp] at this
      exact this
    rw [if_pos (by simp [Region.wanted, yielded_of hj ht])]
    refine Oper.wp_of_quietAt (h H' g1 a w _ rfl rfl (evr_ok fun t ht => g5 t (looks_sub ht)) g2) g2 fun w' hw' => hK _ _ H' (hrefl H') hw' (fun _ => rfl)

theorem SegL.skipG {d t : Tmp} {op : Op} {T : TypeId} {pos : String} {af : Array Edge} {j : Nat} {b c : Bool} (hrefl : ∀ H, G H H)
    (hj : guardSlot ops j = some t) (hb : lks LL t = some (.is (.bool c))) (hne : (c == b) = false) (hd : Nat.blt d n = true) (k : SegL P G ops Z rest n ((d, .is undef) :: LL) H O) :
    SegL P G ops Z ({ dst := some d, op, type := T, pos, after := af, guard := some (j, b) } :: rest) n LL H O := by
  refine SegL.of_loc (s := .is undef) rfl ⟨fun _ _ _ _ h => h, fun d' hd' => ?_, fun H' a w g1 g2 g3 g4 g5 K Q hK => ?_⟩ k
  · simp at hd'; subst hd'; simpa using hd
  · have hjt := hj
    unfold guardSlot at hjt
    have ht : a.tmps.getD t undef = .bool c := by
      have := g5 t (by simp [Oper.looksAt, hjt])
      simp only [phi, hb, SV.sp] at this
      exact this
    rw [if_neg (by simp only [Region.wanted, yielded_of hj ht]; simpa using hne)]
    exact hK _ _ H' (hrefl H') g2 (fun _ => rfl)

/- An operation whose value is one of many: a call that makes memory, say. -/
def OpP (P : Program) (G : Hp → Hp → Prop) (op : Op) (T : TypeId) (E : Operand → Option Value) (H : Hp) (O : List Res) (S : SP) : Prop :=
  ∀ (a : Act) (w : World) (o : Oper) (next : Act → World → Prop) (Q : Exit → Act → World → Prop), o.op = op → o.type = T → (∀ x u, E x = some u → a.eval x = u) → SH w H O →
    (∀ v w' H', G H H' → S H' v → SH w' H' O → next (a.put o.dst v) w') → o.wp P a w next Q

theorem SegL.opP {d : Tmp} {op : Op} {T : TypeId} {pos : String} {af : Array Edge} {S : SP} (hS : Grows G S)
    (h : ∀ H', G H H' → OpP P G op T (evr LL (looks op)) H' O S) (hd : Nat.blt d n = true) (k : SegL P G ops Z rest n ((d, .sat S) :: LL) H O) :
    SegL P G ops Z ({ dst := some d, op, type := T, pos, after := af, guard := none } :: rest) n LL H O := by
  refine SegL.of_loc (s := .sat S) rfl ⟨hS, fun d' hd' => ?_, fun H' a w g1 g2 g3 g4 g5 K Q hK => ?_⟩ k
  · simp at hd'; subst hd'; simpa using hd
  · rw [if_pos (by simp [Region.wanted])]
    rw [looks_none] at g5
    exact h H' g1 a w _ _ _ rfl rfl (evr_ok g5) g2 fun v w' H'' hle hs hw' => hK v w' H'' hle hw' (fun _ => hs)

/- An operation on slots of which only something is known. -/
theorem SegL.opV {d : Tmp} {op : Op} {T : TypeId} {pos : String} {af : Array Edge} {S : SP} (hS : Grows G S)
    (h : ∀ H' (E : Operand → Option Value), G H H' → (∀ x v, evr LL (looks op) x = some v → E x = some v) → (∀ t p, (looks op).any (Nat.beq t) = true → lks LL t = some (.sat p) → ∃ v, p H' v ∧ E (.tmp t) = some v) → OpP P G op T E H' O S)
    (hd : Nat.blt d n = true) (k : SegL P G ops Z rest n ((d, .sat S) :: LL) H O) :
    SegL P G ops Z ({ dst := some d, op, type := T, pos, after := af, guard := none } :: rest) n LL H O := by
  refine SegL.of_loc (s := .sat S) rfl ⟨hS, fun d' hd' => ?_, fun H' a w g1 g2 g3 g4 g5 K Q hK => ?_⟩ k
  · simp at hd'; subst hd'; simpa using hd
  · rw [if_pos (by simp [Region.wanted])]
    rw [looks_none] at g5
    refine h H' (fun x => some (a.eval x)) g1 (fun x v hx => by rw [evr_ok g5 x v hx]) (fun t p ht hp => ?_) a w _ _ _ rfl rfl (fun x u hx => by simpa using hx) g2 fun v w' H'' hle hs hw' => hK v w' H'' hle hw' (fun _ => hs)
    obtain ⟨s, hs, he⟩ := List.any_eq_true.1 ht
    have := Nat.eq_of_beq_eq_true he
    subst this
    have := g5 t hs
    simp only [phi, hp, SV.sp] at this
    exact ⟨_, this, rfl⟩

theorem phi_lift {a : Act} (hf : Fr a n L) (t : Nat) : phi (lift L) t H (a.tmps.getD t undef) := by
  simp only [phi, lks_lift]
  cases h : lk L t with
  | none => trivial
  | some v => exact hf.get t v h
theorem phi_lift_grows (t : Nat) : Grows G (phi (lift L) t) := by
  intro H H' v _ h
  simp only [phi, lks_lift] at *
  cases h' : lk L t with
  | none => trivial
  | some u => rw [h'] at h; exact h
end

section
variable {P : Program} {Q : Exit → Act → World → Prop} {n : Nat} {L : List (Nat × Value)} {H : Hp} {O : List Res}
/- A region that draws its order; 'k' operations ahead of a tail in the order of the text. What stays may grow: -/
theorem Wp.draw {id : Nat} {l : List Oper} (k : Nat) (hm : P.follows .mixedOrders = true) (hk : Nat.ble k l.length = true) (hOK : regOK l k = true)
    (h : SegL P Hp.le l.toArray (wpList P l.toArray Q (l.drop k)) (l.take k) n (lift L) H O) : Wp P (.region id l.toArray true) Q n L H O :=
  fun _ _ hf hs => wp_draw (G := Hp.le) Hp.le.refl (fun _ _ _ => Hp.le.trans) k hm hk hOK phi_lift_grows h hs hf.defers hf.size (phi_lift hf)
/- It does not: -/
theorem Wp.drawE {id : Nat} {l : List Oper} (k : Nat) (hm : P.follows .mixedOrders = true) (hk : Nat.ble k l.length = true) (hOK : regOK l k = true)
    (h : SegL P Eq l.toArray (wpList P l.toArray Q (l.drop k)) (l.take k) n (lift L) H O) : Wp P (.region id l.toArray true) Q n L H O :=
  fun _ _ hf hs => wp_draw (G := Eq) Eq.refl (fun _ _ _ => Eq.trans) k hm hk hOK phi_lift_grows h hs hf.defers hf.size (phi_lift hf)

section
variable {ops : Array Oper} {Z : Act → World → Prop} {rest : List Oper} {LL : List (Nat × SV)}
theorem SegL.opE {d : Tmp} {op : Op} {T : TypeId} {pos : String} {af : Array Edge} {v : Value}
    (h : OpT P op T (evr LL (looks op)) H O v) (hd : Nat.blt d n = true) (k : SegL P Eq ops Z rest n ((d, .is v) :: LL) H O) :
    SegL P Eq ops Z ({ dst := some d, op, type := T, pos, after := af, guard := none } :: rest) n LL H O := SegL.op Eq.refl (fun _ e => e ▸ h) hd k
theorem SegL.opGE {d t : Tmp} {op : Op} {T : TypeId} {pos : String} {af : Array Edge} {v : Value} {j : Nat} {b : Bool}
    (hj : guardSlot ops j = some t) (hb : lks LL t = some (.is (.bool b)))
    (h : OpT P op T (evr LL (looks op)) H O v) (hd : Nat.blt d n = true) (k : SegL P Eq ops Z rest n ((d, .is v) :: LL) H O) :
    SegL P Eq ops Z ({ dst := some d, op, type := T, pos, after := af, guard := some (j, b) } :: rest) n LL H O := SegL.opG Eq.refl hj hb (fun _ e => e ▸ h) hd k
theorem SegL.skipGE {d t : Tmp} {op : Op} {T : TypeId} {pos : String} {af : Array Edge} {j : Nat} {b c : Bool}
    (hj : guardSlot ops j = some t) (hb : lks LL t = some (.is (.bool c))) (hne : (c == b) = false) (hd : Nat.blt d n = true) (k : SegL P Eq ops Z rest n ((d, .is undef) :: LL) H O) :
    SegL P Eq ops Z ({ dst := some d, op, type := T, pos, after := af, guard := some (j, b) } :: rest) n LL H O := SegL.skipG Eq.refl hj hb hne hd k
theorem SegL.doneE (h : EndL Z n LL [] H O) : SegL P Eq ops Z [] n LL H O := SegL.done fun _ e => e ▸ h
theorem EndL.seg {Q : Exit → Act → World → Prop} {tail : List Oper} (h : Seg P ops Q tail n L H O) : EndL (wpList P ops Q tail) n LL L H O := EndL.nil h
end
end
end Go.GK
