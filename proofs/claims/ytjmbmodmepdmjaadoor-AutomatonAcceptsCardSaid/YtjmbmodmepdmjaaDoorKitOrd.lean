/- A region whose order is open: one pass in the order of the text serves every order, where what each operation touches (slots, and owned things) is ordered. The values that come out of the operations are kept in a record. -/
import Derived.Test.YtjmbmodmepdmjaaDoorKitMore
namespace Go.GK

/- What comes ahead of an operation in every order: a set of numbers, as bits. -/
def edgeBits (acc : List Nat) : List Edge → Nat
  | [] => 0
  | e :: es => (if Region.binds .any e then 2 ^ e.on ||| acc.getD e.on 0 else 0) ||| edgeBits acc es
def ancs : List Nat → List Oper → List Nat
  | acc, [] => acc
  | acc, o :: os => ancs (acc ++ [edgeBits acc o.after.toList]) os
def anc (l : List Oper) (i : Nat) : Nat := (ancs [] l).getD i 0
def Closed (l : List Oper) (p : Nat → Bool) : Prop := ∀ (j : Nat) (o : Oper), l[j]? = some o → p j = true → ∀ e ∈ o.after, Region.binds .any e = true → p e.on = true

theorem edgeBits_spec {acc : List Nat} {j : Nat} : ∀ {es : List Edge}, (edgeBits acc es).testBit j = true → ∃ e ∈ es, Region.binds .any e = true ∧ (j = e.on ∨ (acc.getD e.on 0).testBit j = true)
  | [], h => by simp [edgeBits] at h
  | e :: es, h => by
    simp only [edgeBits, Nat.testBit_or, Bool.or_eq_true] at h
    rcases h with h | h
    · split at h
      · rename_i hb
        simp only [Nat.testBit_or, Bool.or_eq_true, Nat.testBit_two_pow, decide_eq_true_eq] at h
        exact ⟨e, by simp, hb, h.imp Eq.symm id⟩
      · simp at h
    · obtain ⟨e', h1, h2⟩ := edgeBits_spec h
      exact ⟨e', by simp [h1], h2⟩

theorem ancs_spec {l : List Oper} {p : Nat → Bool} (hc : Closed l p) : ∀ (os : List Oper) (acc : List Nat) (pre : List Oper), l = pre ++ os → acc.length = pre.length →
    (∀ i, i < acc.length → ∀ o, l[i]? = some o → (∀ e ∈ o.after, Region.binds .any e = true → p e.on = true) → ∀ j, (acc.getD i 0).testBit j = true → p j = true) →
    backB pre.length os = true →
    ∀ i, i < l.length → ∀ o, l[i]? = some o → (∀ e ∈ o.after, Region.binds .any e = true → p e.on = true) → ∀ j, ((ancs acc os).getD i 0).testBit j = true → p j = true
  | [], acc, pre, hl, hlen, h, _, i, hi, o, ho, hd, j, hj => by
    subst hl; simp at hi
    exact h i (by omega) o ho hd j hj
  | o :: os, acc, pre, hl, hlen, h, hb, i, hi, oi, hoi, hd, j, hj => by
    simp only [backB, Bool.and_eq_true] at hb
    refine ancs_spec hc os _ (pre ++ [o]) (by simp [hl]) (by simp [hlen]) ?_ (by simpa using hb.2) i hi oi hoi hd j hj
    clear hj hd hoi hi
    intro i hi' oi' hoi hd j hj
    by_cases e : i < acc.length
    · rw [List.getD_eq_getElem?_getD, List.getElem?_append_left e, ← List.getD_eq_getElem?_getD] at hj
      exact h i e oi' hoi hd j hj
    · have e2 : i = acc.length := by simp at hi'; omega
      subst e2
      rw [List.getD_eq_getElem?_getD, List.getElem?_append_right (Nat.le_refl _)] at hj
      simp only [Nat.sub_self, List.getElem?_cons_zero, Option.getD_some] at hj
      obtain ⟨e, he, hbi, hj⟩ := edgeBits_spec hj
      have hoo : oi' = o := by
        rw [hl, hlen, List.getElem?_append_right (Nat.le_refl _)] at hoi
        simpa using hoi.symm
      rw [hoo] at hd
      have he' : e ∈ o.after := by simpa using he
      have hpe := hd e he' hbi
      rcases hj with rfl | hj
      · exact hpe
      · have hlt : e.on < acc.length := by
          have := (Array.all_eq_true_iff_forall_mem.1 hb.1) e he'
          simp [hbi] at this; omega
        have hoe : ∃ oe, l[e.on]? = some oe := by
          have : e.on < l.length := by rw [hl]; simp; omega
          exact ⟨l[e.on], by simp [this]⟩
        obtain ⟨oe, hoe⟩ := hoe
        exact h e.on hlt oe hoe (hc e.on oe hoe hpe) j hj

theorem anc_spec {l : List Oper} {p : Nat → Bool} (hb : backB 0 l = true) (hc : Closed l p) {i : Nat} {o : Oper} (ho : l[i]? = some o) (hd : ∀ e ∈ o.after, Region.binds .any e = true → p e.on = true) : ∀ j, (anc l i).testBit j = true → p j = true :=
  ancs_spec hc l [] [] rfl rfl (fun i hi => by simp at hi) hb i ((List.getElem?_eq_some_iff.1 ho).1) o ho hd

def upP (p : Nat → Bool) (i : Nat) : Nat → Bool := fun j => if j = i then true else p j

section
variable {P : Program} {Q : Exit → Act → World → Prop} {l : List Oper}
/- An invariant over what has run. -/
theorem any_inv (hb : backB 0 l = true) {J : (Nat → Bool) → Act → World → Prop}
    (step : ∀ p a w i o, l[i]? = some o → p i = false → Closed l p → (∀ j, (anc l i).testBit j = true → p j = true) → (∀ j oj, l[j]? = some oj → p j = true → ∀ m, (anc l j).testBit m = true → p m = true) → J p a w →
      if Region.wanted o (yielded l.toArray a.tmps) then o.wp P a w (J (upP p i)) Q else J (upP p i) (a.put o.dst undef) w)
    (fin : ∀ p a w, (∀ i, i < l.length → p i = true) → J p a w → Q .normal a w) :
    ∀ (fuel : Nat) (listed : Array Bool) (a : Act) (w : World), listed.size = l.length → Closed l (fun i => listed.getD i false) → cnt (fun i => listed.getD i false) l.length = fuel →
      J (fun i => listed.getD i false) a w → wpAny P .any l.toArray Q fuel listed a w := by
  have hback := backB_spec hb
  have allListed : ∀ (listed : Array Bool), listed.size = l.length → Region.ready .any l.toArray listed = [] → ∀ i, i < l.length → listed.getD i false = true := by
    intro listed hsz hr i
    induction i using Nat.strongRecOn with
    | _ i ih =>
      intro hi
      cases hl : listed.getD i false with
      | true => rfl
      | false =>
        exfalso
        have hmem : i ∈ Region.ready .any l.toArray listed := mem_ready.2 ⟨getD_in (by rw [hsz]; exact hi) hl, l[i], by simp [hi], fun e he hb => by
          have := hback i l[i] (by simp [hi]) e he hb
          exact ih e.on (by omega) (by omega)⟩
        rw [hr] at hmem; cases hmem
  intro fuel
  induction fuel with
  | zero =>
    intro listed a w hsz _ hcount hJ
    have hall := cnt_zero hcount
    have hr : Region.ready .any l.toArray listed = [] := by
      cases hrr : Region.ready .any l.toArray listed with
      | nil => rfl
      | cons i rs =>
        exfalso
        have hmem : i ∈ Region.ready .any l.toArray listed := by rw [hrr]; simp
        obtain ⟨hun, oi, hoi, _⟩ := mem_ready.1 hmem
        have hlt : i < l.length := by simpa using (Array.getElem?_eq_some_iff.1 hoi).1
        have h2 : listed.getD i false = true := hall i hlt
        rw [getD_both hun] at h2; cases h2
    exact ⟨hr, fin _ a w hall hJ⟩
  | succ fuel ih =>
    intro listed a w hsz hcl hcount hJ
    refine ⟨fun hr => fin _ a w (allListed listed hsz hr) hJ, fun i hi => ?_⟩
    obtain ⟨hun, o, hoi, hdeps⟩ := mem_ready.1 hi
    have hli : l[i]? = some o := by simpa using hoi
    have hlt : i < l.length := (List.getElem?_eq_some_iff.1 hli).1
    have hun' := getD_both hun
    have hsz' : (listed.setIfInBounds i true).size = l.length := by simp [hsz]
    have hgi : (listed.setIfInBounds i true).getD i false = true := by simp [hsz, hlt]
    have hgo : ∀ j, j ≠ i → (listed.setIfInBounds i true).getD j false = listed.getD j false := fun j hj => getD_set_ne false (Ne.symm hj)
    have hcl' : Closed l (fun i_1 => (listed.setIfInBounds i true).getD i_1 false) := by
      intro j oj hj hl e he hb
      show (listed.setIfInBounds i true).getD e.on false = true
      have hl : (listed.setIfInBounds i true).getD j false = true := hl
      by_cases hji : j = i
      · subst hji
        have : oj = o := Option.some.inj (hj.symm.trans hli)
        subst this
        exact getD_set_true (hdeps e he hb)
      · rw [hgo j hji] at hl
        exact getD_set_true (hcl j oj hj hl e he hb)
    have hcount' : cnt (fun j => (listed.setIfInBounds i true).getD j false) l.length = fuel := by
      have := cnt_set (p := fun j => listed.getD j false) (q := fun j => (listed.setIfInBounds i true).getD j false) hlt hun' hgi hgo
      omega
    have hup : upP (fun j => listed.getD j false) i = fun j => (listed.setIfInBounds i true).getD j false := by
      funext j
      unfold upP
      by_cases e : j = i
      · subst e; rw [if_pos rfl]; exact hgi.symm
      · rw [if_neg e]; exact (hgo j e).symm
    have hst := step (fun j => listed.getD j false) a w i o hli hun' hcl (anc_spec hb hcl hli hdeps) (fun j oj hj hp => anc_spec hb hcl hj (hcl j oj hj hp)) hJ
    rw [hup] at hst
    refine wpOp_mono (fun a' w' hJ' => ih _ a' w' hsz' hcl' hcount' hJ') ?_
    unfold wpOp
    simp only [hoi]
    split
    · rename_i hw; rw [if_pos hw] at hst; exact .inl hst
    · rename_i hw; rw [if_neg hw] at hst; exact hst
theorem wp_any_inv {id : Nat} (hm : P.follows .mixedOrders = true) (hb : backB 0 l = true) {J : (Nat → Bool) → Act → World → Prop}
    (step : ∀ p a w i o, l[i]? = some o → p i = false → Closed l p → (∀ j, (anc l i).testBit j = true → p j = true) → (∀ j oj, l[j]? = some oj → p j = true → ∀ m, (anc l j).testBit m = true → p m = true) → J p a w →
      if Region.wanted o (yielded l.toArray a.tmps) then o.wp P a w (J (upP p i)) Q else J (upP p i) (a.put o.dst undef) w)
    (fin : ∀ p a w, (∀ i, i < l.length → p i = true) → J p a w → Q .normal a w) {a : Act} {w : World} (h : J (fun _ => false) a { w with drawn := w.drawn + 1 }) :
    (Code.region id l.toArray true).wp P Q a w := by
  refine wp_region_any hm ?_
  have hf : (fun i => (Array.replicate l.length false).getD i false) = fun _ => false := funext fun i => getD_replicate_false _ _
  have := any_inv hb step fin l.length (Array.replicate l.length false) a { w with drawn := w.drawn + 1 } (by simp) (fun j o _ hj => by rw [hf] at hj; cases hj)
    (by
      rw [hf]
      have : ∀ m, cnt (fun _ => false) m = m := by
        intro m
        induction m with
        | zero => rfl
        | succ m ih =>
          have hu : cnt (fun _ => false) (m + 1) = cnt (fun _ => false) m + 1 := rfl
          rw [hu, ih]
      exact this _)
    (by rw [hf]; exact h)
  simpa using this
end
end Go.GK
