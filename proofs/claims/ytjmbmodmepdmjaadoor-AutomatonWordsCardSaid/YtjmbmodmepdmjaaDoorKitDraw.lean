/- Operations of regions whose order is open. -/
import Derived.Test.YtjmbmodmepdmjaaDoorKitDenOps
namespace Go.GK
def blkOf : Value → Nat
  | .pointer (some a) => a.block
  | _ => 0
def prj (v : Value) (k : Nat) : Value := match v with
  | .agg cs => cs.getD k undef
  | .tuple vs => vs.getD k undef
  | _ => undef
def evk (L : List (Nat × Value)) (lo : List Nat) : Operand → Option Value
  | .tmp t => match memB lo t with
    | true => lk L t
    | false => none
  | .const v => some v
  | .global g => some (.pointer (some ⟨g, 0, none⟩))
  | .func f => some (.func (.func f) #[] #[])
theorem evk_ok {L : List (Nat × Value)} {lo : List Nat} {a : Act} (h : ∀ t ∈ lo, ∀ v, lk L t = some v → a.tmps.getD t undef = v) (x : Operand) (u : Value) (hx : evk L lo x = some u) : a.eval x = u := by
  cases x with
  | tmp t =>
    simp only [evk] at hx
    split at hx
    · rename_i hm; exact h t (memB_iff.1 hm) u hx
    · cases hx
  | const u => simpa [evk, Act.eval] using hx
  | global g => simpa [evk, Act.eval] using hx
  | func f => simpa [evk, Act.eval] using hx

section
variable {P : Program} {Q : Exit → Act → World → Prop} {n N i : Nat} {H : Hp} {O : List Res} {ops : Array Oper} {os : List Oper} {an : Ann} {as : List Ann} {LL : Rec → List (Nat × Value)} {XX : Rec → List Res} {FF : List (Nat × (Rec → Hp → Prop))}
def FactsO (an : Ann) (i : Nat) (FF : List (Nat × (Rec → Hp → Prop))) (ρ : Rec) (H' : Hp) : Prop := ∀ m, memB an.ms m = true → Nat.beq m i = false → lkF FF ρ H' m
def RegsO (an : Ann) (XX : Rec → List Res) (O : List Res) (ρ : Rec) (Y : List Res) : Prop := ∀ r x, (memB an.rd r || memB an.wr r) = true → (XX ρ)[r]? = some x → (Y ++ O)[r]? = some x
theorem SegO.runK {id : Nat} {l : List Oper} {L : List (Nat × Value)} (k : Nat) (A : List Ann) (hm : P.follows .mixedOrders = true) (hN : (O.take k).length = k) (hOK : regO l A k = true)
    (h : SegO P l.toArray Q n k H (O.drop k) 0 l A (fun _ => L) (fun _ => O.take k) []) : Wp P (.region id l.toArray true) Q n L H O := by
  have := SegO.run (id := id) A hm hN hOK h
  rwa [List.take_append_drop] at this
theorem SegO.done (h : ∀ H' ρ, H.le H' → (∀ m, lkF FF ρ H' m) → At Q .normal n (LL ρ) H' (XX ρ ++ O)) : SegO P ops Q n N H O i [] as LL XX FF := h
theorem setK {Y : List Res} {r : Nat} {x : Res} (h : r < Y.length) : (Y ++ O).set r x = Y.set r x ++ O := by rw [List.set_append_left _ _ h]
theorem factsO_of {ρ : Rec} {H' : Hp} (h : ∀ m, m ∈ an.ms → m ≠ i → lkF FF ρ H' m) : FactsO an i FF ρ H' := fun m hm hne => h m (memB_iff.1 hm) (Nat.ne_of_beq_eq_false hne)
theorem regsO_of {ρ : Rec} {Y : List Res} (h : ∀ r, (memB an.rd r = true ∨ memB an.wr r = true) → ∀ x, (XX ρ)[r]? = some x → Y[r]? = some x) : RegsO an XX O ρ Y := fun r x hr hx => by
  have hr' : memB an.rd r = true ∨ memB an.wr r = true := by simpa using hr
  have hy := h r hr' x hx
  rw [List.getElem?_append_left (List.getElem?_eq_some_iff.1 hy).1]; exact hy
theorem quiet_upd {val : Rec → Value} (hi : memB an.ms i = false) (st : ∀ ρ, val (mask an.ms ρ) = val ρ) (ρ : Rec) (v : Value) : val (upd ρ i v) = val ρ := by
  rw [← st (upd ρ i v), ← st ρ]
  exact congrArg val (mask_congr fun m hm => upd_ne fun e => by subst e; rw [memB_iff.2 hm] at hi; cases hi)
/- one that only yields a value -/
theorem SegO.op {d : Tmp} {op : Op} {T : TypeId} {pos : String} {af : Array Edge} {val : Rec → Value} (hw : an.wr = []) (hi : memB an.ms i = false) (st : ∀ ρ, val (mask an.ms ρ) = val ρ)
    (h : ∀ H' ρ Y, H.le H' → FactsO an i FF ρ H' → RegsO an XX O ρ Y → OpT P op T (evk (LL ρ) (looks op)) H' (Y ++ O) (val ρ)) (hd : Nat.blt d n = true)
    (k : SegO P ops Q n N H O (i + 1) os as (fun ρ => (d, val ρ) :: LL ρ) XX ((i, fun _ _ => True) :: FF)) :
    SegO P ops Q n N H O i ({ dst := some d, op, type := T, pos, after := af, guard := none } :: os) (an :: as) LL XX FF := by
  refine ⟨fun ρ => ⟨val ρ, [], fun _ => True⟩, ⟨fun d' hd' => by simp at hd'; subst hd'; simpa using hd, fun ρ => by rw [st], fun _ _ _ _ h => h, fun H' ρ Y a w h1 h2 h3 h4 h5 h6 h7 h8 K Q hK => ?_⟩, fun ρ => by rw [hw]; rfl, k⟩
  rw [if_pos (by simp [Region.wanted])]
  rw [looks_none] at h4
  refine Oper.wp_of_quietAt (h H' ρ Y h1 (factsO_of h2) (regsO_of h5) a w _ rfl rfl (evk_ok h4) h6) h6 fun w' hw' => ?_
  exact hK _ w' H' Y (Hp.le.refl _) hw' h3 (fun _ _ => rfl) (fun r x hr => by rw [hw] at hr; cases hr) trivial fun _ => quiet_upd hi st ρ _
theorem yields_of {a : Act} {ρ : Rec} {j t : Nat} {b : Bool} {d : Option Tmp} {op : Op} {T : TypeId} {pos : String} {af : Array Edge} (hj : guardSlot ops j = some t) (hb : lk (LL ρ) t = some (.bool b))
    (h4 : ∀ t ∈ Oper.looksAt ops { dst := d, op, type := T, pos, after := af, guard := some (j, b) }, ∀ v, lk (LL ρ) t = some v → a.tmps.getD t undef = v) : yielded ops a.tmps j = some b := by
  refine yielded_of hj (h4 t ?_ _ hb)
  have hj2 := hj
  unfold guardSlot at hj2
  simp [Oper.looksAt, hj2]
theorem SegO.opG {d t j : Nat} {b : Bool} {op : Op} {T : TypeId} {pos : String} {af : Array Edge} {val : Rec → Value} (hj : guardSlot ops j = some t) (hb : ∀ ρ, lk (LL ρ) t = some (.bool b)) (hw : an.wr = []) (hi : memB an.ms i = false) (st : ∀ ρ, val (mask an.ms ρ) = val ρ)
    (h : ∀ H' ρ Y, H.le H' → FactsO an i FF ρ H' → RegsO an XX O ρ Y → OpT P op T (evk (LL ρ) (looks op)) H' (Y ++ O) (val ρ)) (hd : Nat.blt d n = true)
    (k : SegO P ops Q n N H O (i + 1) os as (fun ρ => (d, val ρ) :: LL ρ) XX ((i, fun _ _ => True) :: FF)) :
    SegO P ops Q n N H O i ({ dst := some d, op, type := T, pos, after := af, guard := some (j, b) } :: os) (an :: as) LL XX FF := by
  refine ⟨fun ρ => ⟨val ρ, [], fun _ => True⟩, ⟨fun d' hd' => by simp at hd'; subst hd'; simpa using hd, fun ρ => by rw [st], fun _ _ _ _ h => h, fun H' ρ Y a w h1 h2 h3 h4 h5 h6 h7 h8 K Q hK => ?_⟩, fun ρ => by rw [hw]; rfl, k⟩
  rw [if_pos (by simp [Region.wanted, yields_of hj (hb ρ) h4])]
  refine Oper.wp_of_quietAt (h H' ρ Y h1 (factsO_of h2) (regsO_of h5) a w _ rfl rfl (evk_ok fun t ht => h4 t (looks_sub ht)) h6) h6 fun w' hw' => ?_
  exact hK _ w' H' Y (Hp.le.refl _) hw' h3 (fun _ _ => rfl) (fun r x hr => by rw [hw] at hr; cases hr) trivial fun _ => quiet_upd hi st ρ _
theorem SegO.skipG {d : Option Tmp} {t j : Nat} {b c : Bool} {op : Op} {T : TypeId} {pos : String} {af : Array Edge} (hj : guardSlot ops j = some t) (hb : ∀ ρ, lk (LL ρ) t = some (.bool c)) (hne : (c == b) = false) (hw : an.wr = []) (hd : ∀ d', d = some d' → d' < n)
    (k : SegO P ops Q n N H O (i + 1) os as (fun ρ => putL d undef (LL ρ)) XX ((i, fun _ _ => True) :: FF)) :
    SegO P ops Q n N H O i ({ dst := d, op, type := T, pos, after := af, guard := some (j, b) } :: os) (an :: as) LL XX FF := by
  refine ⟨fun ρ => ⟨undef, [], fun _ => True⟩, ⟨hd, fun ρ => rfl, fun _ _ _ _ h => h, fun H' ρ Y a w h1 h2 h3 h4 h5 h6 h7 h8 K Q hK => ?_⟩, fun ρ => by rw [hw]; rfl, k⟩
  have hy : yielded ops a.tmps j = some c := yielded_of hj (h4 t (by have hj2 := hj; unfold guardSlot at hj2; simp [Oper.looksAt, hj2]) _ (hb ρ))
  rw [if_neg (by simp only [Region.wanted, hy]; simpa using hne)]
  exact hK _ w H' Y (Hp.le.refl _) h6 h3 (fun _ _ => rfl) (fun r x hr => by rw [hw] at hr; cases hr) trivial fun _ => rfl
theorem SegO.skipU {d : Option Tmp} {t j : Nat} {b : Bool} {op : Op} {T : TypeId} {pos : String} {af : Array Edge} (hj : guardSlot ops j = some t) (hb : ∀ ρ, lk (LL ρ) t = some undef) (hw : an.wr = []) (hd : ∀ d', d = some d' → d' < n)
    (k : SegO P ops Q n N H O (i + 1) os as (fun ρ => putL d undef (LL ρ)) XX ((i, fun _ _ => True) :: FF)) :
    SegO P ops Q n N H O i ({ dst := d, op, type := T, pos, after := af, guard := some (j, b) } :: os) (an :: as) LL XX FF := by
  refine ⟨fun ρ => ⟨undef, [], fun _ => True⟩, ⟨hd, fun ρ => rfl, fun _ _ _ _ h => h, fun H' ρ Y a w h1 h2 h3 h4 h5 h6 h7 h8 K Q hK => ?_⟩, fun ρ => by rw [hw]; rfl, k⟩
  have hy : yielded ops a.tmps j = none := yielded_undef hj (h4 t (by have hj2 := hj; unfold guardSlot at hj2; simp [Oper.looksAt, hj2]) _ (hb ρ))
  rw [if_neg (by simp [Region.wanted, hy])]
  exact hK _ w H' Y (Hp.le.refl _) h6 h3 (fun _ _ => rfl) (fun r x hr => by rw [hw] at hr; cases hr) trivial fun _ => rfl

/- what an operation that makes or changes memory leaves -/
def Left (val : Rec → Value) (fact : Rec → Hp → Prop) (i : Nat) (ρ : Rec) (O2 : Value → List Res) (v : Value) (H'' : Hp) (O'' : List Res) : Prop :=
  O'' = O2 v ∧ fact (upd ρ i v) H'' ∧ val (upd ρ i v) = v
/- one that writes one register -/
theorem SegO.op1 {d : Tmp} {op : Op} {T : TypeId} {pos : String} {af : Array Edge} {val : Rec → Value} {res : Rec → Res} (r : Nat) (hw : an.wr = [r]) (hr : Nat.blt r N = true) (stv : ∀ ρ, val (mask an.ms ρ) = val ρ) (str : ∀ ρ, res (mask an.ms ρ) = res ρ)
    (h : ∀ H' ρ Y, H.le H' → FactsO an i FF ρ H' → RegsO an XX O ρ Y → OpS P op T (evk (LL ρ) (looks op)) H' (Y ++ O) (fun v H'' O'' => H'' = H' ∧ O'' = (Y ++ O).set r (res (upd ρ i v)) ∧ val (upd ρ i v) = v)) (hd : Nat.blt d n = true)
    (k : SegO P ops Q n N H O (i + 1) os as (fun ρ => (d, val ρ) :: LL ρ) (fun ρ => (XX ρ).set r (res ρ)) ((i, fun _ _ => True) :: FF)) :
    SegO P ops Q n N H O i ({ dst := some d, op, type := T, pos, after := af, guard := none } :: os) (an :: as) LL XX FF := by
  refine ⟨fun ρ => ⟨val ρ, [(r, res ρ)], fun _ => True⟩, ⟨fun d' hd' => by simp at hd'; subst hd'; simpa using hd, fun ρ => by rw [stv, str], fun _ _ _ _ h => h, fun H' ρ Y a w h1 h2 h3 h4 h5 h6 h7 h8 K Q hK => ?_⟩, fun ρ => by rw [hw]; rfl, k⟩
  have hr' : r < N := by simpa using hr
  rw [if_pos (by simp [Region.wanted])]
  rw [looks_none] at h4
  refine h H' ρ Y h1 (factsO_of h2) (regsO_of h5) a w _ K Q rfl rfl (evk_ok h4) h6 ?_
  rintro v w' H'' O'' hle ⟨rfl, rfl, k3⟩ hw'
  rw [setK (by omega)] at hw'
  refine hK v w' _ _ hle hw' (by simp [h3]) (fun r' hr' => ?_) (fun r' x _ hx => ?_) trivial fun _ => k3
  · rw [hw] at hr'
    have hne : r ≠ r' := fun e => by subst e; simp [memB] at hr'
    rw [List.getElem?_set_ne hne]
  · simp only [lkR] at hx
    split at hx
    · rename_i hb
      have := Nat.eq_of_beq_eq_true hb
      subst this
      injection hx with hx
      subst hx
      simp [h3, hr']
    · cases hx
/- .. and whose value is one cell -/
theorem SegO.op1s {d : Tmp} {op : Op} {T : TypeId} {pos : String} {af : Array Edge} {res : Rec → Res} (r : Nat) (hw : an.wr = [r]) (hr : Nat.blt r N = true) (hm : memB an.ms i = true) (str : ∀ ρ, res (mask an.ms ρ) = res ρ)
    (h : ∀ H' ρ Y, H.le H' → FactsO an i FF ρ H' → RegsO an XX O ρ Y → OpS P op T (evk (LL ρ) (looks op)) H' (Y ++ O) (fun v H'' O'' => H'' = H' ∧ O'' = (Y ++ O).set r (res (upd ρ i v)) ∧ upd ρ i v i = v)) (hd : Nat.blt d n = true)
    (hrow : ∀ ρ, ∃ e size m xs, res ρ = .row (ρ i) e size m xs)
    (k : SegO P ops Q n N H O (i + 1) os as (fun ρ => (d, ρ i) :: LL ρ) (fun ρ => (XX ρ).set r (res ρ)) ((i, fun ρ _ => (ρ i).oneCell' = true) :: FF)) :
    SegO P ops Q n N H O i ({ dst := some d, op, type := T, pos, after := af, guard := none } :: os) (an :: as) LL XX FF := by
  have hmi : ∀ ρ : Rec, mask an.ms ρ i = ρ i := fun ρ => by unfold mask; rw [show an.ms.any (Nat.beq i) = true from hm]
  refine ⟨fun ρ => ⟨ρ i, [(r, res ρ)], fun _ => (ρ i).oneCell' = true⟩, ⟨fun d' hd' => by simp at hd'; subst hd'; simpa using hd, fun ρ => by rw [hmi, str], fun _ _ _ _ h => h, fun H' ρ Y a w h1 h2 h3 h4 h5 h6 h7 h8 K Q hK => ?_⟩, fun ρ => by rw [hw]; rfl, k⟩
  have hr' : r < N := by simpa using hr
  rw [if_pos (by simp [Region.wanted])]
  rw [looks_none] at h4
  refine (OpS.withOne r (h H' ρ Y h1 (factsO_of h2) (regsO_of h5)) (fun v H'' O'' ⟨_, e2, e3⟩ => ?_)) a w _ K Q rfl rfl (evk_ok h4) h6 ?_
  · obtain ⟨e, size, m, xs, he⟩ := hrow (upd ρ i v)
    refine ⟨e, size, m, xs, ?_⟩
    rw [e2, he, e3, setK (by omega), List.getElem?_append_left (by simp [h3, hr']), List.getElem?_set_self (by omega)]
  · rintro v w' H'' O'' hle ⟨⟨rfl, rfl, k3⟩, k4⟩ hw'
    rw [setK (by omega)] at hw'
    refine hK v w' _ _ hle hw' (by simp [h3]) (fun r' hr' => ?_) (fun r' x _ hx => ?_) (by show (upd ρ i v i).oneCell' = true; rw [k3]; exact k4) fun _ => k3
    · rw [hw] at hr'
      have hne : r ≠ r' := fun e => by subst e; simp [memB] at hr'
      rw [List.getElem?_set_ne hne]
    · simp only [lkR] at hx
      split at hx
      · rename_i hb
        have := Nat.eq_of_beq_eq_true hb
        subst this
        injection hx with hx
        subst hx
        simp [h3, hr']
      · cases hx
theorem SegO.op1n {op : Op} {T : TypeId} {pos : String} {af : Array Edge} {res : Rec → Res} (r : Nat) (hw : an.wr = [r]) (hr : Nat.blt r N = true) (hi : memB an.ms i = false) (str : ∀ ρ, res (mask an.ms ρ) = res ρ)
    (h : ∀ H' ρ Y, H.le H' → FactsO an i FF ρ H' → RegsO an XX O ρ Y → OpS P op T (evk (LL ρ) (looks op)) H' (Y ++ O) (fun _ H'' O'' => H'' = H' ∧ O'' = (Y ++ O).set r (res ρ)))
    (k : SegO P ops Q n N H O (i + 1) os as LL (fun ρ => (XX ρ).set r (res ρ)) ((i, fun _ _ => True) :: FF)) :
    SegO P ops Q n N H O i ({ dst := none, op, type := T, pos, after := af, guard := none } :: os) (an :: as) LL XX FF := by
  have e : ∀ ρ v, res (upd ρ i v) = res ρ := fun ρ v => by
    rw [← str (upd ρ i v), ← str ρ]
    exact congrArg res (mask_congr fun m hm => upd_ne fun e => by subst e; rw [memB_iff.2 hm] at hi; cases hi)
  refine ⟨fun ρ => ⟨undef, [(r, res ρ)], fun _ => True⟩, ⟨fun d' hd' => by simp at hd', fun ρ => by rw [str], fun _ _ _ _ h => h, fun H' ρ Y a w h1 h2 h3 h4 h5 h6 h7 h8 K Q hK => ?_⟩, fun ρ => by rw [hw]; rfl, k⟩
  have hr' : r < N := by simpa using hr
  rw [if_pos (by simp [Region.wanted])]
  rw [looks_none] at h4
  refine h H' ρ Y h1 (factsO_of h2) (regsO_of h5) a w _ K Q rfl rfl (evk_ok h4) h6 ?_
  rintro v w' H'' O'' hle ⟨rfl, rfl⟩ hw'
  rw [setK (by omega)] at hw'
  refine hK v w' _ _ hle hw' (by simp [h3]) (fun r' hr' => ?_) (fun r' x _ hx => ?_) trivial fun h => by cases h
  · rw [hw] at hr'
    have hne : r ≠ r' := fun e => by subst e; simp [memB] at hr'
    rw [List.getElem?_set_ne hne]
  · simp only [lkR] at hx
    split at hx
    · rename_i hb
      have := Nat.eq_of_beq_eq_true hb
      subst this
      injection hx with hx
      subst hx
      rw [e]
      simp [h3, hr']
    · cases hx
/- one that leaves the registers, and a fact behind -/
theorem SegO.opF {d : Tmp} {op : Op} {T : TypeId} {pos : String} {af : Array Edge} {val : Rec → Value} {fact : Rec → Hp → Prop} (hw : an.wr = []) (stv : ∀ ρ, val (mask an.ms ρ) = val ρ) (stf : ∀ ρ, fact (mask an.ms ρ) = fact ρ) (mono : ∀ ρ H' H'', H'.le H'' → fact ρ H' → fact ρ H'')
    (h : ∀ H' ρ Y, H.le H' → FactsO an i FF ρ H' → RegsO an XX O ρ Y → OpS P op T (evk (LL ρ) (looks op)) H' (Y ++ O) (fun v H'' O'' => (Y ++ O) = O'' ∧ fact (upd ρ i v) H'' ∧ val (upd ρ i v) = v)) (hd : Nat.blt d n = true)
    (k : SegO P ops Q n N H O (i + 1) os as (fun ρ => (d, val ρ) :: LL ρ) XX ((i, fact) :: FF)) :
    SegO P ops Q n N H O i ({ dst := some d, op, type := T, pos, after := af, guard := none } :: os) (an :: as) LL XX FF := by
  refine ⟨fun ρ => ⟨val ρ, [], fact ρ⟩, ⟨fun d' hd' => by simp at hd'; subst hd'; simpa using hd, fun ρ => by rw [stv, stf], mono, fun H' ρ Y a w h1 h2 h3 h4 h5 h6 h7 h8 K Q hK => ?_⟩, fun ρ => by rw [hw]; rfl, k⟩
  rw [if_pos (by simp [Region.wanted])]
  rw [looks_none] at h4
  refine h H' ρ Y h1 (factsO_of h2) (regsO_of h5) a w _ K Q rfl rfl (evk_ok h4) h6 ?_
  rintro v w' H'' O'' hle ⟨rfl, k2, k3⟩ hw'
  exact hK v w' _ Y hle hw' h3 (fun _ _ => rfl) (fun r x hr => by rw [hw] at hr; cases hr) k2 fun _ => k3
theorem SegO.opFG {d t j : Nat} {b : Bool} {op : Op} {T : TypeId} {pos : String} {af : Array Edge} {val : Rec → Value} {fact : Rec → Hp → Prop} (hj : guardSlot ops j = some t) (hb : ∀ ρ, lk (LL ρ) t = some (.bool b)) (hw : an.wr = []) (stv : ∀ ρ, val (mask an.ms ρ) = val ρ) (stf : ∀ ρ, fact (mask an.ms ρ) = fact ρ) (mono : ∀ ρ H' H'', H'.le H'' → fact ρ H' → fact ρ H'')
    (h : ∀ H' ρ Y, H.le H' → FactsO an i FF ρ H' → RegsO an XX O ρ Y → OpS P op T (evk (LL ρ) (looks op)) H' (Y ++ O) (fun v H'' O'' => (Y ++ O) = O'' ∧ fact (upd ρ i v) H'' ∧ val (upd ρ i v) = v)) (hd : Nat.blt d n = true)
    (k : SegO P ops Q n N H O (i + 1) os as (fun ρ => (d, val ρ) :: LL ρ) XX ((i, fact) :: FF)) :
    SegO P ops Q n N H O i ({ dst := some d, op, type := T, pos, after := af, guard := some (j, b) } :: os) (an :: as) LL XX FF := by
  refine ⟨fun ρ => ⟨val ρ, [], fact ρ⟩, ⟨fun d' hd' => by simp at hd'; subst hd'; simpa using hd, fun ρ => by rw [stv, stf], mono, fun H' ρ Y a w h1 h2 h3 h4 h5 h6 h7 h8 K Q hK => ?_⟩, fun ρ => by rw [hw]; rfl, k⟩
  rw [if_pos (by simp [Region.wanted, yields_of hj (hb ρ) h4])]
  refine h H' ρ Y h1 (factsO_of h2) (regsO_of h5) a w _ K Q rfl rfl (evk_ok fun t ht => h4 t (looks_sub ht)) h6 ?_
  rintro v w' H'' O'' hle ⟨rfl, k2, k3⟩ hw'
  exact hK v w' _ Y hle hw' h3 (fun _ _ => rfl) (fun r x hr => by rw [hw] at hr; cases hr) k2 fun _ => k3
end
/- the operations, in a register -/
section
variable {P : Program} {T : TypeId} {E : Operand → Option Value} {H : Hp} {O : List Res} {ρ : Rec} {i : Nat}
theorem OpS.allocR {t : TypeId} {size bytes : Nat} {z : Value} {cs : Array Value} (r : Nat) (hz : TI P t size bytes z) (hc : z.cells = cs) (hi : O[r]? = some .emp) :
    OpS P (.alloc t) T E H O (fun v H' O' => H' = H ∧ O' = O.set r (.blk (blkOf (upd ρ i v i)) (.cells cs t (0, 0))) ∧ ptr (blkOf (upd ρ i v i)) 0 = v) := .of_run fun a w o ho _ he hs => by
  refine ⟨ptr w.heap.size 0, w.alloc (.cells cs t), H, O.set r (.blk w.heap.size (.cells cs t)), ?_, Hp.le.refl H, ⟨rfl, by rw [upd_same]; rfl, by rw [upd_same]; rfl⟩, ?_⟩
  · subst hc
    simp [execOp, ho, Instr.alloc, hz.zeroValue, newVar, newRow, ptr]
  · exact hs.set hi (World.grownBy_alloc w _ _) (heap_alloc_new w _) (fun b hb => .inr (by simp only [Res.block, Option.some.injEq] at hb; omega))
theorem OpS.buildR {t e : TypeId} {len size bytes : Nat} {z : Value} {zs cs : Array Value} {ps : List (Nat × Operand)} {vs : List (Nat × Value)} (r : Nat) (ht : P.underlying t = some (.slice e)) (hz : TI P e size bytes z) (hzc : z.cells = zs)
    (hlen : Nat.ble (len * size) 16777216 = true) (h0 : Nat.blt 0 (len * size) = true) (hps : evp E ps = some vs) (hf : Instr.fill (fun i => some (i * size, size)) ((Array.range (len * size)).map (zs[· % zs.size]!)) vs = some cs) (hcs : cs.size = len * size) (hi : O[r]? = some .emp) :
    OpS P (.buildSlice t len ps.toArray) T E H O (fun v H' O' => H' = H ∧ O' = O.set r (.row (upd ρ i v i) e size len cs.toList) ∧ upd ρ i v i = v) := .of_run fun a w o ho _ he hs => by
  have h1 : (ps.toArray.map fun (i, x) => (i, a.eval x)).toList = vs := by simpa using evp_spec he hps
  have hlen' : ¬ len * size > 2 ^ 24 := by have := Nat.le_of_ble_eq_true hlen; omega
  have h0' : ¬ len * size = 0 := by simp at h0; omega
  refine ⟨.slice (some ⟨w.heap.size, 0, none⟩) len len, w.alloc (.cells cs e), H, _, ?_, Hp.le.refl H, ⟨rfl, by rw [upd_same], by rw [upd_same]⟩, hs.set hi (World.grownBy_alloc w _ _) ?_ (fun b hb => .inr (by simp [Res.block, Value.ownBlock] at hb; omega))⟩
  · simp only [execOp, ho, Instr.buildSlice, Sem.run_bind, sem_under ht, Result.andThen_ok, hz.sizeOf, if_neg hlen', if_neg h0', hz.zeroValue, hzc, Sem.run_pure, h1, hf]
    simp [newRow]
  · refine ⟨by simpa using hcs, .inr ⟨w.heap.size, len, cs, rfl, Nat.zero_le _, heap_alloc_new w _, Nat.le_refl _, ?_, hcs, ?_⟩⟩
    · have h2 := Nat.le_of_ble_eq_true hlen
      have h3 : len ≤ len * size := Nat.le_mul_of_pos_right _ (Nat.pos_of_ne_zero fun h => by subst h; simp at h0')
      simp only [maxLen]; omega
    · rw [List.take_of_length_le]; simp [hcs]
theorem OpS.buildR2 {t e : TypeId} {len size bytes : Nat} {z : Value} {zs cs : Array Value} {ps : List (Nat × Operand)} {vs : List (Nat × Value)} {vcs : List (Nat × Array Value)} (r : Nat) (ht : P.underlying t = some (.slice e)) (hz : TI P e size bytes z) (hzc : z.cells = zs)
    (hlen : Nat.ble (len * size) 16777216 = true) (h0 : Nat.blt 0 (len * size) = true) (hps : evp E ps = some vs) (hv : VC vs vcs) (hf : fillC (fun i => some (i * size, size)) ((Array.range (len * size)).map (zs[· % zs.size]!)) vcs = some cs) (hcs : cs.size = len * size) (hi : O[r]? = some .emp) :
    OpS P (.buildSlice t len ps.toArray) T E H O (fun v H' O' => H' = H ∧ O' = O.set r (.row (upd ρ i v i) e size len cs.toList) ∧ upd ρ i v i = v) :=
  OpS.buildR r ht hz hzc hlen h0 hps (by rw [fill_eq, hv]; exact hf) hcs hi
theorem OpS.buildR1 {t e : TypeId} {size bytes : Nat} {z v : Value} {cs : List Value} {x : Operand} (r : Nat) (ht : P.underlying t = some (.slice e)) (hz : TI P e size bytes z) (hlen : Nat.ble size 16777216 = true) (h0 : Nat.blt 0 size = true) (hx : E x = some v) (hc : v.cells.toList = cs) (hcs : cs.length = size) (hi : O[r]? = some .emp) :
    OpS P (.buildSlice t 1 #[(0, x)]) T E H O (fun v H' O' => H' = H ∧ O' = O.set r (.row (upd ρ i v i) e size 1 cs) ∧ upd ρ i v i = v) := by
  subst hc
  refine OpS.buildR (zs := z.cells) (cs := v.cells) (vs := [(0, v)]) (ps := [(0, x)]) r ht hz rfl (by simpa using hlen) (by simpa using h0) (by simp [evp, hx]) ?_ (by simpa using hcs) hi
  exact fill_one (by simp) (by simpa using hcs)
theorem OpS.appR {s x : Operand} {t e e2 : TypeId} {size bytes m m' : Nat} {z v y : Value} {xs ys : List Value} (r j : Nat) (ht : P.underlying t = some (.slice e)) (hz : TI P e size bytes z) (hzs : z.cells.size = size) (h0 : Nat.blt 0 size = true)
    (hs : E s = some v) (hx : E x = some y) (hi : O[r]? = some (.row v e size m xs)) (hj : O[j]? = some (.row y e2 size m' ys)) (h1 : ∀ u ∈ ys, u.oneCell' = true) (hb : Nat.ble bytes 64 = true) (hl : m + m' ≤ capN) :
    OpS P (.call { callee := .builtin .append, args := #[s, x], argTypes := #[t, t] }) T E H O (fun v' H' O' => H' = H ∧ O' = O.set r (.row (upd ρ i v' i) e size (m + m') (xs ++ ys)) ∧ upd ρ i v' i = v') := by
  have hb' := Nat.le_of_ble_eq_true hb
  have hbm : (m + m') * bytes ≤ 1099511627776 * 64 := Nat.mul_le_mul hl hb'
  refine (OpS.append ht hz hzs (by simpa using h0) hs hx hi (fun w hs => hs.srcRow hj) h1 (by omega) (by simp only [capN] at hl; omega)).mono ?_
  rintro v' H' O' ⟨rfl, rfl⟩
  exact ⟨rfl, by rw [upd_same], by rw [upd_same]⟩
theorem OpS.stR {x y : Operand} {t : TypeId} {v z : Value} {r B off bytes size : Nat} {cs cs' : Array Value} {e : TypeId} {vs : List Value} (hx : E x = some (ptr B off)) (hy : E y = some v) (hv : v.cells.toList = vs) (hsz : TI P t size bytes z) (hs : vs.length = size)
    (h1 : ∀ u ∈ vs, u.oneCell' = true) (hi : O[r]? = some (.blk B (.cells cs e (0, 0)))) (hfit : Nat.ble (off + vs.length) cs.size = true) (hcs : (spl cs.toList off vs).toArray = cs') :
    OpS P (.store t x y) T E H O (fun _ H' O' => H' = H ∧ O' = O.set r (.blk B (.cells cs' e (0, 0)))) := by
  subst hcs
  exact OpS.stBlk hx hy hv hsz hs h1 hi (Nat.le_of_ble_eq_true hfit)
theorem OpS.stRowR {x y : Operand} {t : TypeId} {v u z : Value} {r m size k bytes sz : Nat} {xs : List Value} {e : TypeId} {vs : List Value} (hx : E x = some (elemPtr v k)) (hy : E y = some u) (hv : u.cells.toList = vs) (hsz : TI P t sz bytes z) (hs : vs.length = sz) (h0 : Nat.blt 0 sz = true)
    (h1 : ∀ u ∈ vs, u.oneCell' = true) (hi : O[r]? = some (.row v e size m xs)) (hfit : k + vs.length ≤ xs.length) :
    OpS P (.store t x y) T E H O (fun _ H' O' => H' = H ∧ O' = O.set r (.row v e size m (spl xs k vs))) := OpS.stRow hx hy hv hsz hs (by simpa using h0) h1 hi hfit
end
/- A thing that is lent to a call stands first. -/
section
variable {P : Program} {w : World} {H : Hp} {O : List Res} {f : FuncId} {vs : List Value}
theorem SH.front {i : Nat} {r : Res} (hi : O[i]? = some r) (h : SH w H O) : SH w H (r :: O.eraseIdx i) := by
  refine h.pick (fun j => if j = 0 then i else if j - 1 < i then j - 1 else j) (fun j s hs => ?_) (fun j k hj hk he => ?_)
  · cases j with
    | zero => simp at hs; subst hs; simpa using hi
    | succ j =>
      simp only [List.getElem?_cons_succ, List.getElem?_eraseIdx] at hs
      simp only [Nat.succ_ne_zero, if_false, Nat.add_sub_cancel]
      by_cases h1 : j < i
      · rw [if_pos h1] at hs ⊢; exact hs
      · rw [if_neg h1] at hs ⊢; exact hs
  · split at he <;> split at he <;> (try split at he) <;> (try split at he) <;> omega
theorem SH.back {i : Nat} {r : Res} (hi : i < O.length) (h : SH w H (r :: O.eraseIdx i)) : SH w H (O.set i r) := by
  refine h.pick (fun j => if j = i then 0 else if j < i then j + 1 else j) (fun j s hs => ?_) (fun j k hj hk he => ?_)
  · rw [List.getElem?_set] at hs
    by_cases e : j = i
    · subst e
      simp [hi] at hs
      simp [hs]
    · rw [if_neg (fun x => e x.symm)] at hs
      rw [if_neg e]
      by_cases h1 : j < i
      · rw [if_pos h1, List.getElem?_cons_succ, List.getElem?_eraseIdx, if_pos h1]; exact hs
      · rw [if_neg h1]
        obtain ⟨q, rfl⟩ : ∃ q, j = q + 1 := ⟨j - 1, by omega⟩
        rw [List.getElem?_cons_succ, List.getElem?_eraseIdx, if_neg (by omega)]; exact hs
  · split at he <;> split at he <;> (try split at he) <;> (try split at he) <;> omega
theorem set_self {i : Nat} {r : Res} (hi : O[i]? = some r) : O.set i r = O := by
  apply List.ext_getElem?
  intro j
  rw [List.getElem?_set]
  split
  · rename_i e; subst e
    have := (List.getElem?_eq_some_iff.1 hi).1
    simp [this] at hi ⊢; exact hi.symm
  · rfl
theorem TriV.at {v : Value} {r : Res} (i : Nat) (hi : O[i]? = some r) (h : TriV P f vs H (r :: O.eraseIdx i) v) : TriV P f vs H O v := fun w hs =>
  (h w (hs.front hi)).mono fun _ _ ⟨h1, h2⟩ => ⟨h1, by
    have := h2.back (List.getElem?_eq_some_iff.1 hi).1
    rwa [set_self hi] at this⟩
theorem Tri.atR {R : Value → Hp → Prop} {r : Res} (i : Nat) (hi : O[i]? = some r) (h : Tri P f vs H (r :: O.eraseIdx i) (fun v H' O' => R v H' ∧ r :: O.eraseIdx i = O')) : Tri P f vs H O (fun v H' O' => R v H' ∧ O = O') := fun w hs =>
  (h w (hs.front hi)).mono fun _ _ ⟨v, H', O', h1, h2, h3, h5, h6⟩ => by
    subst h6
    have := h3.back (List.getElem?_eq_some_iff.1 hi).1
    rw [set_self hi] at this
    exact ⟨v, H', O, h1, h2, this, h5, rfl⟩
theorem Tri.at {R : Value → Hp → Res → Prop} {r : Res} (i : Nat) (hi : O[i]? = some r) (h : Tri P f vs H (r :: O.eraseIdx i) (fun v H' O' => ∃ r', R v H' r' ∧ r' :: O.eraseIdx i = O')) : Tri P f vs H O (fun v H' O' => ∃ r', R v H' r' ∧ O.set i r' = O') := fun w hs =>
  (h w (hs.front hi)).mono fun _ _ ⟨v, H', O', h1, h2, h3, ⟨r', h4, h5⟩⟩ => by
    subst h5
    exact ⟨v, H', _, h1, h2, h3.back (List.getElem?_eq_some_iff.1 hi).1, r', h4, rfl⟩
end
end Go.GK
