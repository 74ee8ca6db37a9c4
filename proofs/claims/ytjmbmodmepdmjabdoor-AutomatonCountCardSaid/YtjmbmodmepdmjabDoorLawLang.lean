/- Languages, and the canonical automaton of a language as a plain function of it. -/
namespace Go.GL
abbrev Lg := List UInt8 → Bool
abbrev EdI := Int × Int × Int
abbrev StI := Bool × List EdI
abbrev Tb := List StI
def der (L : Lg) (b : Nat) : Lg := fun w => L (UInt8.ofNat b :: w)
open Classical in
noncomputable def live (L : Lg) : Bool := decide (∃ w, L w = true)
open Classical in
noncomputable def ixL (kn : List Lg) (L : Lg) : Nat := kn.findIdx fun K => decide (K = L)
theorem live_iff {L : Lg} : live L = true ↔ ∃ w, L w = true := by simp [live]
theorem live_false {L : Lg} : live L = false ↔ ∀ w, L w = false := by simp [live]
/- the next edge: joined to the last one where it goes on -/
def push (es : List EdI) (lo hi n : Int) : List EdI := match es.getLast? with
  | some e => if e.2.2 = n ∧ e.2.1 + 1 = lo then es.dropLast ++ [(e.1, hi, n)] else es ++ [(lo, hi, n)]
  | none => es ++ [(lo, hi, n)]
noncomputable def kn1 (kn : List Lg) (D : Lg) : List Lg := if ixL kn D = kn.length then kn ++ [D] else kn
noncomputable def rowI (st : List Lg × List EdI) (D : Lg) (lo hi : Nat) : List Lg × List EdI :=
  if live D then (kn1 st.1 D, push st.2 (lo : Int) (hi : Int) (ixL st.1 D : Nat)) else st
noncomputable def rowB (K : Lg) (st : List Lg × List EdI) (b : Nat) : List Lg × List EdI := rowI st (der K b) b b
noncomputable def rowTo (K : Lg) (kn : List Lg) (m : Nat) : List Lg × List EdI := (List.range m).foldl (rowB K) (kn, [])
noncomputable def canGo : Nat → List Lg → Tb → Tb
  | 0, _, out => out
  | fu + 1, kn, out => match kn[out.length]? with
    | some K => canGo fu (rowTo K kn 256).1 (out ++ [(K [], (rowTo K kn 256).2)])
    | none => out
noncomputable def canL (fu : Nat) (L : Lg) : Tb := if live L then canGo fu [L] [] else []

theorem ixL_le (kn : List Lg) (D : Lg) : ixL kn D ≤ kn.length := List.findIdx_le_length
open Classical in
theorem ixL_lt {kn : List Lg} {D : Lg} (h : ixL kn D < kn.length) : kn[ixL kn D] = D := by
  have := List.findIdx_getElem (xs := kn) (w := h)
  exact (decide_eq_true_iff (p := kn[ixL kn D] = D)).1 this
theorem ixL_mem {kn : List Lg} {D : Lg} (h : D ∈ kn) : ixL kn D < kn.length := by
  refine List.findIdx_lt_length_of_exists ⟨D, h, by simp⟩
theorem ixL_not {kn : List Lg} {D : Lg} (h : D ∉ kn) : ixL kn D = kn.length := by
  have := ixL_le kn D
  rcases Nat.lt_or_eq_of_le this with h1 | h1
  · exact absurd (ixL_lt h1 ▸ List.getElem_mem h1) h
  · exact h1
theorem ixL_kn1 (kn : List Lg) (D : Lg) : ixL (kn1 kn D) D = ixL kn D := by
  unfold kn1
  split
  · rename_i h
    have hn : D ∉ kn := fun hm => by have := ixL_mem hm; omega
    unfold ixL at h ⊢
    rw [List.findIdx_append, if_neg (by omega), h]; simp
  · rfl
theorem mem_kn1 (kn : List Lg) (D : Lg) : D ∈ kn1 kn D := by
  unfold kn1; split
  · simp
  · rename_i h
    have h1 : ixL kn D < kn.length := by have := ixL_le kn D; omega
    exact ixL_lt h1 ▸ List.getElem_mem h1
theorem kn1_of_mem {kn : List Lg} {D : Lg} (h : D ∈ kn) : kn1 kn D = kn := by
  unfold kn1; rw [if_neg]; have := ixL_mem h; omega
theorem push_last (l : List EdI) (x : EdI) (lo hi n : Int) : push (l ++ [x]) lo hi n = if x.2.2 = n ∧ x.2.1 + 1 = lo then l ++ [(x.1, hi, n)] else l ++ [x] ++ [(lo, hi, n)] := by
  unfold push; simp
theorem push_nil (lo hi n : Int) : push [] lo hi n = [(lo, hi, n)] := rfl
theorem nil_or_last {α : Type} (l : List α) : l = [] ∨ ∃ l' x, l = l' ++ [x] := by
  rcases List.eq_nil_or_concat l with h | ⟨l', x, h⟩
  · exact .inl h
  · exact .inr ⟨l', x, by simpa using h⟩
theorem push_push (es : List EdI) (lo mi hi n : Int) : push (push es lo mi n) (mi + 1) hi n = push es lo hi n := by
  rcases nil_or_last es with rfl | ⟨l, x, rfl⟩
  · rw [push_nil, push_nil, show [(lo, mi, n)] = [] ++ [(lo, mi, n)] from rfl, push_last]; simp
  · rw [push_last, push_last]
    split
    · rw [push_last]; simp
    · rw [push_last]; simp
/- one interval in which all derivatives are one language -/
theorem rowI_range (K : Lg) (D : Lg) (st : List Lg × List EdI) (lo : Nat) : ∀ (n : Nat), (∀ b, lo ≤ b → b < lo + n + 1 → der K b = D) →
    (List.range' lo (n + 1)).foldl (rowB K) st = rowI st D lo (lo + n)
  | 0, h => by simp [rowB, h lo (by omega) (by omega)]
  | n + 1, h => by
    rw [List.range'_concat, List.foldl_append, rowI_range K D st lo n (fun b h1 h2 => h b h1 (by omega))]
    simp only [List.foldl_cons, List.foldl_nil, rowB, Nat.one_mul, h (lo + (n + 1)) (by omega) (by omega)]
    unfold rowI
    split
    · simp only [ixL_kn1, kn1_of_mem (mem_kn1 _ _), Prod.mk.injEq, true_and]
      have := push_push st.2 lo ((lo + n : Nat) : Int) ((lo + (n + 1) : Nat) : Int) (ixL st.1 D : Nat)
      rw [← this]; congr 1
    · rfl
theorem rowTo_add (K : Lg) (kn : List Lg) (D : Lg) (lo hi : Nat) (hlo : lo ≤ hi) (h : ∀ b, lo ≤ b → b ≤ hi → der K b = D) :
    rowTo K kn (hi + 1) = rowI (rowTo K kn lo) D lo hi := by
  unfold rowTo
  rw [show hi + 1 = lo + ((hi - lo) + 1) by omega, List.range_eq_range', List.range_eq_range', ← List.range'_append_1, List.foldl_append, Nat.zero_add]
  rw [rowI_range K D _ lo (hi - lo) (fun b h1 h2 => h b h1 (by omega))]
  congr 1; omega

/- tables -/
def inE (b : Nat) (e : EdI) : Bool := decide (e.1 ≤ b) && decide ((b : Int) ≤ e.2.1)
def stepE (es : List EdI) (b : Nat) : Int := match es.find? (inE b) with
  | some e => e.2.2
  | none => -1
def rowT (l : Tb) (i : Int) : StI := l.getD i.toNat (false, [])
def stT (l : Tb) (i : Int) (b : Nat) : Int := if i < 0 then -1 else stepE (rowT l i).2 b
def runT (l : Tb) (i : Int) (w : List UInt8) : Int := w.foldl (fun q c => stT l q c.toNat) i
def fin (l : Tb) (i : Int) : Bool := decide (0 ≤ i) && (rowT l i).1
def lgT (l : Tb) (i : Int) : Lg := fun w => fin l (runT l i w)
structure EdOk (es : List EdI) (m n : Nat) : Prop where
  rg : ∀ e ∈ es, 0 ≤ e.1 ∧ e.1 ≤ e.2.1 ∧ e.2.1 < m ∧ 0 ≤ e.2.2 ∧ e.2.2 < n
  so : es.Pairwise fun a b => a.2.1 < b.1
def WfT (l : Tb) : Prop := ∀ s ∈ l, EdOk s.2 256 l.length
theorem der_lgT (l : Tb) (i : Int) (b : Nat) (hb : b < 256) : der (lgT l i) b = lgT l (stT l i b) := by
  funext w
  simp [der, lgT, runT, Nat.mod_eq_of_lt hb]
theorem stT_neg {l : Tb} {i : Int} (b : Nat) (h : i < 0) : stT l i b = -1 := by simp [stT, h]
theorem runT_neg {l : Tb} : ∀ (w : List UInt8) {i : Int}, i < 0 → runT l i w < 0
  | [], i, h => h
  | c :: w, i, h => by
    show runT l (stT l i c.toNat) w < 0
    exact runT_neg w (by rw [stT_neg _ h]; decide)
theorem lgT_neg {l : Tb} {i : Int} (h : i < 0) (w : List UInt8) : lgT l i w = false := by
  have := runT_neg (l := l) w h
  simp only [lgT, fin]
  rw [decide_eq_false (by omega)]; rfl
theorem live_neg {l : Tb} {i : Int} (h : i < 0) : live (lgT l i) = false := live_false.2 fun w => lgT_neg h w
theorem EdOk.step {es : List EdI} {m n : Nat} (h : EdOk es m n) (b : Nat) : stepE es b = -1 ∨ 0 ≤ stepE es b ∧ stepE es b < n := by
  unfold stepE
  split
  · rename_i e he
    have := h.rg e (List.mem_of_find?_eq_some he)
    exact .inr ⟨this.2.2.2.1, this.2.2.2.2⟩
  · exact .inl rfl
theorem EdOk.nil {m n : Nat} : EdOk [] m n := ⟨by simp, .nil⟩
theorem WfT.st {l : Tb} (h : WfT l) (i : Int) (b : Nat) : stT l i b = -1 ∨ 0 ≤ stT l i b ∧ stT l i b < l.length := by
  unfold stT
  split
  · exact .inl rfl
  · unfold rowT
    rw [List.getD_eq_getElem?_getD]
    cases he : l[i.toNat]? with
    | none => exact .inl rfl
    | some s => exact (h s (List.mem_of_getElem? he)).step b
theorem stepE_big {es : List EdI} {m n : Nat} (h : EdOk es m n) {b : Nat} (hb : m ≤ b) : stepE es b = -1 := by
  unfold stepE
  rw [List.find?_eq_none.2]
  intro e he
  have := h.rg e he
  simp [inE]; omega
theorem stepE_append (es fs : List EdI) (b : Nat) : stepE (es ++ fs) b = if (es.find? (inE b)).isSome then stepE es b else stepE fs b := by
  unfold stepE
  rw [List.find?_append]
  cases es.find? (inE b) <;> simp
theorem EdOk.mono {es : List EdI} {m n m' n' : Nat} (h : EdOk es m n) (hm : m ≤ m') (hn : n ≤ n') : EdOk es m' n' :=
  ⟨fun e he => by have := h.rg e he; omega, h.so⟩
/- the joined edge -/
theorem EdOk.push {es : List EdI} {m n : Nat} (h : EdOk es m n) {hi q : Nat} (hm : m ≤ hi) (hq : q < n) : EdOk (push es (m : Int) (hi : Int) (q : Int)) (hi + 1) n ∧ ∀ b, stepE (push es (m : Int) (hi : Int) (q : Int)) b = if m ≤ b ∧ b ≤ hi then (q : Int) else stepE es b := by
  rcases nil_or_last es with rfl | ⟨l, x, rfl⟩
  · rw [push_nil]
    refine ⟨⟨by simp; omega, by simp⟩, fun b => ?_⟩
    simp only [stepE, List.find?_cons, inE, List.find?_nil]
    by_cases hb : m ≤ b ∧ b ≤ hi
    · rw [if_pos hb]
      have h1 : ((m : Int) ≤ b) := by omega
      have h2 : ((b : Int) ≤ hi) := by omega
      simp [h1, h2]
    · rw [if_neg hb]
      have : ¬ ((m : Int) ≤ b ∧ (b : Int) ≤ hi) := by omega
      by_cases h1 : (m : Int) ≤ b
      · have h2 : ¬ ((b : Int) ≤ hi) := by omega
        simp [h2]
      · simp [h1]
  · rw [push_last]
    have hx := h.rg x (by simp)
    have hso := List.pairwise_append.1 h.so
    split
    · rename_i hc
      refine ⟨⟨fun e he => ?_, ?_⟩, fun b => ?_⟩
      · rcases List.mem_append.1 he with he | he
        · have := h.rg e (by simp [he]); omega
        · simp at he; subst he; simp; omega
      · refine List.pairwise_append.2 ⟨hso.1, by simp, fun a ha e he => ?_⟩
        simp at he; subst he; exact hso.2.2 a ha x (by simp)
      · rw [stepE_append, stepE_append]
        cases hf : l.find? (inE b) with
        | some e =>
          have hem := List.mem_of_find?_eq_some hf
          have h1 := hso.2.2 e hem x (by simp)
          have h2 := List.find?_some hf
          simp [inE] at h2
          simp only [Option.isSome_some, if_true]
          rw [if_neg (by omega)]
        | none =>
          simp only [Option.isSome_none, Bool.false_eq_true, if_false]
          simp only [stepE, List.find?_cons, inE, List.find?_nil]
          by_cases hb : m ≤ b ∧ b ≤ hi
          · rw [if_pos hb]
            have h1 : (x.1 ≤ b) := by omega
            have h2 : ((b : Int) ≤ hi) := by omega
            simp [h1, h2]
          · rw [if_neg hb]
            by_cases h1 : x.1 ≤ b
            · by_cases h2 : (b : Int) ≤ x.2.1
              · have : (b : Int) ≤ hi := by omega
                simp [h1, h2, this, hc.1]
              · have : ¬ (b : Int) ≤ hi := by omega
                simp [h2, this]
            · simp [h1]
    · refine ⟨⟨fun e he => ?_, ?_⟩, fun b => ?_⟩
      · rcases List.mem_append.1 he with he | he
        · have := h.rg e he; omega
        · simp at he; subst he; simp; omega
      · refine List.pairwise_append.2 ⟨h.so, by simp, fun a ha e he => ?_⟩
        simp at he; subst he; have := h.rg a ha; simp; omega
      · rw [stepE_append]
        cases hf : (l ++ [x]).find? (inE b) with
        | some e =>
          have hem := List.mem_of_find?_eq_some hf
          have h1 := h.rg e hem
          have h2 := List.find?_some hf
          simp [inE] at h2
          simp only [Option.isSome_some, if_true]
          rw [if_neg (by omega)]
        | none =>
          have : stepE (l ++ [x]) b = -1 := by unfold stepE; rw [hf]
          rw [this]
          simp only [Option.isSome_none, Bool.false_eq_true, if_false]
          simp only [stepE, List.find?_cons, inE, List.find?_nil]
          by_cases hb : m ≤ b ∧ b ≤ hi
          · rw [if_pos hb]
            have h1 : ((m : Int) ≤ b) := by omega
            have h2 : ((b : Int) ≤ hi) := by omega
            simp [h1, h2]
          · rw [if_neg hb]
            by_cases h1 : (m : Int) ≤ b
            · have h2 : ¬ ((b : Int) ≤ hi) := by omega
              simp [h2]
            · simp [h1]

theorem ixL_append {kn more : List Lg} {D : Lg} (h : D ∈ kn) : ixL (kn ++ more) D = ixL kn D := by
  have h1 := ixL_mem h
  unfold ixL at h1 ⊢
  rw [List.findIdx_append, if_pos h1]
theorem ixL_get {kn : List Lg} (hn : kn.Nodup) {i : Nat} (h : i < kn.length) : ixL kn kn[i] = i := by
  have h1 := ixL_mem (List.getElem_mem h)
  have h2 := ixL_lt h1
  rcases Nat.lt_trichotomy (ixL kn kn[i]) i with h3 | h3 | h3
  · exact absurd h2 (List.pairwise_iff_getElem.1 hn _ _ h1 h h3)
  · exact h3
  · exact absurd h2.symm (List.pairwise_iff_getElem.1 hn _ _ h h1 h3)
def Ext (kn kn' : List Lg) : Prop := ∃ more, kn' = kn ++ more
theorem Ext.refl (kn : List Lg) : Ext kn kn := ⟨[], by simp⟩
theorem Ext.trans {a b c : List Lg} (h : Ext a b) (k : Ext b c) : Ext a c := by
  obtain ⟨x, rfl⟩ := h; obtain ⟨y, rfl⟩ := k; exact ⟨x ++ y, by simp⟩
theorem Ext.len {a b : List Lg} (h : Ext a b) : a.length ≤ b.length := by obtain ⟨x, rfl⟩ := h; simp
theorem Ext.mem {a b : List Lg} (h : Ext a b) {D : Lg} (hd : D ∈ a) : D ∈ b := by obtain ⟨x, rfl⟩ := h; simp [hd]
theorem Ext.ix {a b : List Lg} (h : Ext a b) {D : Lg} (hd : D ∈ a) : ixL b D = ixL a D := by obtain ⟨x, rfl⟩ := h; exact ixL_append hd
theorem Ext.get {a b : List Lg} (h : Ext a b) {i : Nat} {D : Lg} (hd : a[i]? = some D) : b[i]? = some D := by
  obtain ⟨x, rfl⟩ := h
  rw [List.getElem?_append_left (List.getElem?_eq_some_iff.1 hd).1]; exact hd
theorem Ext.kn1 (kn : List Lg) (D : Lg) : Ext kn (kn1 kn D) := by
  unfold GL.kn1; split
  · exact ⟨[D], rfl⟩
  · exact .refl _
/- a set of languages that is closed -/
def Clo (S : List Lg) : Prop := ∀ K ∈ S, ∀ b < 256, live (der K b) = true → der K b ∈ S
structure KnOk (S kn : List Lg) : Prop where
  nd : kn.Nodup
  sub : ∀ D ∈ kn, D ∈ S
  lv : ∀ D ∈ kn, live D = true
theorem KnOk.kn1 {S kn : List Lg} (h : KnOk S kn) {D : Lg} (hD : D ∈ S) (hl : live D = true) : KnOk S (kn1 kn D) := by
  unfold GL.kn1; split
  · rename_i hi
    have hn : D ∉ kn := fun hm => by have := ixL_mem hm; omega
    refine ⟨List.nodup_append.2 ⟨h.nd, by simp, fun a ha b hb => ?_⟩, fun E hE => ?_, fun E hE => ?_⟩
    · simp at hb; subst hb; rintro rfl; exact hn ha
    · rcases List.mem_append.1 hE with hE | hE
      · exact h.sub E hE
      · simp at hE; subst hE; exact hD
    · rcases List.mem_append.1 hE with hE | hE
      · exact h.lv E hE
      · simp at hE; subst hE; exact hl
  · exact h
/- what an edge list says of a language, over the known ones -/
def EdSays (K : Lg) (kn : List Lg) (es : List EdI) (m : Nat) : Prop :=
  EdOk es m kn.length ∧ ∀ b, b < m → if live (der K b) then der K b ∈ kn ∧ stepE es b = (ixL kn (der K b) : Nat) else stepE es b = -1
theorem EdSays.ext {K : Lg} {kn kn' : List Lg} {es : List EdI} {m : Nat} (h : EdSays K kn es m) (he : Ext kn kn') : EdSays K kn' es m := by
  refine ⟨h.1.mono (Nat.le_refl _) he.len, fun b hb => ?_⟩
  have := h.2 b hb
  split
  · rename_i hl
    rw [if_pos hl] at this
    exact ⟨he.mem this.1, by rw [he.ix this.1]; exact this.2⟩
  · rename_i hl
    rw [if_neg hl] at this; exact this
theorem rowTo_succ (K : Lg) (kn : List Lg) (m : Nat) : rowTo K kn (m + 1) = rowI (rowTo K kn m) (der K m) m m := by
  unfold rowTo
  rw [List.range_succ, List.foldl_append]; rfl
theorem rowTo_ok {S kn : List Lg} {K : Lg} (hS : Clo S) (hK : K ∈ S) (hkn : KnOk S kn) : ∀ m, m ≤ 256 → Ext kn (rowTo K kn m).1 ∧ KnOk S (rowTo K kn m).1 ∧ EdSays K (rowTo K kn m).1 (rowTo K kn m).2 m
  | 0, _ => ⟨.refl _, hkn, .nil, fun b hb => by omega⟩
  | m + 1, hm => by
    obtain ⟨h1, h2, h3⟩ := rowTo_ok hS hK hkn m (by omega)
    rw [rowTo_succ]
    unfold rowI
    split
    · rename_i hl
      have hD := hS K hK m (by omega) hl
      refine ⟨h1.trans (Ext.kn1 _ _), h2.kn1 hD hl, ?_⟩
      have h4 := h3.ext (Ext.kn1 (rowTo K kn m).1 (der K m))
      have hlt : ixL (rowTo K kn m).1 (der K m) < (kn1 (rowTo K kn m).1 (der K m)).length := by
        rw [← ixL_kn1]; exact ixL_mem (mem_kn1 _ _)
      obtain ⟨h5, h6⟩ := h4.1.push (Nat.le_refl m) hlt
      refine ⟨h5, fun b hb => ?_⟩
      rw [h6 b]
      by_cases hbm : b = m
      · subst hbm
        rw [if_pos hl, if_pos ⟨Nat.le_refl _, Nat.le_refl _⟩, ixL_kn1]
        exact ⟨mem_kn1 _ _, rfl⟩
      · rw [if_neg (by omega : ¬ (m ≤ b ∧ b ≤ m))]
        exact h4.2 b (by omega)
    · rename_i hl
      refine ⟨h1, h2, h3.1.mono (by omega) (Nat.le_refl _), fun b hb => ?_⟩
      by_cases hbm : b = m
      · subst hbm; rw [if_neg hl]; exact stepE_big h3.1 (Nat.le_refl _)
      · exact h3.2 b (by omega)
/- the whole -/
structure CanOk (kn : List Lg) (out : Tb) : Prop where
  le : out.length ≤ kn.length
  row : ∀ (k : Nat) (K : Lg) (s : StI), kn[k]? = some K → out[k]? = some s → s.1 = K [] ∧ EdSays K kn s.2 256
theorem nodup_le {α : Type} [BEq α] [LawfulBEq α] : ∀ {a b : List α}, a.Nodup → (∀ x ∈ a, x ∈ b) → a.length ≤ b.length
  | [], _, _, _ => by simp
  | x :: a, b, hn, hs => by
    have hn' := List.nodup_cons.1 hn
    have := nodup_le (a := a) (b := b.erase x) hn'.2 (fun y hy => (List.mem_erase_of_ne (fun e => by subst e; exact hn'.1 hy)).2 (hs y (by simp [hy])))
    rw [List.length_erase_of_mem (hs x (by simp))] at this
    have hp : 0 < b.length := List.length_pos_of_mem (hs x (by simp))
    simp; omega
open Classical in
theorem KnOk.le {S kn : List Lg} (h : KnOk S kn) : kn.length ≤ S.length := nodup_le h.nd h.sub
theorem canGo_ok {S : List Lg} (hS : Clo S) : ∀ (fu : Nat) (kn : List Lg) (out : Tb), KnOk S kn → CanOk kn out → S.length < fu + out.length →
    ∃ kn', Ext kn kn' ∧ KnOk S kn' ∧ CanOk kn' (canGo fu kn out) ∧ (canGo fu kn out).length = kn'.length
  | 0, kn, out, h1, h2, h3 => by have := h1.le; have := h2.le; omega
  | fu + 1, kn, out, h1, h2, h3 => by
    unfold canGo
    split
    · rename_i K hK
      have hKm := List.mem_of_getElem? hK
      obtain ⟨g1, g2, g3⟩ := rowTo_ok hS (h1.sub K hKm) h1 256 (Nat.le_refl _)
      have hgo : CanOk (rowTo K kn 256).1 (out ++ [(K [], (rowTo K kn 256).2)]) := by
        refine ⟨?_, ?_⟩
        · have := (List.getElem?_eq_some_iff.1 hK).1
          have := g1.len
          simp; omega
        · intro k K' s hk hs
          by_cases hlt : k < out.length
          · rw [List.getElem?_append_left hlt] at hs
            have hk0 : k < kn.length := by have := h2.le; omega
            have hk' : kn[k]? = some K' := by
              obtain ⟨more, hm⟩ := g1
              rw [hm, List.getElem?_append_left hk0] at hk; exact hk
            have := h2.row k K' s hk' hs
            exact ⟨this.1, this.2.ext g1⟩
          · rw [List.getElem?_append_right (by omega)] at hs
            have hk0 : k = out.length := by
              have := (List.getElem?_eq_some_iff.1 hs).1
              simp at this; omega
            subst hk0
            rw [Nat.sub_self] at hs
            simp at hs; subst hs
            have := g1.get hK
            rw [this] at hk
            obtain rfl : K = K' := by simpa using hk
            exact ⟨rfl, g3⟩
      obtain ⟨kn', e1, e2, e3, e4⟩ := canGo_ok hS fu (rowTo K kn 256).1 (out ++ [(K [], (rowTo K kn 256).2)]) g2 hgo (by simp; omega)
      exact ⟨kn', g1.trans e1, e2, e3, e4⟩
    · rename_i hK
      have := List.getElem?_eq_none_iff.1 hK
      exact ⟨kn, .refl _, h1, h2, by have := h2.le; omega⟩
theorem CanOk.lg {kn : List Lg} {out : Tb} (h : CanOk kn out) (he : out.length = kn.length) : ∀ (w : List UInt8) (i : Nat) (K : Lg), kn[i]? = some K → lgT out (i : Int) w = K w
  | [], i, K, hk => by
    have hi := (List.getElem?_eq_some_iff.1 hk).1
    have hs : out[i]? = some out[i] := List.getElem?_eq_getElem (by omega)
    have := (h.row i K _ hk hs).1
    simp [lgT, runT, fin, rowT, hs, this]
  | c :: w, i, K, hk => by
    have hi := (List.getElem?_eq_some_iff.1 hk).1
    have hs : out[i]? = some out[i] := List.getElem?_eq_getElem (by omega)
    have := (h.row i K _ hk hs).2.2 c.toNat c.toNat_lt
    have e : lgT out (i : Int) (c :: w) = lgT out (stT out (i : Int) c.toNat) w := rfl
    have e2 : stT out (i : Int) c.toNat = stepE out[i].2 c.toNat := by simp [stT, rowT, hs]; omega
    have e3 : K (c :: w) = der K c.toNat w := by simp [der]
    rw [e, e2, e3]
    split at this
    · rename_i hl
      rw [this.2]
      have h4 := ixL_mem this.1
      exact CanOk.lg h he w _ _ (by rw [List.getElem?_eq_getElem h4, ixL_lt h4])
    · rename_i hl
      rw [this, lgT_neg (by decide)]
      have hl : live (der K c.toNat) = false := by simpa using hl
      exact (live_false.1 hl w).symm
theorem CanOk.wf {kn : List Lg} {out : Tb} (h : CanOk kn out) (he : out.length = kn.length) : WfT out := by
  intro s hs
  obtain ⟨i, hi, rfl⟩ := List.getElem_of_mem hs
  have hk : kn[i]? = some kn[i] := List.getElem?_eq_getElem (by omega)
  have := (h.row i _ _ hk (List.getElem?_eq_getElem hi)).2.1
  rw [he]; exact this
/- the canonical automaton of a language with finitely many derivatives -/
theorem canL_ok {S : List Lg} (hS : Clo S) {L : Lg} (hL : live L = true → L ∈ S) {fu : Nat} (hf : S.length < fu) :
    WfT (canL fu L) ∧ lgT (canL fu L) 0 = L ∧ (canL fu L).length ≤ S.length ∧ (live L = true → 0 < (canL fu L).length) := by
  unfold canL
  split
  · rename_i hl
    obtain ⟨kn, h1, h2, h3, h4⟩ := canGo_ok hS fu [L] [] ⟨by simp, by simpa using hL hl, by simpa using hl⟩ ⟨by simp, by simp⟩ (by simpa using hf)
    refine ⟨h3.wf h4, funext fun w => h3.lg h4 w 0 L (h1.get rfl), by rw [h4]; exact h2.le, fun _ => ?_⟩
    rw [h4]; have := h1.len; simp at this; omega
  · rename_i hl
    have hl : live L = false := by simpa using hl
    refine ⟨by simp [WfT], funext fun w => ?_, by simp, fun h => absurd h (by simp [hl])⟩
    rw [live_false.1 hl w]; simp [lgT, fin, rowT, runT]
/- more fuel turns nothing -/
theorem canGo_mono {S : List Lg} (hS : Clo S) : ∀ (fu fu' : Nat) (kn : List Lg) (out : Tb), KnOk S kn → CanOk kn out → S.length < fu + out.length → S.length < fu' + out.length → canGo fu kn out = canGo fu' kn out
  | 0, _, kn, out, h1, h2, h3, _ => by have := h1.le; have := h2.le; omega
  | _, 0, kn, out, h1, h2, _, h3 => by have := h1.le; have := h2.le; omega
  | fu + 1, fu' + 1, kn, out, h1, h2, h3, h4 => by
    unfold canGo
    split
    · rename_i K hK
      have hKm := List.mem_of_getElem? hK
      obtain ⟨g1, g2, g3⟩ := rowTo_ok hS (h1.sub K hKm) h1 256 (Nat.le_refl _)
      refine canGo_mono hS fu fu' _ _ g2 ⟨?_, ?_⟩ (by simp; omega) (by simp; omega)
      · have := (List.getElem?_eq_some_iff.1 hK).1
        have := g1.len
        simp; omega
      · intro k K' s hk hs
        by_cases hlt : k < out.length
        · rw [List.getElem?_append_left hlt] at hs
          have hk0 : k < kn.length := by have := h2.le; omega
          have hk' : kn[k]? = some K' := by
            obtain ⟨more, hm⟩ := g1
            rw [hm, List.getElem?_append_left hk0] at hk; exact hk
          have := h2.row k K' s hk' hs
          exact ⟨this.1, this.2.ext g1⟩
        · rw [List.getElem?_append_right (by omega)] at hs
          have hk0 : k = out.length := by
            have := (List.getElem?_eq_some_iff.1 hs).1
            simp at this; omega
          subst hk0
          rw [Nat.sub_self] at hs
          simp at hs; subst hs
          have := g1.get hK
          rw [this] at hk
          obtain rfl : K = K' := by simpa using hk
          exact ⟨rfl, g3⟩
    · rfl
theorem canL_mono {S : List Lg} (hS : Clo S) {L : Lg} (hL : live L = true → L ∈ S) {fu fu' : Nat} (hf : S.length < fu) (hf' : S.length < fu') : canL fu L = canL fu' L := by
  unfold canL
  split
  · rename_i hl
    exact canGo_mono hS fu fu' [L] [] ⟨by simp, by simpa using hL hl, by simpa using hl⟩ ⟨by simp, by simp⟩ (by simpa using hf) (by simpa using hf')
  · rfl
/- the languages of a table's states are closed -/
def lgs (l : Tb) : List Lg := (List.range l.length).map fun i => lgT l (i : Nat)
theorem lgs_len (l : Tb) : (lgs l).length = l.length := by simp [lgs]
theorem lgs_mem {l : Tb} {i : Int} (h : 0 ≤ i) (h' : i < l.length) : lgT l i ∈ lgs l := by
  refine List.mem_map.2 ⟨i.toNat, by simp; omega, ?_⟩
  rw [Int.toNat_of_nonneg h]
theorem lgs_clo {l : Tb} (h : WfT l) : Clo (lgs l) := by
  intro K hK b hb hl
  obtain ⟨i, hi, rfl⟩ := List.mem_map.1 hK
  rw [der_lgT _ _ _ hb] at hl ⊢
  rcases h.st (i : Int) b with h1 | h1
  · rw [h1, live_neg (by decide)] at hl; cases hl
  · exact lgs_mem h1.1 h1.2
theorem lgs_zero {l : Tb} (hl : live (lgT l 0) = true) : lgT l 0 ∈ lgs l := by
  cases l with
  | nil =>
    obtain ⟨w, hw⟩ := live_iff.1 hl
    exfalso
    have : lgT [] 0 w = false := by simp [lgT, fin, rowT]
    rw [this] at hw; cases hw
  | cons s l => exact lgs_mem (by decide) (by simp)
theorem canT_ok {l : Tb} (h : WfT l) {fu : Nat} (hf : l.length < fu) :
    WfT (canL fu (lgT l 0)) ∧ lgT (canL fu (lgT l 0)) 0 = lgT l 0 ∧ (canL fu (lgT l 0)).length ≤ l.length := by
  have := canL_ok (lgs_clo h) lgs_zero (fu := fu) (by rw [lgs_len]; exact hf)
  rw [lgs_len] at this
  exact ⟨this.1, this.2.1, this.2.2.1⟩
theorem canT_mono {l : Tb} (h : WfT l) {fu fu' : Nat} (hf : l.length < fu) (hf' : l.length < fu') : canL fu (lgT l 0) = canL fu' (lgT l 0) :=
  canL_mono (lgs_clo h) lgs_zero (by rw [lgs_len]; exact hf) (by rw [lgs_len]; exact hf')
/- the canonical table of a table -/
noncomputable def canT (l : Tb) : Tb := canL (l.length + 1) (lgT l 0)
theorem canT_wf {l : Tb} (h : WfT l) : WfT (canT l) := (canT_ok h (by omega)).1
theorem canT_lg {l : Tb} (h : WfT l) : lgT (canT l) 0 = lgT l 0 := (canT_ok h (by omega)).2.1
theorem canT_le {l : Tb} (h : WfT l) : (canT l).length ≤ l.length := (canT_ok h (by omega)).2.2
theorem canT_congr {l l' : Tb} (h : WfT l) (h' : WfT l') (e : lgT l 0 = lgT l' 0) : canT l = canT l' := by
  have h1 : canT l = canL (l.length + l'.length + 1) (lgT l 0) := canT_mono h (by omega) (by omega)
  have h2 : canT l' = canL (l.length + l'.length + 1) (lgT l' 0) := canT_mono h' (by omega) (by omega)
  rw [h1, h2, e]
theorem canT_idem {l : Tb} (h : WfT l) : canT (canT l) = canT l := canT_congr (canT_wf h) h (canT_lg h)
theorem canT_iff {l l' : Tb} (h : WfT l) (h' : WfT l') : canT l = canT l' ↔ lgT l 0 = lgT l' 0 :=
  ⟨fun e => by rw [← canT_lg h, ← canT_lg h', e], canT_congr h h'⟩
end Go.GL
