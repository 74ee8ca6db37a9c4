/- The automata of one word and of all words are canonical. -/
import Derived.Test.YtjmbmodmepdmjabDoorLawCan
namespace Go.GL
open Go.GK
theorem WfT.by {l : Tb} (h : WfT l) : ByT l := fun s hs e he => by have := (h s hs).rg e he; omega
theorem EdOk.len {es : List EdI} {m n : Nat} (h : EdOk es m n) : es.length ≤ m := by
  have h1 : (es.map fun e => e.1.toNat).Nodup := by
    refine List.pairwise_map.2 ?_
    refine List.Pairwise.imp_of_mem (fun {a b} ha hb hab => ?_) h.so
    have := h.rg a ha; have := h.rg b hb; omega
  have := nodup_le' (b := List.range m) h1 (fun x hx => by
    obtain ⟨c, hc, rfl⟩ := List.mem_map.1 hx
    have := h.rg c hc
    exact List.mem_range.2 (by omega))
  simpa using this
theorem WfT.sh {l : Tb} (h : WfT l) {n : Nat} (hn : l.length ≤ n) (hn' : 256 ≤ n) : ShT l n := ⟨hn, fun s hs => by have := (h s hs).len; omega⟩
theorem canT_sh {l : Tb} (h : WfT l) {n : Nat} (hn : l.length ≤ n) (hn' : 256 ≤ n) : ShT (canT l) n := (canT_wf h).sh (by have := canT_le h; omega) hn'
/- rows of the language table -/
theorem rowTo_dead (K : Lg) (kn : List Lg) (lo : Nat) : ∀ n, (∀ b, lo ≤ b → b < lo + n → live (der K b) = false) → rowTo K kn (lo + n) = rowTo K kn lo
  | 0, _ => rfl
  | n + 1, h => by
    rw [← Nat.add_assoc, rowTo_succ, rowTo_dead K kn lo n fun b h1 h2 => h b h1 (by omega)]
    unfold rowI; rw [h (lo + n) (by omega) (by omega)]; rfl
theorem rowTo_zero (K : Lg) (kn : List Lg) : rowTo K kn 0 = (kn, []) := rfl
/- one live derivative -/
theorem rowTo_one (K D : Lg) (kn : List Lg) (lo hi : Nat) (h1 : lo ≤ hi) (h2 : hi < 256) (hd : ∀ b, b < 256 → b < lo ∨ hi < b → live (der K b) = false) (he : ∀ b, lo ≤ b → b ≤ hi → der K b = D) (hl : live D = true) :
    rowTo K kn 256 = (kn1 kn D, [((lo : Int), (hi : Int), ((ixL kn D : Nat) : Int))]) := by
  have e1 : rowTo K kn (0 + lo) = rowTo K kn 0 := rowTo_dead K kn 0 lo fun b _ h => hd b (by omega) (.inl (by omega))
  have e2 : rowTo K kn (hi + 1) = rowI (rowTo K kn lo) D lo hi := rowTo_add K kn D lo hi h1 he
  have e3 : rowTo K kn (hi + 1 + (255 - hi)) = rowTo K kn (hi + 1) := rowTo_dead K kn (hi + 1) (255 - hi) fun b h3 h4 => hd b (by omega) (.inr (by omega))
  rw [show hi + 1 + (255 - hi) = 256 by omega] at e3
  rw [Nat.zero_add, rowTo_zero] at e1
  rw [e3, e2, e1]; unfold rowI; rw [if_pos hl]; rfl
theorem rowTo_none (K : Lg) (kn : List Lg) (hd : ∀ b, b < 256 → live (der K b) = false) : rowTo K kn 256 = (kn, []) := by
  have := rowTo_dead K kn 0 256 fun b _ h => hd b (by omega)
  rw [Nat.zero_add, rowTo_zero] at this; exact this
/- one word -/
def single (w : List UInt8) : Lg := fun v => decide (v = w)
theorem single_live (w : List UInt8) : live (single w) = true := live_of (w := w) (by simp [single])
theorem single_inj {v w : List UInt8} (h : single v = single w) : v = w := by
  have := congrFun h v
  simpa [single] using this
theorem ofNat_eq {b : Nat} (hb : b < 256) (c : UInt8) : UInt8.ofNat b = c ↔ b = c.toNat := by
  constructor
  · rintro rfl; simp; omega
  · rintro rfl; simp
theorem single_der {b : Nat} (hb : b < 256) (c : UInt8) (w : List UInt8) : der (single (c :: w)) b = if b = c.toNat then single w else fun _ => false := by
  funext v
  simp only [der, single, List.cons.injEq, ofNat_eq hb]
  by_cases h : b = c.toNat <;> simp [h, single]
theorem single_nil (b : Nat) : der (single []) b = fun _ => false := by funext v; simp [der, single]
theorem live_none : live (fun _ => false) = false := live_false.2 fun _ => rfl
def knW (s : List UInt8) (k : Nat) : List Lg := tab k fun j => single (s.drop j)
theorem word_go (s : List UInt8) : ∀ (d k fu : Nat), k + d = s.length → d + 1 ≤ fu → canGo fu (knW s (k + 1)) (wordTo s k) = wordT s
  | 0, k, fu + 1, hk, _ => by
    obtain rfl : k = s.length := by omega
    have hlen : (wordTo s s.length).length = s.length := by simp [wordTo]
    have hget : (knW s (s.length + 1))[(wordTo s s.length).length]? = some (single []) := by rw [hlen]; unfold knW; rw [tab_get? (by omega)]; simp
    unfold canGo; rw [hget]; dsimp only
    rw [rowTo_none _ _ fun b hb => by rw [single_nil]; exact live_none]
    have e : wordTo s s.length ++ [(single [] [], [])] = wordT s := by simp [wordTo, wordT, single]
    dsimp only
    rw [e]
    cases fu with
    | zero => rfl
    | succ fu =>
      unfold canGo
      rw [List.getElem?_eq_none (by unfold knW; rw [tab_len]; simp [wordT])]
  | d + 1, k, fu + 1, hk, hf => by
    have hks : k < s.length := by omega
    have hlen : (wordTo s k).length = k := by simp [wordTo]; omega
    have hget : (knW s (k + 1))[(wordTo s k).length]? = some (single (s.drop k)) := by rw [hlen]; unfold knW; rw [tab_get? (by omega)]
    have hdrop : s.drop k = s[k] :: s.drop (k + 1) := List.drop_eq_getElem_cons hks
    have hnm : single (s.drop (k + 1)) ∉ knW s (k + 1) := fun hm => by
      obtain ⟨i, hi, he⟩ := mem_tab.1 hm
      have := congrArg List.length (single_inj he)
      simp at this; omega
    have hrow := rowTo_one (single (s.drop k)) (single (s.drop (k + 1))) (knW s (k + 1)) s[k].toNat s[k].toNat (Nat.le_refl _) s[k].toNat_lt
      (fun b hb h => by rw [hdrop, single_der hb, if_neg (by omega)]; exact live_none)
      (fun b h1 h2 => by have := s[k].toNat_lt; rw [hdrop, single_der (by omega), if_pos (by omega)]) (single_live _)
    have hix : ixL (knW s (k + 1)) (single (s.drop (k + 1))) = k + 1 := by rw [ixL_not hnm]; unfold knW; rw [tab_len]
    have hkn : kn1 (knW s (k + 1)) (single (s.drop (k + 1))) = knW s (k + 2) := by
      unfold kn1; rw [if_pos (ixL_not hnm)]
      unfold knW; rw [tab_succ (k + 1)]
    unfold canGo; rw [hget]; dsimp only
    rw [hrow, hkn, hix]; dsimp only
    have e : wordTo s k ++ [(single (s.drop k) [], [((s[k].toNat : Int), (s[k].toNat : Int), ((k + 1 : Nat) : Int))])] = wordTo s (k + 1) := by
      rw [wordTo_succ hks, hdrop]; simp [single, wordE, hks]
    rw [e]
    exact word_go s d (k + 1) fu (by omega) (by omega)
theorem word_can (s : List UInt8) {fu : Nat} (hf : s.length + 1 ≤ fu) : canL fu (single s) = wordT s := by
  unfold canL
  rw [if_pos (single_live s)]
  have := word_go s s.length 0 fu (by omega) hf
  simpa [knW, tab, wordTo] using this
theorem word_clo (s : List UInt8) : Clo (knW s (s.length + 1)) := by
  intro K hK b hb hl
  obtain ⟨i, hi, rfl⟩ := mem_tab.1 hK
  rcases Nat.lt_or_ge i s.length with h | h
  · rw [List.drop_eq_getElem_cons h, single_der hb] at hl ⊢
    split at hl
    · rename_i hb'
      rw [if_pos hb']; exact mem_tab.2 ⟨i + 1, by omega, rfl⟩
    · rw [live_none] at hl; cases hl
  · rw [List.drop_of_length_le h, single_nil, live_none] at hl; cases hl
theorem word_facts (s : List UInt8) : WfT (wordT s) ∧ lgT (wordT s) 0 = single s := by
  have := canL_ok (word_clo s) (L := single s) (fun _ => mem_tab.2 ⟨0, by omega, rfl⟩) (fu := s.length + 2) (by unfold knW; rw [tab_len]; omega)
  rw [word_can s (by omega)] at this
  exact ⟨this.1, this.2.1⟩
theorem word_canT (s : List UInt8) : canT (wordT s) = wordT s := by
  unfold canT
  rw [(word_facts s).2, word_can s (by simp [wordT])]
/- all words -/
def allT : Tb := [(true, [(0, 255, 0)])]
theorem all_wf : WfT allT := by
  intro s hs
  simp [allT] at hs; subst hs
  exact ⟨by simp [allT], by simp⟩
theorem all_lg : lgT allT 0 = fun _ => true := by
  funext w
  induction w with
  | nil => rfl
  | cons c w ih =>
    have : stT allT 0 c.toNat = 0 := by
      have := c.toNat_lt
      have h2 : ((c.toNat : Nat) : Int) ≤ 255 := by omega
      simp [stT, rowT, allT, stepE, inE, h2]
    show lgT allT (stT allT 0 c.toNat) w = true
    rw [this]; exact ih
theorem all_canT : canT allT = allT := by
  unfold canT; rw [all_lg]
  have hl : live (fun _ => true) = true := live_of (w := []) rfl
  have hrow : rowTo (fun _ => true) [fun _ => true] 256 = rowI (rowTo (fun _ => true) [fun _ => true] 0) (fun _ => true) 0 255 := rowTo_add _ _ _ 0 255 (by decide) fun b _ _ => rfl
  have hm : ixL [fun _ => true] (fun _ => true) = 0 := by
    have := ixL_get (kn := [fun _ => true]) (by simp) (i := 0) (by simp)
    simpa using this
  have hk : kn1 [fun _ => true] (fun _ => true) = [fun _ => true] := kn1_of_mem (by simp)
  have e : rowTo (fun _ => true) [fun _ => true] 256 = ([fun _ => true], [(0, 255, 0)]) := by
    rw [hrow, rowTo_zero]; unfold rowI; rw [if_pos hl]; dsimp only; rw [hk, hm]; rfl
  show canL 2 _ = _
  unfold canL; rw [if_pos hl]
  unfold canGo
  simp only [List.length_nil, List.getElem?_cons_zero]
  rw [e]
  unfold canGo
  rfl
end Go.GL
