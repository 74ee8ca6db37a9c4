/- Regular expressions: which are in order, how great they are, what they match. -/
import Derived.Test.YtjmbmodmepdmjabDoorLawOk
import Derived.Test.YtjmbmodmepdmjabDoorLawNet
import Derived.Test.YtjmbmodmepdmjabDoorD1
namespace Go.GL
open Go.GK
def noS : BSet := fun _ => false
structure KindOk (r : Rx) : Prop where
  lo : 0 ≤ r.kind
  hi : r.kind ≤ 5
  set : r.kind ≠ 2 → eqS r.set noS = true
  len : if r.kind = 3 ∨ r.kind = 4 then 2 ≤ r.subs.length else if r.kind = 5 then r.subs.length = 1 else r.subs.length = 0
def rxOk : Nat → Rx → Prop
  | 0, _ => False
  | d + 1, r => KindOk r ∧ ∀ x ∈ r.subs, rxOk d x
def sz : Nat → Rx → Nat
  | 0, _ => 1
  | d + 1, r => 2 + r.subs.length + (r.subs.map (sz d)).sum
theorem sum_ge {l : List Nat} {x : Nat} (h : x ∈ l) : x ≤ l.sum := by
  induction l with
  | nil => cases h
  | cons a l ih =>
    rw [List.sum_cons]
    rcases List.mem_cons.1 h with rfl | h
    · omega
    · have := ih h; omega
theorem sz_sub {d : Nat} {r x : Rx} (h : x ∈ r.subs) : 2 + r.subs.length + sz d x ≤ sz (d + 1) r := by
  have := sum_ge (List.mem_map_of_mem (f := sz d) h)
  show _ ≤ 2 + r.subs.length + (r.subs.map (sz d)).sum
  omega
theorem sz_len (d : Nat) (r : Rx) : 2 + r.subs.length ≤ sz (d + 1) r := by
  show _ ≤ 2 + r.subs.length + (r.subs.map (sz d)).sum
  omega
theorem j8_eq : rx_check_j8 = rx_check_j4 := rfl
theorem check_ok : ∀ (d : Nat) (lev : Int) (r : Rx) (fu : Nat), lev + d = 17 → 0 ≤ lev → d + sz d r < fu → Ok (rx_check fu r lev) (fun e => e = 0 ↔ rxOk d r)
  | _, _, _, 0, _, _, h => absurd h (Nat.not_lt_zero _)
  | 0, lev, r, fu + 1, h, _, _ => by
    show Ok (rx_check_b0 fu (rx_check fu) r lev) _
    unfold rx_check_b0
    exact Ok.iT (by omega) (Ok.some (by simp [rxOk]))
  | d + 1, lev, r, fu + 1, h, h0, hf => by
    have hlen := sz_len d r
    have loop : KindOk r → Ok (rx_check_j2 fu r lev (rx_check fu)) (fun e => e = 0 ↔ rxOk (d + 1) r) := fun hK => by
      unfold rx_check_j2
      refine Ok.count (fun k => ∀ x ∈ r.subs.take k, rxOk d x) r.subs.length (by simp) (by omega) (fun k nx hk hJ hn => ?_) (fun nx hJ => ?_)
      · unfold rx_check_b3
        have hm : r.subs[k] ∈ r.subs := List.getElem_mem hk
        have hs := sz_sub (d := d) hm
        refine Ok.iT (by omega) (Ok.idxN hk (Ok.chk (by unfold F64; omega) (Ok.bnd (check_ok d (lev + 1) _ fu (by omega) (by omega) (by omega)) fun e he => Ok.ite (fun h1 => Ok.some ⟨fun h2 => absurd h2 h1, fun h2 => absurd (he.2 (h2.2 _ hm)) h1⟩) fun h1 => hn ?_)))
        intro x hx
        rw [← List.take_append_getElem hk] at hx
        rcases List.mem_append.1 hx with hx | hx
        · exact hJ x hx
        · simp at hx; subst hx; exact he.1 (by omega)
      · unfold rx_check_b3
        rw [List.take_of_length_le (Nat.le_refl _)] at hJ
        exact Ok.iF (by omega) (Ok.some ⟨fun _ => ⟨hK, hJ⟩, fun _ => rfl⟩)
    have no : ∀ e : Int, e ≠ 0 → ¬ KindOk r → Ok (some e) (fun e => e = 0 ↔ rxOk (d + 1) r) := fun e he hK => Ok.some ⟨fun h => absurd h he, fun h => absurd h.1 hK⟩
    have j4 : ∀ b : Bool, (b = true ↔ r.kind = 3 ∨ r.kind = 4) → 0 ≤ r.kind → r.kind ≤ 5 → (r.kind ≠ 2 → eqS r.set noS = true) → Ok (rx_check_j4 fu r lev (rx_check fu) b) (fun e => e = 0 ↔ rxOk (d + 1) r) := fun b hb k0 k1 k2 => by
      unfold rx_check_j4
      refine Ok.bif (fun hb' => ?_) fun hb' => ?_
      · have hk := hb.1 hb'
        refine Ok.ite (fun h1 => no _ (by decide) fun hK => ?_) fun h1 => loop ⟨k0, k1, k2, by rw [if_pos hk]; omega⟩
        have := hK.len; rw [if_pos hk] at this; omega
      · have hk : ¬ (r.kind = 3 ∨ r.kind = 4) := fun h => by rw [hb.2 h] at hb'; cases hb'
        refine Ok.ite (fun h5 => Ok.ite (fun h1 => no _ (by decide) fun hK => ?_) fun h1 => loop ⟨k0, k1, k2, by rw [if_neg hk, if_pos h5]; omega⟩) fun h5 => Ok.ite (fun h1 => no _ (by decide) fun hK => ?_) fun h1 => loop ⟨k0, k1, k2, by rw [if_neg hk, if_neg h5]; omega⟩
        · have := hK.len; rw [if_neg hk, if_pos h5] at this; omega
        · have := hK.len; rw [if_neg hk, if_neg h5] at this; omega
    show Ok (rx_check_b0 fu (rx_check fu) r lev) _
    unfold rx_check_b0
    rw [j8_eq]
    refine Ok.iF (by omega) (Ok.ite (fun h1 => no _ (by decide) fun hK => by have := hK.lo; omega) fun h1 => Ok.ite (fun h2 => no _ (by decide) fun hK => by have := hK.hi; omega) fun h2 => Ok.ite (fun h3 => ?_) fun h3 => ?_)
    · refine Ok.bif (fun h4 => no _ (by decide) fun hK => ?_) fun h4 => ?_
      · have := hK.set h3
        rw [show (fun _ => false : BSet) = noS from rfl, this] at h4; cases h4
      · have hset : eqS r.set noS = true := by
          rw [show (fun _ => false : BSet) = noS from rfl] at h4
          cases h5 : eqS r.set noS
          · rw [h5] at h4; cases h4
          · rfl
        exact Ok.ite (fun h5 => j4 _ (by simp [h5]) (by omega) (by omega) fun _ => hset) fun h5 => j4 _ (by simp [h5]) (by omega) (by omega) fun _ => hset
    · exact Ok.ite (fun h5 => j4 _ (by simp [h5]) (by omega) (by omega) fun h6 => absurd h6 h3) fun h5 => j4 _ (by simp [h5]) (by omega) (by omega) fun h6 => absurd h6 h3
/- what they match -/
def Ls : List (List UInt8 → Prop) → List UInt8 → Prop
  | [], w => w = []
  | A :: l, w => ∃ x y, w = x ++ y ∧ A x ∧ Ls l y
def mt : Nat → Rx → List UInt8 → Prop
  | 0, _, _ => False
  | d + 1, r, w =>
    if r.kind = 1 then w = []
    else if r.kind = 2 then ∃ c : UInt8, w = [c] ∧ r.set c.toNat = true
    else if r.kind = 4 then ∃ x ∈ r.subs, mt d x w
    else if r.kind = 3 then Ls (r.subs.map (mt d)) w
    else if r.kind = 5 then Rep (fun v => ∃ x, r.subs[0]? = some x ∧ mt d x v) w
    else False
end Go.GL
