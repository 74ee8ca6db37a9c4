/- The strings of one length, for all bytes of a range: the law. -/
import Derived.Test.YtjmbmodmepdmjabDoorLawCnt
import Derived.Test.YtjmbmodmepdmjabDoorLawAuto
import Derived.Test.YtjmbmodmepdmjabDoorDAutomatonCount
namespace Go.GL
open Go.GK
def Wl : Nat → BitVec 64
  | 0 => word (fun _ => false) 1
  | k + 1 => Wl k + ((1#64) <<< (97 + k - 64))
def setK (k : Nat) : BSet := bitsOf (word (fun _ => false) 0) (Wl k) (word (fun _ => false) 2) (word (fun _ => false) 3)
theorem setK_all : ((List.range 8).all fun k => (List.range 256).all fun b => setK k b == (decide (97 ≤ b) && decide (b < 97 + k))) = true := by kernel_rfl
theorem setK_is {k b : Nat} (hk : k < 8) (hb : b < 256) : setK k b = (decide (97 ≤ b) && decide (b < 97 + k)) := by
  have := List.all_eq_true.1 (List.all_eq_true.1 setK_all k (List.mem_range.2 hk)) b (List.mem_range.2 hb)
  simpa using this
theorem letters_ok {hi : Nat} {fu : Nat} (h1 : 97 ≤ hi) (h2 : hi ≤ 103) (hf : 300 ≤ fu) : Ok (w05_letters fu (hi : Int)) (fun x => x = .mk 2 (setK (hi - 96)) []) := by
  unfold w05_letters
  refine Ok.loop (fun x => ∃ k : Nat, k ≤ hi - 96 ∧ x = (((97 + k : Nat) : Int), Wl k)) (fun x => 200 - x.1.toNat) ⟨0, by omega, rfl⟩ (by dsimp only; omega) fun x nx hI hm hn => ?_
  obtain ⟨k, hk, rfl⟩ := hI
  unfold w05_letters_b1
  dsimp only at hm hn ⊢
  refine Ok.ite (fun h3 => Ok.iT (by omega) (Ok.chk (by unfold F8; omega) (Ok.chk (by unfold F8; omega) (hn _ ⟨k + 1, by omega, ?_⟩ ?_)))) fun h3 => ?_
  · refine Prod.ext (by show ((97 + k : Nat) : Int) + 1 = ((97 + (k + 1) : Nat) : Int); omega) ?_
    show Wl k + ((1#64) <<< (((97 + k : Nat) : Int) - 64).toNat) = Wl k + ((1#64) <<< (97 + k - 64))
    rw [show (((97 + k : Nat) : Int) - 64).toNat = 97 + k - 64 by omega]
  · dsimp only; omega
  · obtain rfl : k = hi - 96 := by omega
    exact Ok.some rfl
theorem eqS_refl (p : BSet) : eqS p p = true := by simp [eqS]
theorem leaf_rx {d : Nat} (p : BSet) : rxOk (d + 1) (.mk 2 p []) := ⟨⟨by show (0 : Int) ≤ 2; decide, by show (2 : Int) ≤ 5; decide, fun h => absurd rfl h, by show (if ((2 : Int) = 3 ∨ (2 : Int) = 4) then _ else _); simp [Rx.kind, Rx.subs]⟩, fun x hx => by simp [Rx.subs] at hx⟩
theorem leaf_mt {d : Nat} (p : BSet) (w : List UInt8) : mt (d + 1) (.mk 2 p []) w ↔ ∃ c : UInt8, w = [c] ∧ p c.toNat = true := by
  unfold mt
  rw [if_neg (by show ¬ (2 : Int) = 1; decide), if_pos (by show (2 : Int) = 2; rfl)]; rfl
theorem row_mt {A : List UInt8 → Prop} {p : BSet} (hA : ∀ w, A w ↔ ∃ c : UInt8, w = [c] ∧ p c.toNat = true) : ∀ (n : Nat) (w : List UInt8), Ls (List.replicate n A) w ↔ w.length = n ∧ ∀ c ∈ w, p c.toNat = true
  | 0, w => by
    show w = [] ↔ _
    constructor
    · rintro rfl; simp
    · intro h; exact List.length_eq_zero_iff.1 h.1
  | n + 1, w => by
    show (∃ x y, w = x ++ y ∧ A x ∧ Ls (List.replicate n A) y) ↔ _
    constructor
    · rintro ⟨x, y, rfl, hx, hy⟩
      obtain ⟨c, rfl, hc⟩ := (hA x).1 hx
      have := (row_mt hA n y).1 hy
      refine ⟨by simp [this.1], fun z hz => ?_⟩
      rcases List.mem_append.1 hz with hz | hz
      · simp at hz; subst hz; exact hc
      · exact this.2 z hz
    · rintro ⟨h1, h2⟩
      cases w with
      | nil => simp at h1
      | cons c w => exact ⟨[c], w, rfl, (hA _).2 ⟨c, rfl, h2 c (by simp)⟩, (row_mt hA n w).2 ⟨by simpa using h1, fun z hz => h2 z (by simp [hz])⟩⟩
theorem sum_rep (n a : Nat) : (List.replicate n a).sum = n * a := by
  induction n with
  | zero => simp
  | succ n ih => rw [List.replicate_succ, List.sum_cons, ih, Nat.add_mul]; omega
theorem count_law (n hi : Int) (h0 : 0 ≤ n) (h0' : 0 ≤ hi) : ∃ fu, w05_AutomatonCount fu n hi = some true := by
  refine ⟨300000000, Ok.eq ?_⟩
  generalize hfu : 300000000 = fu
  unfold w05_AutomatonCount
  refine Ok.ite (fun _ => Ok.alive (by omega)) fun h1 => Ok.ite (fun _ => Ok.alive (by omega)) fun h2 => Ok.ite (fun _ => Ok.alive (by omega)) fun h3 => Ok.ite (fun _ => Ok.alive (by omega)) fun h4 => ?_
  obtain ⟨n, rfl⟩ := Int.eq_ofNat_of_zero_le h0
  obtain ⟨hi, rfl⟩ := Int.eq_ofNat_of_zero_le h0'
  have hp := fun b (hb : b < 256) => setK_is (k := hi - 96) (by omega) hb
  generalize hP : setK (hi - 96) = p at hp
  refine Ok.loop (fun x => ∃ k : Nat, k ≤ n ∧ x = (List.replicate k (Rx.mk 2 p []), (k : Int))) (fun x => n - x.2.toNat) ⟨0, by omega, rfl⟩ (by dsimp only; omega) fun x nx hI _ hn => ?_
  obtain ⟨k, hk, rfl⟩ := hI
  dsimp only at hn ⊢
  unfold w05_AutomatonCount_b1
  refine Ok.ite (fun h5 => Ok.bnd (letters_ok (by omega) (by omega) (by omega)) fun x hx => ?_) fun h5 => ?_
  · rw [hP] at hx
    subst hx
    refine Ok.chk (by simp; unfold capN; omega) (Ok.chk (by unfold F64; omega) (hn _ ⟨k + 1, by omega, ?_⟩ ?_))
    · rw [List.replicate_succ']; rfl
    · dsimp only; omega
  · obtain rfl : k = n := by omega
    have hr : rxOk 16 (.mk 3 noS (List.replicate k (.mk 2 p []))) := ⟨⟨by show (0 : Int) ≤ 3; decide, by show (3 : Int) ≤ 5; decide, fun _ => eqS_refl _, by
        rw [if_pos (.inl rfl)]; show 2 ≤ (List.replicate k (Rx.mk 2 p [])).length; rw [List.length_replicate]; omega⟩, fun x hx => by
        obtain rfl := (List.mem_replicate.1 hx).2
        exact leaf_rx p⟩
    have hsz : sz 16 (.mk 3 noS (List.replicate k (.mk 2 p []))) ≤ 1990 := by
      show 2 + (List.replicate k (Rx.mk 2 p [])).length + ((List.replicate k (Rx.mk 2 p [])).map (sz 15)).sum ≤ 1990
      rw [List.length_replicate, List.map_replicate, sum_rep]
      show 2 + k + k * 2 ≤ 1990
      omega
    have hmt : ∀ w, mt 16 (.mk 3 noS (List.replicate k (.mk 2 p []))) w ↔ cntL hi k w = true := fun w => by
      have e : mt 16 (.mk 3 noS (List.replicate k (.mk 2 p []))) w ↔ Ls ((List.replicate k (Rx.mk 2 p [])).map (mt 15)) w := by
        conv => lhs; unfold mt
        rw [if_neg (by show ¬ (3 : Int) = 1; decide), if_neg (by show ¬ (3 : Int) = 2; decide), if_neg (by show ¬ (3 : Int) = 4; decide), if_pos (by show (3 : Int) = 3; rfl)]; rfl
      rw [e, List.map_replicate, row_mt (fun w => leaf_mt (d := 14) p w)]
      simp only [cntL, Bool.and_eq_true, decide_eq_true_eq, List.all_eq_true]
      refine and_congr Iff.rfl (forall_congr' fun c => forall_congr' fun _ => ?_)
      rw [hp c.toNat c.toNat_lt]
      simp only [inS, Bool.and_eq_true, decide_eq_true_eq]; omega
    have hof := of_ok (r := .mk 3 noS (List.replicate k (.mk 2 p []))) (Q := fun N => Smp N ∧ 2 ≤ N.1.length) (fu := fu) (B := 200) hsz
      (fun hr => (letters_net (by omega) (by omega) (by omega)).and ((add_ok 16 _ fu hr (by omega) net0 2 0 1 net0_nb (by decide) (by decide) (by decide) (by decide) (by omega)).mono fun N hN => hN.2.len))
      (fun N hQ hN L hn hL => hQ.1.bound hN hQ.2 hn hL) (by decide) (by omega)
    refine Ok.bnd (x := au_Of fu (.mk 3 (fun _ => false) (List.replicate k (.mk 2 p [])))) hof fun x hx => ?_
    obtain ⟨N, hQ, hN, hx⟩ := hx.1.yes hr
    have hc := cnt_facts (hi := hi) (n := k) (by omega) (by omega)
    have hcan : ∀ T, WfT T → (∀ w, lgT T 0 w = true ↔ mt 16 (.mk 3 noS (List.replicate k (.mk 2 p []))) w) → canT T = cntT hi k := fun T hT hl => by
      rw [← cnt_canT (hi := hi) (n := k) (by omega) (by omega)]
      refine canT_congr hT hc.1 ?_
      rw [hc.2]
      funext w
      have := (hl w).trans (hmt w)
      cases h6 : lgT T 0 w <;> cases h7 : cntL hi k w <;> simp [h6, h7] at this ⊢
    have hlen : (cntT hi k).length = k + 1 := by simp [cntT, cntTo_len]
    rcases hx with ⟨hm, _⟩ | ⟨T, hT, hl, ⟨hx, _⟩ | ⟨_, rfl⟩⟩
    · exact absurd hm (hQ.1.many hN hQ.2)
    · rw [hcan T hT hl, hlen] at hx; omega
    · rw [hcan T hT hl]
      refine Ok.iF (by simp) (Ok.chk (by unfold F64; omega) (Ok.iF (by dsimp only; rw [hlen]; omega) ?_))
      refine Ok.count (fun _ => True) (k + 1) trivial (by omega) (fun j nx hj _ hn2 => ?_) (fun nx _ => ?_)
      · unfold w05_AutomatonCount_b2
        dsimp only
        refine Ok.iT (by rw [hlen]; omega) ?_
        rcases Nat.lt_or_ge j k with h6 | h6
        · have hget : (cntT hi k)[j]? = some (false, [((97 : Int), (hi : Int), ((j + 1 : Nat) : Int))]) := by
            unfold cntT; rw [List.getElem?_append_left (by rw [cntTo_len]; exact h6)]; unfold cntTo; rw [tab_get? h6]
          refine Ok.idx? (by omega) (by rw [Int.toNat_natCast]; exact hget) (Ok.F ?_ (Ok.iT (by omega) (Ok.iF (by simp) (Ok.idx? (a := ((97 : Int), (hi : Int), ((j + 1 : Nat) : Int))) (by decide) rfl (Ok.F ?_ (hn2 trivial))))))
          · have : ¬ ((j : Nat) : Int) = (k : Int) := by omega
            simp [this]
          · have : ((j + 1 : Nat) : Int) = (j : Int) + 1 := by omega
            simp [this]
        · obtain rfl : j = k := by omega
          have hget : (cntT hi j)[j]? = some (true, []) := by
            unfold cntT; rw [List.getElem?_append_right (by rw [cntTo_len]; exact Nat.le_refl _), cntTo_len]; simp
          exact Ok.idx? (by omega) (by rw [Int.toNat_natCast]; exact hget) (Ok.F (by simp) (Ok.iF (by omega) (hn2 trivial)))
      · unfold w05_AutomatonCount_b2
        dsimp only
        exact Ok.iF (by rw [hlen]; omega) (Ok.alive (by omega))
end Go.GL
