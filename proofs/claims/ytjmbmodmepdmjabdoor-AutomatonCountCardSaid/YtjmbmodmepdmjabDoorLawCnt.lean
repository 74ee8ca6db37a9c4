/- The strings of one length, over a range of bytes: their canonical automaton. -/
import Derived.Test.YtjmbmodmepdmjabDoorLawOf
namespace Go.GL
open Go.GK
def inS (hi b : Nat) : Bool := decide (97 ≤ b) && decide (b ≤ hi)
def cntL (hi n : Nat) : Lg := fun w => decide (w.length = n) && w.all fun c => inS hi c.toNat
theorem cntL_live {hi : Nat} (h : 97 ≤ hi) (n : Nat) : live (cntL hi n) = true := live_of (w := List.replicate n 97) (by simp [cntL, inS, h])
theorem cntL_inj {hi m n : Nat} (h : 97 ≤ hi) (e : cntL hi m = cntL hi n) : m = n := by
  have := congrFun e (List.replicate m 97)
  simp [cntL, inS, h] at this
  exact this
theorem cntL_der {hi n b : Nat} (hb : b < 256) : der (cntL hi (n + 1)) b = if inS hi b = true then cntL hi n else fun _ => false := by
  funext w
  have e : (UInt8.ofNat b).toNat = b := by simp; omega
  unfold der cntL
  rw [List.length_cons, List.all_cons, e]
  by_cases h : inS hi b = true
  · rw [if_pos h, h]; simp
  · rw [if_neg h]
    have : inS hi b = false := by simpa using h
    rw [this]; simp
theorem cntL_nil (hi b : Nat) : der (cntL hi 0) b = fun _ => false := by funext w; simp [der, cntL]
def knC (hi n k : Nat) : List Lg := tab k fun j => cntL hi (n - j)
def cntTo (hi k : Nat) : Tb := tab k fun j => (false, [((97 : Int), (hi : Int), ((j + 1 : Nat) : Int))])
def cntT (hi n : Nat) : Tb := cntTo hi n ++ [(true, [])]
theorem cntTo_len (hi k : Nat) : (cntTo hi k).length = k := tab_len _ _
theorem cnt_go {hi n : Nat} (h1 : 97 ≤ hi) (h2 : hi < 256) : ∀ (d k fu : Nat), k + d = n → d + 1 ≤ fu → canGo fu (knC hi n (k + 1)) (cntTo hi k) = cntT hi n
  | 0, k, fu + 1, hk, _ => by
    obtain rfl : k = n := by omega
    have hget : (knC hi k (k + 1))[(cntTo hi k).length]? = some (cntL hi 0) := by rw [cntTo_len]; unfold knC; rw [tab_get? (by omega)]; simp
    unfold canGo; rw [hget]; dsimp only
    rw [rowTo_none _ _ fun b hb => by rw [cntL_nil]; exact live_none]
    have e : cntTo hi k ++ [(cntL hi 0 [], [])] = cntT hi k := by simp [cntT, cntL]
    dsimp only
    rw [e]
    cases fu with
    | zero => rfl
    | succ fu =>
      unfold canGo
      rw [List.getElem?_eq_none (by unfold knC; rw [tab_len]; simp [cntT, cntTo_len])]
  | d + 1, k, fu + 1, hk, hf => by
    have hget : (knC hi n (k + 1))[(cntTo hi k).length]? = some (cntL hi (n - k)) := by rw [cntTo_len]; unfold knC; rw [tab_get? (by omega)]
    have hnk : n - k = (n - (k + 1)) + 1 := by omega
    have hnm : cntL hi (n - (k + 1)) ∉ knC hi n (k + 1) := fun hm => by
      obtain ⟨i, hi', he⟩ := mem_tab.1 hm
      have := cntL_inj h1 he; omega
    have hrow := rowTo_one (cntL hi (n - k)) (cntL hi (n - (k + 1))) (knC hi n (k + 1)) 97 hi h1 h2
      (fun b hb h => by rw [hnk, cntL_der hb, if_neg (by simp [inS]; omega)]; exact live_none)
      (fun b h3 h4 => by rw [hnk, cntL_der (by omega), if_pos (by simp [inS]; omega)]) (cntL_live h1 _)
    have hix : ixL (knC hi n (k + 1)) (cntL hi (n - (k + 1))) = k + 1 := by rw [ixL_not hnm]; unfold knC; rw [tab_len]
    have hkn : kn1 (knC hi n (k + 1)) (cntL hi (n - (k + 1))) = knC hi n (k + 2) := by
      unfold kn1; rw [if_pos (ixL_not hnm)]
      unfold knC; rw [tab_succ (k + 1)]
    unfold canGo; rw [hget]; dsimp only
    rw [hrow, hkn, hix]; dsimp only
    have e : cntTo hi k ++ [(cntL hi (n - k) [], [(((97 : Nat) : Int), (hi : Int), ((k + 1 : Nat) : Int))])] = cntTo hi (k + 1) := by
      unfold cntTo; rw [tab_succ]
      have : cntL hi (n - k) [] = false := by simp [cntL]; omega
      rw [this]; rfl
    rw [e]
    exact cnt_go h1 h2 d (k + 1) fu (by omega) (by omega)
theorem cnt_can {hi n fu : Nat} (h1 : 97 ≤ hi) (h2 : hi < 256) (hf : n + 1 ≤ fu) : canL fu (cntL hi n) = cntT hi n := by
  unfold canL
  rw [if_pos (cntL_live h1 n)]
  have := cnt_go (n := n) h1 h2 n 0 fu (by omega) hf
  simpa [knC, tab, cntTo] using this
theorem cnt_clo {hi n : Nat} : Clo (knC hi n (n + 1)) := by
  intro K hK b hb hl
  obtain ⟨i, hi', rfl⟩ := mem_tab.1 hK
  rcases Nat.lt_or_ge i n with h | h
  · rw [show n - i = (n - (i + 1)) + 1 by omega, cntL_der hb] at hl ⊢
    split at hl
    · rename_i hb'
      rw [if_pos hb']; exact mem_tab.2 ⟨i + 1, by omega, rfl⟩
    · rw [live_none] at hl; cases hl
  · rw [show n - i = 0 by omega, cntL_nil, live_none] at hl; cases hl
theorem cnt_facts {hi n : Nat} (h1 : 97 ≤ hi) (h2 : hi < 256) : WfT (cntT hi n) ∧ lgT (cntT hi n) 0 = cntL hi n := by
  have := canL_ok (cnt_clo (hi := hi) (n := n)) (L := cntL hi n) (fun _ => mem_tab.2 ⟨0, by omega, rfl⟩) (fu := n + 2) (by unfold knC; rw [tab_len]; omega)
  rw [cnt_can (fu := n + 2) h1 h2 (by omega)] at this
  exact ⟨this.1, this.2.1⟩
theorem cnt_canT {hi n : Nat} (h1 : 97 ≤ hi) (h2 : hi < 256) : canT (cntT hi n) = cntT hi n := by
  unfold canT
  rw [(cnt_facts h1 h2).2, cnt_can h1 h2 (by simp [cntT, cntTo_len])]
/- nets of single steps -/
structure Smp (N : NT) : Prop where
  f : ∀ l ∈ N.1, l = []
  o : ∀ l ∈ N.2.1, l.length ≤ 1
  n : N.1.length ≤ 200
theorem Smp.clo {N : NT} (h : Smp N) {t : Int} (h0 : 0 ≤ t) (h1 : t < N.1.length) : cloD N [t] = [t] := by
  have hno : ∀ s w u, ¬ trF N.1 s w u := fun s w u ⟨_, _, l, hl, hu⟩ => by
    rw [h.f l (List.mem_of_getElem? hl)] at hu; cases hu
  have hcl : ∀ {s u : Int} {w : List UInt8}, Cl (trF N.1) s w u → u = s := fun hc => by
    cases hc with
    | refl => rfl
    | step h1 _ => exact absurd h1 (hno _ _ _)
  have hall : ∀ z ∈ cloD N [t], z = t := fun z hz => by
    obtain ⟨z0, _, x, hx, hc⟩ := mem_cloD.1 hz
    simp at hx; subst hx
    have := hcl hc; omega
  have hin : t ∈ cloD N [t] := cloD_self (by simp) h0 h1
  have hnd : (cloD N [t]).Nodup := by
    unfold cloD stl ints
    exact List.pairwise_map.2 (List.Pairwise.imp (fun {a b} h => by omega) (List.Pairwise.filter _ List.pairwise_lt_range))
  generalize cloD N [t] = S at hall hin hnd
  match S with
  | [] => cases hin
  | [z] => rw [hall z (by simp)]
  | z :: y :: S =>
    have e1 := hall z (by simp)
    have e2 := hall y (by simp)
    rw [e1, e2] at hnd; simp at hnd
theorem Smp.rch {N : NT} {c : Nat} (hN : NB N c) (h : Smp N) (h2 : 2 ≤ N.1.length) {S : List Int} (hS : Rch N 0 S) : ∃ y : Nat, y < N.1.length ∧ S = [(y : Int)] := by
  induction hS with
  | start => exact ⟨0, by omega, h.clo (by decide) (by omega)⟩
  | @step S b hR hb hm ih =>
    obtain ⟨y, hy, rfl⟩ := ih
    have hle : (mv N [(y : Int)] b).length ≤ 1 := by
      have h3 := mvE_len b (N.2.1.getD y [])
      have h4 : (N.2.1.getD y []).length ≤ 1 := by
        rw [List.getD_eq_getElem?_getD]
        cases hk : N.2.1[y]? with
        | none => simp
        | some l => exact h.o l (List.mem_of_getElem? hk)
      have e : mv N [(y : Int)] b = mvE b (N.2.1.getD y []) := by simp only [mv, List.flatMap_cons, List.flatMap_nil, List.append_nil, Int.toNat_natCast]
      rw [e]; omega
    have hrg := fun x => mv_rg hN (S := [(y : Int)]) (b := b) (x := x)
    generalize mv N [(y : Int)] b = M at hm hle hrg
    match M with
    | [] => exact absurd rfl hm
    | [t] =>
      have ht := hrg t (by simp)
      exact ⟨t.toNat, by omega, by rw [h.clo ht.1 ht.2, show ((t.toNat : Nat) : Int) = t by omega]⟩
    | _ :: _ :: _ => simp at hle
theorem Smp.bound {N : NT} {c : Nat} (hN : NB N c) (h : Smp N) (h2 : 2 ≤ N.1.length) {L : List (List Int)} (hn : L.Nodup) (hL : ∀ S ∈ L, Rch N 0 S) : L.length ≤ 200 := by
  have := nodup_le' (b := (List.range N.1.length).map fun (y : Nat) => [(y : Int)]) hn fun S hS => by
    obtain ⟨y, hy, rfl⟩ := h.rch hN h2 (hL S hS)
    exact List.mem_map.2 ⟨y, List.mem_range.2 hy, rfl⟩
  have := h.n
  simp at *; omega
theorem Smp.many {N : NT} {c : Nat} (hN : NB N c) (h : Smp N) (h2 : 2 ≤ N.1.length) : ¬ Many N 0 true := fun hm => by
  obtain ⟨ks, h3, h4, h5⟩ := hm rfl
  have := nodup_le' (b := (List.range N.1.length).map fun (y : Nat) => keyT (sortI ((N.2.1.getD y []).map (·.2.2)))) h3 fun x hx => by
    obtain ⟨S, b, hS, hb, hne, rfl⟩ := h5 x hx
    obtain ⟨y, hy, rfl⟩ := h.rch hN h2 hS
    refine List.mem_map.2 ⟨y, List.mem_range.2 hy, ?_⟩
    have h4 : (N.2.1.getD y []).length ≤ 1 := by
      rw [List.getD_eq_getElem?_getD]
      cases hk : N.2.1[y]? with
      | none => simp
      | some l => exact h.o l (List.mem_of_getElem? hk)
    have e : ps N [(y : Int)] b = psE b (N.2.1.getD y []) := by simp [ps]
    rw [e] at hne ⊢
    generalize N.2.1.getD y [] = row at h4 hne
    match row with
    | [] => exact absurd rfl hne
    | [e] =>
      unfold psE at hne ⊢
      rw [List.filter_cons] at hne ⊢
      split
      · rfl
      · rename_i h6; rw [if_neg h6] at hne; exact absurd rfl hne
    | _ :: _ :: _ => simp at h4
  have := h.n
  simp at *; omega
/- the net of a row of letters -/
theorem leaf_ok {N : NT} {p : BSet} {fu : Nat} {a t : Int} (ha : 0 ≤ a) (hx : N.2.1[a.toNat]? = some []) (h0 : 0 ≤ N.2.2) (h1 : N.2.2 ≤ 1000) (hf : 0 < fu) : Ok (au_net_add fu N (.mk 2 p []) a t) (fun N' => N' = (N.1, N.2.1.set a.toNat [(p, t, N.2.2)], N.2.2 + 1)) := by
  cases fu with
  | zero => omega
  | succ fu =>
    show Ok (au_net_add_b0 fu (au_net_add fu) N (.mk 2 p []) a t) _
    unfold au_net_add_b0
    refine Ok.iF (by show ¬ (2 : Int) = 1; decide) (Ok.iT (by show (2 : Int) = 2; rfl) (Ok.idx? ha hx (Ok.chk (by simp [capN]) (Ok.chk (by unfold F64; omega) (Ok.some rfl)))))
theorem set_one {α : Type} {E : List (List α)} {k : Nat} {x l : List α} (h : l ∈ E.set k x) : l ∈ E ∨ l = x := List.mem_or_eq_of_mem_set h
theorem letters_loop {p q : BSet} {n fu : Nat} (hn : n ≤ 190) (hfu : 0 < fu) : ∀ (rem f k : Nat) (N : NT) (a : Int), k + (rem + 1) = n → rem + 1 < f → Smp N → N.1.length = 2 + k → N.2.1.length = 2 + k → 0 ≤ a → N.2.1[a.toNat]? = some [] → 0 ≤ N.2.2 → N.2.2 ≤ k →
    Ok (loopK f (fun y nx => au_net_add_b4 fu (.mk 3 q (List.replicate n (.mk 2 p []))) 1 (au_net_add fu) y.1 y.2.1 y.2.2.1 y.2.2.2.1 y.2.2.2.2 nx) (N.1, N.2.1, a, k, N.2.2)) Smp
  | _, 0, _, _, _, _, h, _, _, _, _, _, _, _ => absurd h (Nat.not_lt_zero _)
  | rem, f + 1, k, N, a, hk, hf, hS, hl1, hl2, ha, hrow, hp0, hp1 => by
    have hsub : (Rx.mk 3 q (List.replicate n (Rx.mk 2 p []))).subs = List.replicate n (Rx.mk 2 p []) := rfl
    have hlen : (List.replicate n (Rx.mk 2 p [])).length = n := List.length_replicate
    show Ok (au_net_add_b4 fu (.mk 3 q (List.replicate n (.mk 2 p []))) 1 (au_net_add fu) N.1 N.2.1 a k N.2.2 _) _
    rw [au_net_add_b4, hsub]
    refine Ok.iT (by omega) (Ok.idxN (by omega) ?_)
    rw [List.getElem_replicate]
    have hSn := hS.n
    cases rem with
    | zero =>
      refine Ok.iF (by omega) ?_
      rw [au_net_add_j5]
      refine Ok.bnd (leaf_ok (N := N) ha hrow hp0 (by omega) hfu) fun N1 h1 => ?_
      subst h1
      cases f with
      | zero => omega
      | succ f =>
        show Ok (au_net_add_b4 fu (.mk 3 q (List.replicate n (.mk 2 p []))) 1 (au_net_add fu) _ _ 1 (k + 1) _ _) _
        rw [au_net_add_b4, hsub]
        refine Ok.iF (by omega) (Ok.some ⟨hS.f, fun l hl => ?_, hSn⟩)
        rcases set_one hl with hl | rfl
        · exact hS.o l hl
        · simp
    | succ rem =>
      refine Ok.iT (by omega) (Ok.chk (by unfold capN; omega) (Ok.chk (by unfold capN; omega) ?_))
      rw [au_net_add_j5]
      have hlt : a.toNat < N.2.1.length := (List.getElem?_eq_some_iff.1 hrow).1
      refine Ok.bnd (leaf_ok (N := (N.1 ++ [[]], N.2.1 ++ [[]], N.2.2)) ha (by rw [List.getElem?_append_left hlt]; exact hrow) hp0 (by dsimp only; omega) hfu) fun N1 h1 => ?_
      subst h1
      refine letters_loop hn hfu rem f (k + 1) (N.1 ++ [[]], (N.2.1 ++ [[]]).set a.toNat [(p, ((N.2.1.length : Nat) : Int), N.2.2)], N.2.2 + 1) ((N.2.1.length : Nat) : Int) (by omega) (by omega) ⟨fun l hl => ?_, fun l hl => ?_, ?_⟩ ?_ ?_ (by omega) ?_ (by dsimp only; omega) (by dsimp only; omega)
      · rcases List.mem_append.1 hl with hl | hl
        · exact hS.f l hl
        · simpa using hl
      · rcases set_one hl with hl | rfl
        · rcases List.mem_append.1 hl with hl | hl
          · exact hS.o l hl
          · simp at hl; subst hl; simp
        · simp
      · simp; omega
      · simp; omega
      · simp; omega
      · rw [Int.toNat_natCast, List.getElem?_set_ne (by omega)]; simp
theorem letters_net {p q : BSet} {n fu : Nat} (h2 : 2 ≤ n) (hn : n ≤ 190) (hf : 200 ≤ fu) : Ok (au_net_add fu net0 (.mk 3 q (List.replicate n (.mk 2 p []))) 0 1) Smp := by
  cases fu with
  | zero => omega
  | succ fu =>
    show Ok (au_net_add_b0 fu (au_net_add fu) net0 (.mk 3 q (List.replicate n (.mk 2 p []))) 0 1) _
    unfold au_net_add_b0
    refine Ok.iF (by show ¬ (3 : Int) = 1; decide) (Ok.iF (by show ¬ (3 : Int) = 2; decide) (Ok.iF (by show ¬ (3 : Int) = 4; decide) (Ok.iT (by show (3 : Int) = 3; rfl) ?_)))
    exact letters_loop (q := q) hn (by omega) (n - 1) fu 0 net0 0 (by omega) (by omega) ⟨fun l hl => by simpa [net0] using hl, fun l hl => by simp [net0] at hl; subst hl; simp, by decide⟩ rfl rfl (by decide) rfl (by decide) (by decide)
end Go.GL
