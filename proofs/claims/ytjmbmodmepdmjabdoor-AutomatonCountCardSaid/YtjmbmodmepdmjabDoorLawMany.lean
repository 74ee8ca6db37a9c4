/- Whether the strings lead to many sets of positions. -/
import Derived.Test.YtjmbmodmepdmjabDoorLawDet3
namespace Go.GL
open Go.GK
def psE (b : Nat) (row : List (BSet × Int × Int)) : List Int := (row.filter fun e => e.1 b).map fun e => e.2.2
def ps (N : NT) (S : List Int) (b : Nat) : List Int := S.flatMap fun s => psE b (N.2.1.getD s.toNat [])
def BMap (m : List (Str × Bool)) (u : List Str) : Prop := m.length = u.length ∧ u.Nodup ∧ ∀ x, fmGet m x = if x ∈ u then some true else none
theorem BMap.put {m : List (Str × Bool)} {u : List Str} (h : BMap m u) {x : Str} (hx : x ∉ u) : BMap (fmPut m x true) (u ++ [x]) := by
  refine ⟨by rw [fmPut_len, h.2.2, if_neg hx, h.1]; simp, List.nodup_append.2 ⟨h.2.1, by simp, fun y hy z hz => ?_⟩, fun z => ?_⟩
  · simp at hz; subst hz; exact fun e => hx (e ▸ hy)
  · rw [fmGet_put, h.2.2]
    by_cases hz : z = x
    · subst hz; simp
    · rw [if_neg hz]
      by_cases hu : z ∈ u <;> simp [hu, hz]
theorem BMap.get {m : List (Str × Bool)} {u : List Str} (h : BMap m u) (x : Str) : (fmGet m x).getD false = decide (x ∈ u) := by
  rw [h.2.2]; by_cases hx : x ∈ u <;> simp [hx]
theorem psE_len (b : Nat) (row : List (BSet × Int × Int)) : (psE b row).length = (mvE b row).length := by unfold psE mvE; simp
theorem ps_len (N : NT) (S : List Int) (b : Nat) : (ps N S b).length = (mv N S b).length := by
  unfold ps mv
  induction S with
  | nil => rfl
  | cons s S ih => rw [List.flatMap_cons, List.flatMap_cons, List.length_append, List.length_append, ih, psE_len]
theorem ps_rg {N : NT} {c : Nat} (hN : NB N c) {S : List Int} {b : Nat} {x : Int} (hx : x ∈ ps N S b) : 0 ≤ x ∧ x < c := by
  obtain ⟨s, _, hx⟩ := List.mem_flatMap.1 hx
  obtain ⟨e, he, rfl⟩ := List.mem_map.1 hx
  have he := (List.mem_filter.1 he).1
  rw [List.getD_eq_getElem?_getD] at he
  cases hk : N.2.1[s.toNat]? with
  | none => rw [hk] at he; cases he
  | some l =>
    rw [hk] at he
    have := hN.q2 l (List.mem_of_getElem? hk) e he
    have := hN.p1
    omega
theorem sortI_len (l : List Int) : (sortI l).length = l.length := (isortB_perm _ l).length_eq
theorem sortI_mem {l : List Int} {x : Int} : x ∈ sortI l ↔ x ∈ l := (isortB_perm _ l).mem_iff
theorem b4_ok {P : Bool → Prop} {p : BSet} {k fu : Nat} {nx : (List Int × List Int × Nat) → Option Bool} {row : List (BSet × Int × Int)} {q pre : List Int} (hr : row.length ≤ 4000) (hq : q.length ≤ 100000000) (hp : pre.length ≤ 100000000) (hf : 200000000 ≤ fu)
    (hn : Ok (nx (q ++ psE (lst p) row, pre ++ mvE (lst p) row, k + 1)) P) : Ok (loopK fu (fun y nx' => au_net_many_b4 fu p k nx row y.1 y.2.1 y.2.2 nx') (q, pre, 0)) P := by
  refine Ok.range2 (fun j s t => s = q ++ psE (lst p) (row.take j) ∧ t = pre ++ mvE (lst p) (row.take j)) row.length (by simp [mvE, psE]) (by omega) (fun j s t nx2 hj hJ hn2 => ?_) (fun s t nx2 hJ => ?_)
  · obtain ⟨rfl, rfl⟩ := hJ
    unfold au_net_many_b4
    dsimp only
    have hl := mvE_len (lst p) (row.take j)
    have hl2 := psE_len (lst p) (row.take j)
    have htl : (row.take j).length ≤ row.length := by rw [List.length_take]; omega
    have htk : row.take (j + 1) = row.take j ++ [row[j]] := (List.take_append_getElem hj).symm
    have hnx : mvE (lst p) (row.take (j + 1)) = mvE (lst p) (row.take j) ++ if row[j].1 (lst p) then [row[j].2.1] else [] := by
      rw [htk]
      unfold mvE
      rw [List.filter_append, List.map_append]
      congr 1
      rw [List.filter_cons]
      split <;> rfl
    have hnq : psE (lst p) (row.take (j + 1)) = psE (lst p) (row.take j) ++ if row[j].1 (lst p) then [row[j].2.2] else [] := by
      rw [htk]
      unfold psE
      rw [List.filter_append, List.map_append]
      congr 1
      rw [List.filter_cons]
      split <;> rfl
    refine Ok.iT (by omega) (Ok.idxN hj ?_)
    rw [Int.toNat_natCast]
    refine Ok.bif (fun h => Ok.chk (by rw [List.length_append]; simp only [List.length_cons, List.length_nil]; unfold capN; omega) (Ok.chk (by rw [List.length_append]; simp only [List.length_cons, List.length_nil]; unfold capN; omega) (hn2 _ _ ⟨?_, ?_⟩))) fun h => hn2 _ _ ⟨?_, ?_⟩
    · rw [hnq, if_pos h, ← List.append_assoc]
    · rw [hnx, if_pos h, ← List.append_assoc]
    · rw [hnq, if_neg (by rw [h]; decide), List.append_nil]
    · rw [hnx, if_neg (by rw [h]; decide), List.append_nil]
  · obtain ⟨rfl, rfl⟩ := hJ
    unfold au_net_many_b4
    dsimp only
    rw [List.take_of_length_le (Nat.le_refl _)]
    exact Ok.iF (by omega) hn
/- a key of positions that some string leads to -/
def PosK (N : NT) (a : Int) (x : Str) : Prop := ∃ S b, Rch N a S ∧ b < 256 ∧ ps N S b ≠ [] ∧ x = keyT (sortI (ps N S b))
def Many (N : NT) (a : Int) (r : Bool) : Prop := r = true → ∃ ks : List Str, ks.Nodup ∧ ks.length = 501 ∧ ∀ x ∈ ks, PosK N a x
theorem many_ok {N : NT} {c fu : Nat} {a : Int} (hN : NB N c) (hc : c ≤ 4000) (ha : 0 ≤ a) (ha' : a < N.1.length) (hf : 200000000 ≤ fu) : Ok (au_net_many fu N a) (Many N a) := by
  have hlen := hN.len
  unfold au_net_many
  refine Ok.bnd (sets_ok hN hc hf) fun r hr => ?_
  obtain ⟨rfl, hr⟩ := hr
  refine Ok.chk (by omega) (Ok.bnd (closure_ok hN hc (fun x hx => by simp at hx; subst hx; exact ⟨ha, ha'⟩) (by simp) hf) fun r hr => ?_)
  subst hr
  have hpl : (partsD (setsD N)).length ≤ 65536 := parts_len _
  refine Ok.loop (fun (x : List (List Int) × List (Str × Bool) × Nat) => (∀ S ∈ x.1, Rch N a S) ∧ (∃ u, BMap x.2.1 u ∧ (∀ y ∈ u, PosK N a y) ∧ u.length ≤ 500 ∧ x.1.length = u.length + 1) ∧ x.2.2 ≤ x.1.length) (fun x => 501 - x.2.2)
    ⟨fun S hS => by simp at hS; subst hS; exact .start, ⟨[], ⟨rfl, .nil, fun _ => rfl⟩, by simp, by simp, rfl⟩, by simp⟩ (by dsimp only; omega) fun x nx hI _ hn => ?_
  obtain ⟨W, m, k⟩ := x
  obtain ⟨h1, ⟨u, h2, h3, h4, h5⟩, h6⟩ := hI
  dsimp only at h1 h2 h3 h4 h5 h6 hn
  unfold au_net_many_b1
  dsimp only
  rcases Nat.lt_or_ge k W.length with hk | hk
  · refine Ok.iT (by omega) ?_
    have hS := h1 _ (List.getElem_mem hk)
    have hkS : W[k]? = some W[k] := List.getElem?_eq_getElem hk
    generalize W[k] = S at hS hkS
    have hSl := hS.len
    refine Ok.range2 (fun j W' m' => (∀ S ∈ W', Rch N a S) ∧ (∃ u, BMap m' u ∧ (∀ y ∈ u, PosK N a y) ∧ u.length ≤ 500 ∧ W'.length = u.length + 1) ∧ ∃ more, W' = W ++ more) (partsD (setsD N)).length ⟨h1, ⟨u, h2, h3, h4, h5⟩, [], by simp⟩ (by omega) (fun j W' m' nx2 hj hJ hn2 => ?_) (fun W' m' nx2 hJ => ?_)
    · obtain ⟨g1, ⟨u', g2, g3, g4, g5⟩, more, g6⟩ := hJ
      unfold au_net_many_b2
      dsimp only
      refine Ok.iT (by omega) (Ok.idxN hj (Ok.idx? (by omega) (by rw [Int.toNat_natCast, g6, List.getElem?_append_left hk]; exact hkS) ?_))
      generalize (partsD (setsD N))[j] = p
      refine Ok.range2 (fun i s t => s = ps N (S.take i) (lst p) ∧ t = mv N (S.take i) (lst p)) S.length ⟨rfl, rfl⟩ (by omega) (fun i s t nx3 hi hJ hn3 => ?_) (fun s t nx3 hJ => ?_)
      · obtain ⟨rfl, rfl⟩ := hJ
        unfold au_net_many_b3
        dsimp only
        have hx := hS.rg (List.getElem_mem hi)
        have hl := mv_len hN hc (S := S.take i) (lst p) (by rw [List.length_take]; omega)
        have hl2 := ps_len N (S.take i) (lst p)
        refine Ok.iT (by omega) (Ok.idxN hi (Ok.idx? hx.1 (row_get hN hx.1 hx.2) (b4_ok (by have := row_len hN S[i].toNat; omega) (by omega) (by omega) hf (hn3 _ _ ⟨?_, ?_⟩))))
        · rw [show S.take (i + 1) = S.take i ++ [S[i]] from (List.take_append_getElem hi).symm]
          unfold ps
          rw [List.flatMap_append]; simp
        · rw [show S.take (i + 1) = S.take i ++ [S[i]] from (List.take_append_getElem hi).symm]
          unfold mv
          rw [List.flatMap_append]; simp
      · obtain ⟨rfl, rfl⟩ := hJ
        unfold au_net_many_b3
        dsimp only
        rw [List.take_of_length_le (Nat.le_refl _)]
        have hl := mv_len hN hc (lst p) hSl
        have hl2 := ps_len N S (lst p)
        refine Ok.iF (by omega) (Ok.chk (by unfold capN; omega) (Ok.bnd (key_ok (fun x hx => by have := ps_rg hN (sortI_mem.1 hx); omega) (by rw [sortI_len]; omega) hf) fun r hr => ?_))
        obtain ⟨rfl, hkl⟩ := hr
        rw [sortI_len] at hkl
        refine Ok.ite (fun h => hn2 _ _ ⟨g1, ⟨u', g2, g3, g4, g5⟩, more, g6⟩) fun h => ?_
        rw [sortI_len] at h
        have hne : ps N S (lst p) ≠ [] := fun e => by rw [e] at h; exact h rfl
        have hmne : mv N S (lst p) ≠ [] := fun e => by rw [e] at hl2; exact hne (List.length_eq_zero_iff.1 hl2)
        have hK : PosK N a (keyT (sortI (ps N S (lst p)))) := ⟨S, lst p, hS, lst_lt p, hne, rfl⟩
        rw [g2.get]
        refine Ok.chk (by unfold capN; omega) (Ok.bif (fun h7 => hn2 _ _ ⟨g1, ⟨u', g2, g3, g4, g5⟩, more, g6⟩) fun h7 => ?_)
        have h7 : keyT (sortI (ps N S (lst p))) ∉ u' := by simpa using h7
        have hput := g2.put h7
        have hml := g2.1
        refine Ok.ite (fun h8 => Ok.some fun _ => ⟨u' ++ [keyT (sortI (ps N S (lst p)))], hput.2.1, by rw [List.length_append]; simp only [List.length_cons, List.length_nil]; omega, fun x hx => ?_⟩) fun h8 => ?_
        · rcases List.mem_append.1 hx with hx | hx
          · exact g3 x hx
          · simp at hx; subst hx; exact hK
        · refine Ok.chk (by unfold capN; omega) (Ok.chk (by unfold capN; omega) (Ok.bnd (closure_ok hN hc (fun x hx => mv_rg hN hx) (by omega) hf) fun r hr => ?_))
          subst hr
          refine Ok.chk (by simp only [List.length_cons, List.length_nil]; unfold capN; omega) (hn2 _ _ ⟨fun T hT => ?_, ⟨u' ++ [keyT (sortI (ps N S (lst p)))], hput, fun x hx => ?_, ?_, ?_⟩, more ++ [cloD N (mv N S (lst p))], by rw [g6, List.append_assoc]⟩)
          · rcases List.mem_append.1 hT with hT | hT
            · exact g1 T hT
            · simp at hT; subst hT; exact .step hS (lst_lt p) hmne
          · rcases List.mem_append.1 hx with hx | hx
            · exact g3 x hx
            · simp at hx; subst hx; exact hK
          · rw [List.length_append]; simp only [List.length_cons, List.length_nil]; omega
          · rw [List.length_append, List.length_append]; simp only [List.length_cons, List.length_nil]; omega
    · obtain ⟨g1, ⟨u', g2, g3, g4, g5⟩, more, g6⟩ := hJ
      unfold au_net_many_b2
      dsimp only
      refine Ok.iF (by omega) (hn (W', m', k + 1) ⟨g1, ⟨u', g2, g3, g4, g5⟩, ?_⟩ ?_)
      · dsimp only; rw [g6, List.length_append]; omega
      · dsimp only; omega
  · exact Ok.iF (by omega) (Ok.some fun h => by cases h)
end Go.GL
