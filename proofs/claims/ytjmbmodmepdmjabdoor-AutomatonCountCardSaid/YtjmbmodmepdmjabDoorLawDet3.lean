/- The table of a net accepts what leads through the net. -/
import Derived.Test.YtjmbmodmepdmjabDoorLawDet2
namespace Go.GL
open Go.GK
theorem rgD_len (p : BSet) : (rgD p).length ≤ 256 := by
  have I := rg_inv p 256
  unfold rgD
  rw [List.length_map]
  have h1 : ((rgTo p 256).map (·.1)).Nodup := List.pairwise_map.2 (List.Pairwise.imp_of_mem (fun {a b} ha hb hab => by have := I.run a ha; have := I.run b hb; omega) I.apart)
  have := nodup_le' (b := List.range 256) h1 fun x hx => by
    obtain ⟨a, ha, rfl⟩ := List.mem_map.1 hx
    have := I.run a ha
    exact List.mem_range.2 (by omega)
  simpa using this
theorem edD_len (ms : List (BSet × Int)) : (edD ms).length ≤ ms.length * 256 := flat_len fun m _ => by rw [List.length_map]; exact rgD_len m.1
theorem b15_ok {P : Tb → Prop} {m : BSet × Int} {k fu : Nat} {nx : (List EdI × Nat) → Option Tb} {pre : List EdI} (hp : pre.length ≤ 100000000) (hf : 200000000 ≤ fu)
    (hn : Ok (nx (pre ++ (rgD m.1).map (fun x => (x.1, x.2, m.2)), k + 1)) P) : Ok (loopK fu (fun q nx' => au_net_determine_b15 fu k nx m q.1 q.2 nx') (pre, 0)) P := by
  have hl := rgD_len m.1
  refine Ok.range (fun j s => s = pre ++ ((rgD m.1).take j).map (fun x => (x.1, x.2, m.2))) (rgD m.1).length (by simp) (by omega) (fun j s nx2 hj hJ hn2 => ?_) (fun s nx2 hJ => ?_)
  · subst hJ
    unfold au_net_determine_b15
    dsimp only
    refine Ok.iT (by omega) (Ok.idxN hj (Ok.chk ?_ (hn2 _ ?_)))
    · rw [List.length_append, List.length_map, List.length_take]; simp only [List.length_cons, List.length_nil]; unfold capN; omega
    · rw [show (rgD m.1).take (j + 1) = (rgD m.1).take j ++ [(rgD m.1)[j]] from (List.take_append_getElem hj).symm, List.map_append, ← List.append_assoc]; rfl
  · subst hJ
    unfold au_net_determine_b15
    dsimp only
    rw [List.take_of_length_le (Nat.le_refl _)]
    exact Ok.iF (by omega) hn
theorem b10_ok {P : Tb → Prop} {N : NT} {c fu k B : Nat} {a b : Int} {S : List Int} {L0 : List (List Int)} {m0 : List (Str × Int)} {out : Tb} {nx : (List (List Int) × Tb × List (Str × Int) × Nat) → Option Tb}
    (hN : NB N c) (hc : c ≤ 4000) (hk : L0[k]? = some S) (hL0 : SM N a L0 m0) (hB : ∀ L : List (List Int), L.Nodup → (∀ S ∈ L, Rch N a S) → L.length ≤ B) (hB' : B ≤ 100000000) (hf : 200000000 ≤ fu) (hout : out.length ≤ 100000000)
    (hn : ∀ L m more st, SM N a L m → L = L0 ++ more → RowOk N b L S st → Ok (nx (L, out ++ [st], m, k + 1)) P) :
    Ok (loopK fu (fun p nx' => au_net_determine_b10 fu N b (setsD N) out k nx p.1 p.2.1 p.2.2.1 p.2.2.2 nx') (L0, ([] : List (BSet × Int)), m0, 0)) P := by
  have hS := hL0.rc S (List.mem_of_getElem? hk)
  have hSl := hS.len
  have hlen := hN.len
  have hpl : (partsD (setsD N)).length ≤ 65536 := parts_len _
  have hget : ∀ more, (L0 ++ more)[k]? = some S := fun more => by
    have := (List.getElem?_eq_some_iff.1 hk).1
    rw [List.getElem?_append_left this]; exact hk
  refine Ok.range3 (fun j L ms m => SM N a L m ∧ (∃ more, L = L0 ++ more) ∧ ms = mvsD N L S ((partsD (setsD N)).take j) ∧ MemL N L S ((partsD (setsD N)).take j)) (partsD (setsD N)).length ⟨hL0, ⟨[], by simp⟩, rfl, fun p hp => by simp at hp⟩ (by omega) (fun j L ms m nx2 hj hJ hn2 => ?_) (fun L ms m nx2 hJ => ?_)
  · obtain ⟨hL, ⟨more, hm⟩, hms, hM⟩ := hJ
    unfold au_net_determine_b10
    dsimp only
    have hmsl : ms.length ≤ 65536 := by
      rw [hms]; have := List.length_filterMap_le (mvsF N L S) ((partsD (setsD N)).take j); rw [List.length_take] at this; unfold mvsD; omega
    have htk : (partsD (setsD N)).take (j + 1) = (partsD (setsD N)).take j ++ [(partsD (setsD N))[j]] := (List.take_append_getElem hj).symm
    rw [htk] at hn2
    refine Ok.iT (by omega) (Ok.idxN hj (Ok.idx? (by omega) (by rw [Int.toNat_natCast, hm]; exact hget more) ?_))
    generalize (partsD (setsD N))[j] = p at hn2
    have hsplit : ∀ L', mvsD N L' S ((partsD (setsD N)).take j ++ [p]) = mvsD N L' S ((partsD (setsD N)).take j) ++ [p].filterMap (mvsF N L' S) := fun L' => by unfold mvsD; rw [List.filterMap_append]
    refine b11_ok hN hc hS hL hB hB' (by omega) hf (fun h => hn2 _ _ _ ⟨hL, ⟨more, hm⟩, ?_, fun q hq h1 => ?_⟩) fun h L' m' more' hL' hm' hin => hn2 _ _ _ ⟨hL', ⟨more ++ more', by rw [hm', hm, List.append_assoc]⟩, ?_, fun q hq h1 => ?_⟩
    · rw [hsplit, ← hms]
      have : mvsF N L S p = none := by unfold mvsF; rw [if_pos h]
      simp [this]
    · rcases List.mem_append.1 hq with hq | hq
      · exact hM q hq h1
      · simp at hq; subst hq; exact absurd h h1
    · rw [hsplit, hm', mvsD_ext hM, ← hms, ← hm']
      have : mvsF N L' S p = some (p, ((L'.idxOf (cloD N (mv N S (lst p))) : Nat) : Int)) := by unfold mvsF; rw [if_neg h]
      simp [this]
    · rcases List.mem_append.1 hq with hq | hq
      · rw [hm']; exact List.mem_append.2 (.inl (hM q hq h1))
      · simp at hq; subst hq; exact hin
  · obtain ⟨hL, ⟨more, hm⟩, hms, hM⟩ := hJ
    rw [List.take_of_length_le (Nat.le_refl _)] at hms hM
    unfold au_net_determine_b10
    dsimp only
    have hmsl : ms.length ≤ 65536 := by
      rw [hms]; have := List.length_filterMap_le (mvsF N L S) (partsD (setsD N)); unfold mvsD; omega
    refine Ok.iF (by omega) (Ok.idx? (by omega) (by rw [Int.toNat_natCast, hm]; exact hget more) (Ok.bnd (contains_ok (by omega) hf) fun r hr => ?_))
    subst hr
    refine Ok.range (fun i s => s = edD (ms.take i)) ms.length rfl (by omega) (fun i s nx3 hi hJ hn3 => ?_) (fun s nx3 hJ => ?_)
    · subst hJ
      unfold au_net_determine_b14
      dsimp only
      have hl := edD_len (ms.take i)
      have htl : (ms.take i).length ≤ 65536 := by rw [List.length_take]; omega
      have := Nat.mul_le_mul htl (Nat.le_refl 256)
      refine Ok.iT (by omega) (Ok.idxN hi (b15_ok (by omega) hf (hn3 _ ?_)))
      rw [show ms.take (i + 1) = ms.take i ++ [ms[i]] from (List.take_append_getElem hi).symm]
      unfold edD
      rw [List.flatMap_append]; simp
    · subst hJ
      unfold au_net_determine_b14
      dsimp only
      rw [List.take_of_length_le (Nat.le_refl _)]
      have hl := edD_len ms
      have := Nat.mul_le_mul hmsl (Nat.le_refl 256)
      refine Ok.iF (by omega) (Ok.chk (cmpOk_of (by rw [hms]; exact mvs_apart) fun e he => ?_) (Ok.chk (by unfold capN; omega) (Ok.chk (by simp only [List.length_cons, List.length_nil]; unfold capN; omega) (hn L m more _ hL hm ?_))))
      · rw [hms] at he; exact (edD_rg hM e he).2.1
      · rw [hms]; exact row_ok hM
structure DetOk (N : NT) (a b : Int) (L : List (List Int)) (T : Tb) : Prop where
  len : T.length = L.length
  hd : L[0]? = some (cloD N [a])
  nd : L.Nodup
  rc : ∀ S ∈ L, Rch N a S
  row : ∀ (k : Nat) S st, L[k]? = some S → T[k]? = some st → RowOk N b L S st
theorem determine_ok {N : NT} {c fu B : Nat} {a b : Int} (hN : NB N c) (hc : c ≤ 4000) (ha : 0 ≤ a) (ha' : a < N.1.length) (hB : ∀ L : List (List Int), L.Nodup → (∀ S ∈ L, Rch N a S) → L.length ≤ B) (hB' : B ≤ 100000000) (hf : 200000000 ≤ fu) :
    Ok (au_net_determine fu N a b) (fun T => ∃ L, DetOk N a b L T) := by
  have hlen := hN.len
  unfold au_net_determine
  refine Ok.bnd (sets_ok hN hc hf) fun r hr => ?_
  obtain ⟨rfl, hr⟩ := hr
  refine Ok.chk (by omega) (Ok.bnd (closure_ok hN hc (fun x hx => by simp at hx; subst hx; exact ⟨ha, ha'⟩) (by simp) hf) fun r hr => ?_)
  subst hr
  have hR : Rch N a (cloD N [a]) := .start
  have hcl := hR.len
  refine Ok.idx? (a := cloD N [a]) (by decide) rfl (Ok.bnd (key_ok (fun x hx => by have := hR.rg hx; omega) (by omega) hf) fun r hr => ?_)
  obtain ⟨rfl, hk⟩ := hr
  refine Ok.chk (by unfold capN; omega) (Ok.chk (by simp [capN]) ?_)
  have hSM : SM N a [cloD N [a]] (fmPut ([] : List (Str × Int)) (keyT (cloD N [a])) 0) := SM.put (L := []) (m := []) ⟨.nil, by simp, MapSays.nil⟩ hR (by simp)
  refine Ok.loop (fun (x : List (List Int) × Tb × List (Str × Int) × Nat) => SM N a x.1 x.2.2.1 ∧ x.2.1.length = x.2.2.2 ∧ x.2.2.2 ≤ x.1.length ∧ x.1[0]? = some (cloD N [a]) ∧ ∀ (k : Nat) S st, x.1[k]? = some S → x.2.1[k]? = some st → RowOk N b x.1 S st) (fun x => B - x.2.2.2)
    ⟨hSM, rfl, by simp, rfl, fun k S st _ h => by simp at h⟩ (by dsimp only; omega) fun x nx hI _ hn => ?_
  obtain ⟨L, out, m, k⟩ := x
  obtain ⟨hL, h1, h2, h3, h4⟩ := hI
  dsimp only at hL h1 h2 h3 h4 hn
  unfold au_net_determine_b7
  dsimp only
  have hLB := hB L hL.nd hL.rc
  rcases Nat.lt_or_ge k L.length with hk' | hk'
  · have hkS : L[k]? = some L[k] := List.getElem?_eq_getElem hk'
    refine Ok.iT (by omega) (b10_ok hN hc hkS hL hB hB' hf (by omega) fun L' m' more st g1 g2 g3 => hn (L', out ++ [st], m', k + 1) ⟨g1, by dsimp only; rw [List.length_append, h1]; rfl, ?_, ?_, fun i S st' e1 e2 => ?_⟩ ?_)
    · dsimp only; rw [g2, List.length_append]; omega
    · dsimp only; rw [g2, List.getElem?_append_left (by omega)]; exact h3
    · dsimp only at e1 e2 ⊢
      rcases Nat.lt_trichotomy i k with h | h | h
      · rw [List.getElem?_append_left (by omega)] at e2
        rw [g2, List.getElem?_append_left (by omega)] at e1
        rw [g2]; exact (h4 i S st' e1 e2).ext
      · subst h
        rw [List.getElem?_append_right (by omega), h1, Nat.sub_self] at e2
        rw [g2, List.getElem?_append_left (by omega), hkS] at e1
        cases e1; simp at e2; subst e2; exact g3
      · rw [List.getElem?_eq_none (by rw [List.length_append]; simp; omega)] at e2; cases e2
    · dsimp only; omega
  · exact Ok.iF (by omega) (Ok.some ⟨L, by omega, h3, hL.nd, hL.rc, h4⟩)
/- the language -/
theorem cl_nil {N : NT} {s u : Int} {w : List UInt8} (h : Cl (trN N) s w u) : w = [] → Cl (trF N.1) s [] u := by
  induction h with
  | refl s => exact fun _ => .refl s
  | @step s t u v w h1 _ ih =>
    intro e
    obtain ⟨rfl, rfl⟩ := List.append_eq_nil_iff.1 e
    rcases h1 with h1 | ⟨c, h1, _⟩
    · exact (Cl.one h1).trans (ih rfl)
    · cases h1
theorem cl_F {N : NT} {s u : Int} {w : List UInt8} (h : Cl (trF N.1) s w u) : Cl (trN N) s w u := h.mono fun _ _ _ h => Cl.one (.inl h)
theorem cl_cons {N : NT} {s u : Int} {c : UInt8} {w : List UInt8} (h : Cl (trN N) s (c :: w) u) : ∃ t v, Cl (trF N.1) s [] t ∧ trO N.2.1 t [c] v ∧ Cl (trN N) v w u := by
  generalize hx : c :: w = x at h
  induction h with
  | refl s => cases hx
  | @step s t u v w' h1 h2 ih =>
    rcases h1 with ⟨rfl, h1⟩ | ⟨c', rfl, h1⟩
    · obtain ⟨t', v', i1, i2, i3⟩ := ih hx
      exact ⟨t', v', (Cl.one (T := trF N.1) ⟨rfl, h1⟩).trans i1, i2, i3⟩
    · cases hx
      exact ⟨s, t, .refl s, ⟨c, rfl, h1⟩, h2⟩
theorem cloD_closed {N : NT} {c : Nat} (hN : NB N c) {l : List Int} {s u : Int} (hs : s ∈ cloD N l) (h : Cl (trF N.1) s [] u) : u ∈ cloD N l := by
  obtain ⟨h0, h1, x, hx, hc⟩ := mem_cloD.1 hs
  rw [show ((s.toNat : Nat) : Int) = s by omega] at hc
  have hu := closed_cl (f := fun u => 0 ≤ u ∧ u < N.1.length) (fun s u _ ⟨row, _, h3, h4⟩ => hN.t1 row (List.mem_of_getElem? h3) u h4) h ⟨h0, h1⟩
  refine mem_cloD.2 ⟨hu.1, hu.2, x, hx, ?_⟩
  rw [show ((u.toNat : Nat) : Int) = u by omega]
  exact hc.trans h
theorem cloD_self {N : NT} {l : List Int} {s : Int} (hs : s ∈ l) (h0 : 0 ≤ s) (h1 : s < N.1.length) : s ∈ cloD N l := by
  refine mem_cloD.2 ⟨h0, h1, s, hs, ?_⟩
  rw [show ((s.toNat : Nat) : Int) = s by omega]
  exact .refl s
theorem mem_mv {N : NT} {S : List Int} {c : UInt8} {v : Int} (hS : ∀ s ∈ S, 0 ≤ s) : v ∈ mv N S c.toNat ↔ ∃ s ∈ S, trO N.2.1 s [c] v := by
  unfold mv mvE
  rw [List.mem_flatMap]
  constructor
  · rintro ⟨s, hs, h⟩
    obtain ⟨e, he, rfl⟩ := List.mem_map.1 h
    obtain ⟨he, hc⟩ := List.mem_filter.1 he
    rw [List.getD_eq_getElem?_getD] at he
    cases hk : N.2.1[s.toNat]? with
    | none => rw [hk] at he; cases he
    | some l => rw [hk] at he; exact ⟨s, hs, c, rfl, hS s hs, l, hk, e, he, hc, rfl⟩
  · rintro ⟨s, hs, c', h1, h0, l, hk, e, he, hc, rfl⟩
    cases h1
    refine ⟨s, hs, List.mem_map.2 ⟨e, List.mem_filter.2 ⟨?_, hc⟩, rfl⟩⟩
    rw [List.getD_eq_getElem?_getD, hk]; exact he
theorem det_lang {N : NT} {c : Nat} {a b : Int} {L : List (List Int)} {T : Tb} (hN : NB N c) (h : DetOk N a b L T) : ∀ (w : List UInt8) (k : Nat) S, L[k]? = some S → (lgT T (k : Int) w = true ↔ ∃ s ∈ S, Cl (trN N) s w b) := by
  intro w
  induction w with
  | nil =>
    intro k S hk
    have hR := h.rc S (List.mem_of_getElem? hk)
    have hkl := (List.getElem?_eq_some_iff.1 hk).1
    have hT : T[k]? = some (T[k]'(by have := h.len; omega)) := List.getElem?_eq_getElem _
    have hr := h.row k S _ hk hT
    have hrow : rowT T (k : Int) = T[k]'(by have := h.len; omega) := by unfold rowT; rw [Int.toNat_natCast, List.getD_eq_getElem?_getD, hT]; rfl
    show fin T (k : Int) = true ↔ _
    unfold fin
    rw [hrow, hr.acc, decide_eq_true (by omega : (0 : Int) ≤ k)]
    simp only [Bool.true_and, decide_eq_true_eq]
    refine ⟨fun hb => ⟨b, hb, .refl b⟩, fun ⟨s, hs, hc⟩ => ?_⟩
    obtain ⟨l, rfl⟩ := hR.is
    exact cloD_closed hN hs (cl_nil hc rfl)
  | cons x w ih =>
    intro k S hk
    have hR := h.rc S (List.mem_of_getElem? hk)
    have hkl := (List.getElem?_eq_some_iff.1 hk).1
    have hT : T[k]? = some (T[k]'(by have := h.len; omega)) := List.getElem?_eq_getElem _
    have hr := h.row k S _ hk hT
    have hrow : rowT T (k : Int) = T[k]'(by have := h.len; omega) := by unfold rowT; rw [Int.toNat_natCast, List.getD_eq_getElem?_getD, hT]; rfl
    show lgT T (stT T (k : Int) x.toNat) w = true ↔ _
    have hst : stT T (k : Int) x.toNat = stepE (T[k]'(by have := h.len; omega)).2 x.toNat := by unfold stT; rw [if_neg (by omega), hrow]
    rw [hst, hr.stp _ x.toNat_lt]
    have hnn : ∀ s ∈ S, 0 ≤ s := fun s hs => (hR.rg hs).1
    have hto : ∀ {s : Int}, s ∈ S → Cl (trN N) s (x :: w) b → ∃ v ∈ mv N S x.toNat, Cl (trN N) v w b := fun {s} hs hc => by
      obtain ⟨t, v, h1, h2, h3⟩ := cl_cons hc
      obtain ⟨l, rfl⟩ := hR.is
      exact ⟨v, (mem_mv hnn).2 ⟨t, cloD_closed hN hs h1, h2⟩, h3⟩
    split
    · rename_i hm
      rw [lgT_neg (by decide)]
      refine ⟨fun h => (by cases h), fun ⟨s, hs, hc⟩ => ?_⟩
      obtain ⟨v, hv, _⟩ := hto hs hc
      rw [hm] at hv; cases hv
    · rename_i hm
      have hin := hr.cl _ x.toNat_lt hm
      have hix : L[L.idxOf (cloD N (mv N S x.toNat))]? = some (cloD N (mv N S x.toNat)) := by
        rw [List.getElem?_eq_getElem (List.idxOf_lt_length_of_mem hin), List.getElem_idxOf]
      rw [ih _ _ hix]
      constructor
      · rintro ⟨s', hs', hc⟩
        obtain ⟨h0, _, v, hv, hcl⟩ := mem_cloD.1 hs'
        rw [show ((s'.toNat : Nat) : Int) = s' by omega] at hcl
        obtain ⟨s, hs, ho⟩ := (mem_mv hnn).1 hv
        exact ⟨s, hs, Cl.step (v := [x]) (.inr ho) ((cl_F hcl).trans hc)⟩
      · rintro ⟨s, hs, hc⟩
        obtain ⟨v, hv, hc⟩ := hto hs hc
        have := mv_rg hN hv
        exact ⟨v, cloD_self hv this.1 this.2, hc⟩
theorem det_lg {N : NT} {c : Nat} {a b : Int} {L : List (List Int)} {T : Tb} (hN : NB N c) (ha : 0 ≤ a) (ha' : a < N.1.length) (h : DetOk N a b L T) (w : List UInt8) : lgT T 0 w = true ↔ Cl (trN N) a w b := by
  have := det_lang hN h w 0 _ h.hd
  rw [show ((0 : Nat) : Int) = 0 from rfl] at this
  rw [this]
  constructor
  · rintro ⟨s, hs, hc⟩
    obtain ⟨h0, _, v, hv, hcl⟩ := mem_cloD.1 hs
    rw [show ((s.toNat : Nat) : Int) = s by omega] at hcl
    simp at hv; subst hv
    exact (cl_F hcl).trans hc
  · intro hc
    exact ⟨a, cloD_self (by simp) ha ha', hc⟩
theorem det_wf {N : NT} {a b : Int} {L : List (List Int)} {T : Tb} (h : DetOk N a b L T) : WfT T := fun s hs => by
  obtain ⟨k, hk, rfl⟩ := List.getElem_of_mem hs
  have hl := h.len
  rw [hl]
  exact (h.row k L[k] T[k] (List.getElem?_eq_getElem (by omega)) (List.getElem?_eq_getElem hk)).ed
end Go.GL
