/- The complete automaton of a table, its classes, its canonical automaton. -/
import Derived.Test.YtjmbmodmepdmjabDoorLawCut
namespace Go.GL
open Go.GK
def sk (n : Nat) (t : Int) : Int := if t < 0 then n else t
def nxF (l : Tb) (cs : List Int) (q i : Nat) : Int := sk l.length (stT l (q : Nat) (cs.getD i 0).toNat)
def acF (l : Tb) (q : Nat) : Bool := (rowT l (q : Nat)).1
def nxR (l : Tb) (cs : List Int) (q : Nat) : List Int := tab cs.length (nxF l cs q)
def cmpD (l : Tb) (cs cl : List Int) : List Int × List (List Int) × List Bool × List Int := (cs, tab (l.length + 1) (nxR l cs), tab (l.length + 1) (acF l), cl)
theorem getD_at {cs : List Int} {i : Nat} (h : i < cs.length) : cs.getD i 0 = cs[i] := by rw [List.getD_eq_getElem?_getD, List.getElem?_eq_getElem h]; rfl
theorem lgT_sk (l : Tb) (t : Int) (h : t < l.length) : lgT l (sk l.length t) = lgT l t := by
  unfold sk
  split
  · rename_i h
    funext w
    rw [lgT_neg h]
    have hr : rowT l (l.length : Nat) = (false, []) := by unfold rowT; simp
    cases w with
    | nil => simp [lgT, runT, fin, hr]
    | cons c w =>
      have : stT l (l.length : Nat) c.toNat = -1 := by unfold stT; rw [if_neg (by omega), hr]; rfl
      show lgT l (stT l (l.length : Nat) c.toNat) w = false
      rw [this]; exact lgT_neg (by decide) w
  · rfl
theorem sk_rg {l : Tb} (hw : WfT l) (q : Int) (b : Nat) : 0 ≤ sk l.length (stT l q b) ∧ sk l.length (stT l q b) < (l.length + 1 : Nat) := by
  have := hw.st q b
  unfold sk; split <;> omega
theorem last_find {c : Nat} : ∀ {es : List EdI} {m n : Nat} (_ : EdOk es m n) (a : Int), es.foldl (fun a e => if inE c e then e.2.2 else a) a = match es.find? (inE c) with | some e => e.2.2 | none => a
  | [], _, _, _, _ => rfl
  | e :: es, m, n, h, a => by
    have h' : EdOk es m n := ⟨fun x hx => h.rg x (by simp [hx]), (List.pairwise_cons.1 h.so).2⟩
    rw [List.foldl_cons, last_find h', List.find?_cons]
    by_cases he : inE c e = true
    · rw [he, if_pos rfl]
      have : es.find? (inE c) = none := List.find?_eq_none.2 fun x hx => by
        have h1 := (List.pairwise_cons.1 h.so).1 x hx
        simp [inE] at he ⊢; omega
      rw [this]
    · rw [if_neg he]; simp [he]
theorem step_last {c : Nat} {es : List EdI} {m n : Nat} (h : EdOk es m n) : es.foldl (fun a e => if inE c e then e.2.2 else a) (n : Int) = sk n (stepE es c) := by
  rw [last_find h]
  unfold stepE
  cases he : es.find? (inE c) with
  | some e =>
    have := h.rg e (List.mem_of_find?_eq_some he)
    simp only [sk]; rw [if_neg (by omega)]
  | none => rfl
theorem complete_ok {l : Tb} {n fu : Nat} (hw : WfT l) (hs : ShT l n) (hn : n < 4294967296) (hf : n < fu) (hf' : 256 < fu) : Ok (au_complete fu l) (fun x => ∃ cs, CutOk cs ∧ CutFor cs l ∧ x = cmpD l cs []) := by
  unfold au_complete
  refine Ok.bnd (cut_ok hw hs hf hf') fun cs ⟨hc1, hc2⟩ => ?_
  have hcl := hc1.le
  have hln := hs.1
  refine Ok.range2 (fun k y x => x = tab k (acF l) ∧ y = tab k (nxR l cs)) l.length ⟨rfl, rfl⟩ (by omega) (fun k x y nx hk hJ hnx => ?_) (fun x y nx hJ => ?_)
  · obtain ⟨rfl, rfl⟩ := hJ
    unfold au_complete_b1; dsimp only
    have hm : l[k] ∈ l := List.getElem_mem hk
    have hsl := hs.2 _ hm
    have hE := hw _ hm
    have hrow : rowT l (k : Nat) = l[k] := rowT_get (by omega) (by omega)
    refine Ok.iT (by omega) (Ok.idxN hk (Ok.chk (by unfold capN; omega) ?_))
    rw [tab_rep]
    refine Ok.range (fun i x => x = tab cs.length (fun j => if j < i then nxF l cs k j else 0)) cs.length (by simp) (by omega) (fun i x nx' hi hE' hn' => ?_) (fun x nx' hE' => ?_)
    · subst hE'
      unfold au_complete_b2; dsimp only
      refine Ok.iT (by omega) (Ok.idxN hi (Ok.bndE (idx_tab hi) ?_))
      rw [tab_set]
      have hci := hc1.rg _ (List.getElem_mem hi)
      refine Ok.range (fun j x => x = tab cs.length (fun q => if q = i then (l[k].2.take j).foldl (fun a e => if inE cs[i].toNat e then e.2.2 else a) (l.length : Int) else if q < i then nxF l cs k q else 0)) l[k].2.length (by simp) (by omega) (fun j x nx2 hj hx hn2 => ?_) (fun x nx2 hx => ?_)
      · subst hx
        unfold au_complete_b3; dsimp only
        refine Ok.iT (by omega) (Ok.idxN hj ?_)
        have hs : (l[k].2.take (j + 1)).foldl (fun a e => if inE cs[i].toNat e then e.2.2 else a) (l.length : Int) = if inE cs[i].toNat l[k].2[j] then l[k].2[j].2.2 else (l[k].2.take j).foldl (fun a e => if inE cs[i].toNat e then e.2.2 else a) (l.length : Int) := by
          rw [← List.take_append_getElem hj, List.foldl_append]; rfl
        have hno : inE cs[i].toNat l[k].2[j] = false → Ok (nx2 (tab cs.length (fun q => if q = i then (l[k].2.take j).foldl (fun a e => if inE cs[i].toNat e then e.2.2 else a) (l.length : Int) else if q < i then nxF l cs k q else 0), j + 1)) (fun x => ∃ cs, CutOk cs ∧ CutFor cs l ∧ x = cmpD l cs []) := fun h => hn2 _ (by rw [hs, h]; rfl)
        refine Ok.ite (fun h1 => Ok.ite (fun h2 => Ok.bndE (idx_tab hi) ?_) fun h2 => ?_) fun h1 => ?_
        · rw [tab_set]
          refine hn2 _ (tab_congr fun q hq => ?_)
          rw [hs, show inE cs[i].toNat l[k].2[j] = true by simp [inE]; omega]
          by_cases h : q = i <;> simp [h]
        · exact hno (by simp only [inE, Bool.and_eq_false_iff, decide_eq_false_iff_not]; omega)
        · exact hno (by simp only [inE, Bool.and_eq_false_iff, decide_eq_false_iff_not]; omega)
      · subst hx
        unfold au_complete_b3; dsimp only
        refine Ok.iF (by omega) (hn' _ (tab_congr fun q hq => ?_))
        rw [take_full, step_last hE]
        by_cases h : q = i
        · subst h
          simp only [if_true, Nat.lt_succ_self]
          unfold nxF stT; rw [if_neg (by omega), hrow, getD_at hi]
        · rw [if_neg h]
          by_cases h2 : q < i
          · rw [if_pos h2, if_pos (by omega)]
          · rw [if_neg h2, if_neg (by omega)]
    · subst hE'
      unfold au_complete_b2; dsimp only
      refine Ok.iF (by omega) (Ok.chk (by rw [tab_len]; unfold capN; simp; omega) (Ok.chk (by rw [tab_len]; unfold capN; simp; omega) (hnx _ _ ⟨?_, ?_⟩)))
      · rw [tab_succ]; unfold acF; rw [hrow]
      · rw [tab_succ]; congr 1
        unfold nxR
        rw [tab_congr (g := nxF l cs k) fun j hj => by rw [if_pos hj]]
  · obtain ⟨rfl, rfl⟩ := hJ
    unfold au_complete_b1; dsimp only
    refine Ok.iF (by omega) (Ok.chk (by unfold capN; omega) ?_)
    have hr : rowT l (l.length : Nat) = (false, []) := by unfold rowT; simp
    refine Ok.range (fun i x => x = tab cs.length (fun j => if j < i then (l.length : Int) else 0)) cs.length (by rw [tab_rep]; rfl) (by omega) (fun i x nx' hi hx hn' => ?_) (fun x nx' hx => ?_)
    · subst hx
      unfold au_complete_b4; dsimp only
      refine Ok.iT (by simp; omega) (Ok.bndE (idx_tab hi) (hn' _ ?_))
      rw [tab_set]
      refine tab_congr fun q hq => ?_
      by_cases h : q = i
      · subst h; simp
      · rw [if_neg h]
        by_cases h2 : q < i
        · rw [if_pos h2, if_pos (by omega)]
        · rw [if_neg h2, if_neg (by omega)]
    · subst hx
      unfold au_complete_b4; dsimp only
      refine Ok.iF (by simp) (Ok.chk (by rw [tab_len]; unfold capN; simp; omega) (Ok.chk (by rw [tab_len]; unfold capN; simp; omega) (Ok.some ⟨cs, hc1, hc2, ?_⟩)))
      unfold cmpD
      rw [tab_succ, tab_succ]
      have e1 : acF l l.length = false := by unfold acF; rw [hr]
      have e2 : nxR l cs l.length = tab cs.length (fun j => if j < cs.length then (l.length : Int) else 0) := by
        unfold nxR
        refine tab_congr fun q hq => ?_
        rw [if_pos hq]
        unfold nxF stT; rw [if_neg (by omega), hr]; rfl
      rw [e1, e2]
/- the classes -/
def clN (l : Tb) : Nat := l.length + 1
theorem nx_rg {l : Tb} (hw : WfT l) (cs : List Int) (q i : Nat) : 0 ≤ nxF l cs q i ∧ nxF l cs q i < clN l := sk_rg hw _ _
theorem lg_nx {l : Tb} (hw : WfT l) {cs : List Int} (hc : CutOk cs) (q : Nat) {i : Nat} (hi : i < cs.length) : lgT l (nxF l cs q i) = der (lgT l (q : Nat)) cs[i].toNat := by
  have hr := hc.rg _ (List.getElem_mem hi)
  rw [der_lgT _ _ _ (by omega)]
  unfold nxF
  rw [lgT_sk _ _ (by have := hw.st (q : Nat) (cs.getD i 0).toNat; omega), getD_at hi]
theorem lg_const {l : Tb} (hw : WfT l) {cs : List Int} (hc : CutOk cs) (hf : CutFor cs l) (q : Int) {i b : Nat} (hi : i < cs.length) (hb : b < 256) (h1 : cs[i] ≤ b) (h2 : (b : Int) ≤ hiC cs i) : der (lgT l q) b = der (lgT l q) cs[i].toNat := by
  have hr := hc.rg _ (List.getElem_mem hi)
  rw [der_lgT _ _ _ hb, der_lgT _ _ _ (by omega), hf.const hc hw hi h1 h2]
theorem lg_nil (l : Tb) (q : Nat) : lgT l (q : Nat) [] = acF l q := by simp [lgT, runT, fin, acF]
theorem lg_cong {l : Tb} (hw : WfT l) {cs : List Int} (hc : CutOk cs) (hf : CutFor cs l) (c : Nat → Int)
    (h1 : ∀ s t, s < clN l → t < clN l → c s = c t → acF l s = acF l t)
    (h2 : ∀ s t, s < clN l → t < clN l → c s = c t → ∀ i, i < cs.length → c (nxF l cs s i).toNat = c (nxF l cs t i).toNat) :
    ∀ (w : List UInt8) (s t : Nat), s < clN l → t < clN l → c s = c t → lgT l (s : Nat) w = lgT l (t : Nat) w
  | [], s, t, hs, ht, h => by rw [lg_nil, lg_nil, h1 s t hs ht h]
  | b :: w, s, t, hs, ht, h => by
    obtain ⟨i, hi, g1, g2⟩ := hc.find b.toNat b.toNat_lt
    have e : ∀ q : Nat, lgT l (q : Nat) (b :: w) = lgT l (nxF l cs q i) w := fun q => by
      rw [lg_nx hw hc q hi, ← lg_const hw hc hf q hi b.toNat_lt g1 g2]; simp [der]
    have r1 := nx_rg hw cs s i
    have r2 := nx_rg hw cs t i
    have := lg_cong hw hc hf c h1 h2 w (nxF l cs s i).toNat (nxF l cs t i).toNat (by omega) (by omega) (h2 s t hs ht h i hi)
    rw [e, e]
    rwa [Int.toNat_of_nonneg r1.1, Int.toNat_of_nonneg r2.1] at this
/- the text of a state -/
def sigF (l : Tb) (cs : List Int) (c : Nat → Int) (s : Nat) : Str := Lib.itoa (c s) ++ tails (tab cs.length fun i => c (nxF l cs s i).toNat)
theorem tails_succ (n : Nat) (f : Nat → Int) : tails (tab (n + 1) f) = tails (tab n f) ++ (([44] : Str) ++ Lib.itoa (f n)) := by
  rw [tab_succ]; simp [tails]
theorem tails_len {n : Nat} {f : Nat → Int} (h : ∀ i, i < n → (Lib.itoa (f i)).length ≤ 10) : (tails (tab n f)).length ≤ 11 * n := by
  induction n with
  | zero => simp [tab, tails]
  | succ n ih =>
    rw [tails_succ, List.length_append, List.length_append]
    have := ih fun i hi => h i (by omega)
    have := h n (by omega)
    simp; omega
structure ClsB (l : Tb) (c : Nat → Int) : Prop where
  rg : ∀ s, s < clN l → 0 ≤ c s ∧ c s ≤ l.length
theorem itoa_lenI {n : Int} (h0 : 0 ≤ n) (h : n < 10000000000) : (Lib.itoa n).length ≤ 10 := by
  obtain ⟨u, rfl⟩ : ∃ u : Nat, n = u := ⟨n.toNat, by omega⟩
  exact itoa_len (by omega)
theorem signature_ok {l : Tb} {cs : List Int} {c : Nat → Int} {n fu s : Nat} (hw : WfT l) (hc : CutOk cs) (hb : ClsB l c) (hl : l.length ≤ n) (hn : n < 4294967296) (hf : 256 < fu) (hs : s < clN l) :
    Ok (au_table_signature fu (cmpD l cs (tab (clN l) c)) (s : Int)) (fun r => r = sigF l cs c s ∧ r.length ≤ 4096) := by
  unfold au_table_signature cmpD; dsimp only
  have hcl := hc.le
  have hlen : ∀ q, q < clN l → (Lib.itoa (c q)).length ≤ 10 := fun q hq => by
    have := hb.rg q hq
    exact itoa_lenI this.1 (by omega)
  have hcs := hb.rg s hs
  have h10 := hlen s hs
  refine Ok.bndE (idx_tab hs) (Ok.chk (by unfold F64; omega) (Ok.chk (by simp only [List.length_nil]; unfold capN; omega) (Ok.bndE (idx_tab hs) ?_)))
  refine Ok.range (fun i x => x = Lib.itoa (c s) ++ tails (tab i fun i => c (nxF l cs s i).toNat)) cs.length (by simp [tab, tails]) (by omega) (fun i x nx hi hx hnx => ?_) (fun x nx hx => ?_)
  · subst hx
    unfold au_table_signature_b1; dsimp only
    have hr := nx_rg hw cs s i
    have hq : (nxF l cs s i).toNat < clN l := by omega
    have h1 := hb.rg _ hq
    have h2 := hlen _ hq
    have h3 := tails_len (n := i) (f := fun i => c (nxF l cs s i).toNat) fun j hj => hlen _ (by have := nx_rg hw cs s j; omega)
    refine Ok.iT (by simp only [nxR, tab_len]; omega) (Ok.bndE (by unfold nxR; exact idx_tab hi) (Ok.bndE (a := c (nxF l cs s i).toNat) ?_ (Ok.chk (by unfold F64; omega) (Ok.chk (by simp only [List.length_cons, List.length_nil]; unfold capN; omega) (Ok.chk (by simp only [List.length_append, List.length_cons, List.length_nil]; unfold capN; omega) (hnx _ ?_))))))
    · rw [show nxF l cs s i = (((nxF l cs s i).toNat : Nat) : Int) by omega]; exact idx_tab (by omega)
    · rw [tails_succ, List.append_assoc]
  · subst hx
    unfold au_table_signature_b1; dsimp only
    refine Ok.iF (by simp only [nxR, tab_len]; omega) (Ok.some ⟨rfl, ?_⟩)
    have h3 := tails_len (n := cs.length) (f := fun i => c (nxF l cs s i).toNat) fun j hj => hlen _ (by have := nx_rg hw cs s j; omega)
    rw [List.length_append]; omega
theorem sigF_inj {l : Tb} {cs : List Int} {c : Nat → Int} (hw : WfT l) (hb : ClsB l c) {s t : Nat} (hs : s < clN l) (ht : t < clN l) :
    sigF l cs c s = sigF l cs c t ↔ c s = c t ∧ ∀ i, i < cs.length → c (nxF l cs s i).toNat = c (nxF l cs t i).toNat := by
  have hz : ∀ q, ∀ z ∈ (tab cs.length fun i => c (nxF l cs q i).toNat), 0 ≤ z := fun q z hz => by
    obtain ⟨i, _, rfl⟩ := mem_tab.1 hz
    exact (hb.rg _ (by have := nx_rg hw cs q i; omega)).1
  constructor
  · intro h
    obtain ⟨h1, h2⟩ := sig_inj (hz s) (hz t) (hb.rg s hs).1 (hb.rg t ht).1 h
    exact ⟨h1, tab_inj.1 h2⟩
  · rintro ⟨h1, h2⟩
    unfold sigF; rw [h1, tab_inj.2 h2]
/- what a map of texts says -/
def MapSays (m : List (Str × Int)) (u : List Str) : Prop := m.length = u.length ∧ ∀ x, fmGet m x = if x ∈ u then some ((u.idxOf x : Nat) : Int) else none
theorem MapSays.nil : MapSays [] [] := ⟨rfl, fun x => rfl⟩
theorem MapSays.put {m : List (Str × Int)} {u : List Str} (h : MapSays m u) {x : Str} (hx : x ∉ u) : MapSays (fmPut m x (u.length : Int)) (u ++ [x]) := by
  refine ⟨by rw [fmPut_len, h.2, if_neg hx, h.1]; simp, fun z => ?_⟩
  rw [fmGet_put, h.2]
  by_cases hz : z = x
  · subst hz
    rw [if_pos rfl, if_pos (by simp), List.idxOf_append, if_neg hx]; simp
  · rw [if_neg hz]
    by_cases hu : z ∈ u
    · rw [if_pos hu, if_pos (by simp [hu]), List.idxOf_append, if_pos hu]
    · rw [if_neg hu, if_neg (by simp [hu, hz])]
theorem MapSays.some {m : List (Str × Int)} {u : List Str} (h : MapSays m u) (x : Str) : (fmGet m x).isSome = decide (x ∈ u) := by
  rw [h.2]; by_cases hx : x ∈ u <;> simp [hx]
theorem MapSays.getD {m : List (Str × Int)} {u : List Str} (h : MapSays m u) {x : Str} (hx : x ∈ u) : (fmGet m x).getD 0 = ((u.idxOf x : Nat) : Int) := by
  rw [h.2, if_pos hx]; rfl
theorem idxOf_inj {α : Type} [BEq α] [LawfulBEq α] {u : List α} {x y : α} (hx : x ∈ u) (hy : y ∈ u) (h : u.idxOf x = u.idxOf y) : x = y := by
  have h1 := List.idxOf_lt_length_of_mem hx
  have h2 := List.idxOf_lt_length_of_mem hy
  have e1 := List.getElem_idxOf h1
  have e2 := List.getElem_idxOf h2
  rw [← e1, ← e2]; simp only [h]
/- classes that tell the languages -/
structure ClsOk (l : Tb) (c : Nat → Int) : Prop extends ClsB l c where
  iff : ∀ s t, s < clN l → t < clN l → (c s = c t ↔ lgT l (s : Nat) = lgT l (t : Nat))
structure RefInv (l : Tb) (k : Nat) (c : Nat → Int) : Prop extends ClsB l c where
  fwd : ∀ s t, s < clN l → t < clN l → lgT l (s : Nat) = lgT l (t : Nat) → c s = c t
  acc : ∀ s t, s < clN l → t < clN l → c s = c t → acF l s = acF l t
  cnt : k = 0 ∨ ∃ (key : Nat → Str) (u : List Str), Vals (clN l) key u ∧ u.length = k ∧ ∀ s t, s < clN l → t < clN l → c s = c t → key s = key t
theorem refine_ok {l : Tb} {cs : List Int} {n fu : Nat} (hw : WfT l) (h0 : 0 < l.length) (hc : CutOk cs) (hf : CutFor cs l) (hl : l.length ≤ n) (hn : n < 4294967296) (hfu : n + 2 < fu) (hfu' : 256 < fu) :
    Ok (au_table_refine fu (cmpD l cs [])) (fun r => ∃ c, ClsOk l c ∧ r = cmpD l cs (tab (clN l) c)) := by
  have hN : clN l = l.length + 1 := rfl
  unfold au_table_refine cmpD; dsimp only
  simp only [tab_len]
  refine Ok.chk (by unfold capN; omega) ?_
  rw [tab_rep]
  refine Ok.range (fun k x => x = tab (clN l) (fun s => if s < k then (if acF l s then 1 else 0) else 0)) (clN l) (by simp [clN]) (by omega) (fun k x nx hk hx hnx => ?_) (fun x nx hx => ?_)
  · subst hx
    unfold au_table_refine_b1; dsimp only
    refine Ok.iT (by rw [tab_len]; omega) (Ok.bndE (idx_tab hk) (Ok.bif (fun h => Ok.bndE (idx_tab hk) (hnx _ ?_)) fun h => hnx _ (tab_congr fun s hs => ?_)))
    · rw [tab_set]
      refine tab_congr fun s hs => ?_
      by_cases h1 : s = k
      · subst h1; simp [h]
      · rw [if_neg h1]
        by_cases h2 : s < k
        · simp [h2, show s < k + 1 by omega]
        · simp [h2, show ¬ s < k + 1 by omega]
    · by_cases h1 : s = k
      · subst h1; simp [h]
      · by_cases h2 : s < k
        · simp [h2, show s < k + 1 by omega]
        · simp [h2, show ¬ s < k + 1 by omega]
  · subst hx
    unfold au_table_refine_b1; dsimp only
    refine Ok.iF (by rw [tab_len]; omega) ?_
    refine Ok.loop (X := Nat × List Int) (fun x => x.1 ≤ clN l ∧ ∃ c, x.2 = tab (clN l) c ∧ RefInv l x.1 c) (fun x => clN l - x.1) ⟨by simp, _, rfl, ⟨⟨fun s hs => ?_⟩, fun s t hs ht h => ?_, fun s t hs ht h => ?_, .inl rfl⟩⟩ (by simp only; omega) fun x nx hI _ hnx => ?_
    · rw [if_pos hs]; cases acF l s <;> simp <;> omega
    · rw [if_pos hs, if_pos ht, ← lg_nil, ← lg_nil, h]
    · simp only [hs, ht, if_true] at h
      cases h1 : acF l s <;> cases h2 : acF l t <;> simp [h1, h2] at h ⊢
    obtain ⟨k, cl⟩ := x
    obtain ⟨hk, c, hcl, hI⟩ := hI
    simp only at hk hcl hI
    subst hcl
    unfold au_table_refine_b8; dsimp only
    refine Ok.chk (by rw [tab_len]; unfold capN; omega) ?_
    rw [tab_rep, tab_len]
    refine Ok.range3 (fun j x y m => x = tab (clN l) c ∧ ∃ u, Vals j (sigF l cs c) u ∧ MapSays m u ∧ y = tab (clN l) (fun s => if s < j then ((u.idxOf (sigF l cs c s) : Nat) : Int) else 0)) (clN l) ⟨rfl, [], .zero _, .nil, by simp [clN]⟩ (by omega) (fun j x y m nx' hj hJ hnx' => ?_) (fun x y m nx' hJ => ?_)
    · obtain ⟨rfl, u, hu, hm, rfl⟩ := hJ
      have hul := hu.le
      unfold au_table_refine_b11; dsimp only
      refine Ok.iT (by rw [tab_len]; omega) (Ok.bnd (signature_ok hw hc hI.toClsB hl hn hfu' hj) fun x hx => ?_)
      obtain ⟨rfl, hxl⟩ := hx
      have hxc : (sigF l cs c j).length ≤ capN := by unfold capN; omega
      refine Ok.chk hxc (Ok.bif (fun h => ?_) fun h => ?_)
      · rw [hm.some] at h
        have hnu : sigF l cs c j ∉ u := by simpa using h
        refine Ok.chk hxc (Ok.chk (by rw [hm.1]; unfold F64; omega) (Ok.chk (by rw [hm.1]; unfold capN; omega) ?_))
        unfold au_table_refine_j12
        refine Ok.bndE (idx_tab hj) (hnx' _ _ _ ⟨rfl, u ++ [sigF l cs c j], hu.new hnu, by rw [hm.1]; exact hm.put hnu, ?_⟩)
        rw [tab_set]
        refine tab_congr fun s hs => ?_
        by_cases h1 : s = j
        · subst h1; rw [if_pos rfl, if_pos (by omega), List.idxOf_append, if_neg hnu, hm.1]; simp
        · rw [if_neg h1]
          by_cases h2 : s < j
          · rw [if_pos h2, if_pos (by omega), List.idxOf_append, if_pos ((hu.mem _).2 ⟨s, h2, rfl⟩)]
          · rw [if_neg h2, if_neg (by omega)]
      · rw [hm.some] at h
        have hnu : sigF l cs c j ∈ u := by simpa using h
        unfold au_table_refine_j12
        refine Ok.bndE (idx_tab hj) (hnx' _ _ _ ⟨rfl, u, hu.old hnu, hm, ?_⟩)
        rw [tab_set, hm.getD hnu]
        refine tab_congr fun s hs => ?_
        by_cases h1 : s = j
        · subst h1; rw [if_pos rfl, if_pos (by omega)]
        · rw [if_neg h1]
          by_cases h2 : s < j
          · rw [if_pos h2, if_pos (by omega)]
          · rw [if_neg h2, if_neg (by omega)]
    · obtain ⟨rfl, u, hu, hm, rfl⟩ := hJ
      have hul := hu.le
      have hpos : 0 < u.length := List.length_pos_of_mem ((hu.mem _).2 ⟨0, by omega, rfl⟩)
      have hmem : ∀ s, s < clN l → sigF l cs c s ∈ u := fun s hs => (hu.mem _).2 ⟨s, hs, rfl⟩
      unfold au_table_refine_b11; dsimp only
      have hcl : tab (clN l) (fun s => if s < clN l then ((u.idxOf (sigF l cs c s) : Nat) : Int) else 0) = tab (clN l) (fun s => ((u.idxOf (sigF l cs c s) : Nat) : Int)) :=
        tab_congr fun s hs => by rw [if_pos hs]
      rw [hcl]
      have hB : ClsB l (fun s => ((u.idxOf (sigF l cs c s) : Nat) : Int)) := ⟨fun s hs => by
        have := List.idxOf_lt_length_of_mem (hmem s hs)
        omega⟩
      have hiff : ∀ s t, s < clN l → t < clN l → (((u.idxOf (sigF l cs c s) : Nat) : Int) = ((u.idxOf (sigF l cs c t) : Nat) : Int) ↔ sigF l cs c s = sigF l cs c t) := fun s t hs ht =>
        ⟨fun h => idxOf_inj (hmem s hs) (hmem t ht) (Int.ofNat_inj.1 h), fun h => by rw [h]⟩
      have hfwd : ∀ s t, s < clN l → t < clN l → lgT l (s : Nat) = lgT l (t : Nat) → sigF l cs c s = sigF l cs c t := fun s t hs ht h => by
        refine (sigF_inj hw hI.toClsB hs ht).2 ⟨hI.fwd s t hs ht h, fun i hi => ?_⟩
        have r1 := nx_rg hw cs s i
        have r2 := nx_rg hw cs t i
        refine hI.fwd _ _ (by omega) (by omega) ?_
        rw [Int.toNat_of_nonneg r1.1, Int.toNat_of_nonneg r2.1, lg_nx hw hc s hi, lg_nx hw hc t hi, h]
      have hacc : ∀ s t, s < clN l → t < clN l → sigF l cs c s = sigF l cs c t → acF l s = acF l t := fun s t hs ht h =>
        hI.acc s t hs ht ((sigF_inj hw hI.toClsB hs ht).1 h).1
      refine Ok.iF (by rw [tab_len]; omega) (Ok.ite (fun h => Ok.some ⟨fun s => ((u.idxOf (sigF l cs c s) : Nat) : Int), ⟨hB, fun s t hs ht => ?_⟩, rfl⟩) fun h => ?_)
      · rw [hiff s t hs ht]
        refine ⟨fun he => ?_, hfwd s t hs ht⟩
        rw [hm.1] at h
        have hk' : u.length = k := by omega
        obtain ⟨key, v, hv, hvl, hck⟩ := hI.cnt.resolve_left (by omega)
        have hfin := (hv.fine hu (fun s t hs ht h => hck s t hs ht ((sigF_inj hw hI.toClsB hs ht).1 h).1)).2 (by omega)
        funext w
        refine lg_cong hw hc hf c (fun s t hs ht h => hI.acc s t hs ht h) (fun s t hs ht h => ?_) w s t hs ht ((sigF_inj hw hI.toClsB hs ht).1 he).1
        exact ((sigF_inj hw hI.toClsB hs ht).1 (hfin s t hs ht (hck s t hs ht h))).2
      · have hlt : k < u.length := by
          rcases hI.cnt with h0 | ⟨key, v, hv, hvl, hck⟩
          · omega
          · have := (hv.fine hu (fun s t hs ht h => hck s t hs ht ((sigF_inj hw hI.toClsB hs ht).1 h).1)).1
            rw [hm.1] at h; omega
        refine hnx (m.length, _) ⟨by rw [hm.1]; exact hul, _, rfl, ⟨hB, fun s t hs ht h => (hiff s t hs ht).2 (hfwd s t hs ht h), fun s t hs ht h => hacc s t hs ht ((hiff s t hs ht).1 h), .inr ⟨sigF l cs c, u, hu, hm.1.symm, fun s t hs ht h => (hiff s t hs ht).1 h⟩⟩⟩ ?_
        show clN l - m.length < clN l - k
        rw [hm.1]; omega
end Go.GL
