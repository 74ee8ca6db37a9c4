/- The canonical automaton that Minimal computes is the canonical automaton of the language. -/
import Derived.Test.YtjmbmodmepdmjabDoorLawMin
namespace Go.GL
open Go.GK
def cnt : Nat → (Nat → Bool) → Nat
  | 0, _ => 0
  | n + 1, f => cnt n f + (if f n then 0 else 1)
theorem cnt_le {f g : Nat → Bool} : ∀ {n : Nat}, (∀ j, j < n → f j = true → g j = true) → cnt n g ≤ cnt n f
  | 0, _ => Nat.le_refl _
  | n + 1, h => by
    have := cnt_le (n := n) fun j hj => h j (by omega)
    have h1 := h n (by omega)
    simp only [cnt]
    cases hf : f n <;> cases hg : g n <;> simp [hf, hg] at h1 ⊢ <;> omega
theorem cnt_lt {f g : Nat → Bool} : ∀ {n : Nat}, (∀ j, j < n → f j = true → g j = true) → (∃ j, j < n ∧ f j = false ∧ g j = true) → cnt n g < cnt n f
  | 0, _, ⟨j, hj, _⟩ => by omega
  | n + 1, h, ⟨j, hj, h1, h2⟩ => by
    have h3 := h n (by omega)
    have h4 := cnt_le (n := n) (f := f) (g := g) fun j hj => h j (by omega)
    simp only [cnt]
    by_cases hjn : j = n
    · subst hjn; rw [h1, h2]; simp; omega
    · have := cnt_lt (n := n) (f := f) (g := g) (fun j hj => h j (by omega)) ⟨j, by omega, h1, h2⟩
      cases hf : f n <;> cases hg : g n <;> simp [hf, hg] at h3 ⊢ <;> omega
theorem cnt_max : ∀ (n : Nat) (f : Nat → Bool), cnt n f ≤ n
  | 0, _ => Nat.le_refl _
  | n + 1, f => by have := cnt_max n f; simp only [cnt]; split <;> omega
theorem live_of {L : Lg} {w : List UInt8} (h : L w = true) : live L = true := live_iff.2 ⟨w, h⟩
theorem live_der {L : Lg} {b : Nat} (h : live (der L b) = true) : live L = true := by
  obtain ⟨w, hw⟩ := live_iff.1 h; exact live_of (w := UInt8.ofNat b :: w) hw
def LvOk (l : Tb) (c : Nat → Int) (f : Nat → Bool) : Prop := ∀ s, s < clN l → f (c s).toNat = live (lgT l (s : Nat))
theorem ClsB.nat {l : Tb} {c : Nat → Int} (h : ClsB l c) {s : Nat} (hs : s < clN l) : (c s).toNat < clN l ∧ (((c s).toNat : Nat) : Int) = c s := by
  have := h.rg s hs
  unfold clN; omega
theorem live_ok {l : Tb} {cs : List Int} {c : Nat → Int} {n fu : Nat} (hw : WfT l) (hc : CutOk cs) (hf : CutFor cs l) (hk : ClsOk l c) (hl : l.length ≤ n) (hn : n < 4294967296) (hfu : n + 2 < fu) (hfu' : 256 < fu) :
    Ok (au_table_live fu (cmpD l cs (tab (clN l) c))) (fun r => ∃ f, r = tab (clN l) f ∧ LvOk l c f) := by
  have hN : clN l = l.length + 1 := rfl
  unfold au_table_live cmpD; dsimp only
  rw [tab_len]
  refine Ok.chk (by unfold capN; omega) ?_
  rw [tab_rep]
  let Sd : (Nat → Bool) → Prop := fun f => ∀ j, j < clN l → f j = true → ∀ s, s < clN l → (c s).toNat = j → live (lgT l (s : Nat)) = true
  refine Ok.loop (X := List Bool × Bool) (fun x => ∃ f, x.1 = tab (clN l) f ∧ Sd f ∧ (x.2 = false → LvOk l c f)) (fun x => (if x.2 then 1 else 0) + cnt (clN l) (fun j => x.1.getD j false)) ⟨_, rfl, fun j _ h => (by cases h), fun h => (by cases h)⟩ ?_ fun x nx hI _ hnx => ?_
  · have := cnt_max (clN l) (fun j => (tab (l.length + 1) fun _ => false).getD j false)
    simp only [if_true]; omega
  obtain ⟨o, again⟩ := x
  obtain ⟨f, ho, hS, hL⟩ := hI
  dsimp only at ho hL hnx
  subst ho
  unfold au_table_live_b1
  have hgD : ∀ g : Nat → Bool, ∀ j, j < clN l → (tab (clN l) g).getD j false = g j := fun g j hj => by
    rw [List.getD_eq_getElem?_getD, tab_get? hj]; rfl
  have hcg : ∀ g : Nat → Bool, cnt (clN l) (fun j => (tab (clN l) g).getD j false) = cnt (clN l) g := fun g =>
    Nat.le_antisymm (cnt_le fun j hj h => by rw [hgD g j hj]; exact h) (cnt_le fun j hj h => by rw [hgD g j hj] at h; exact h)
  refine Ok.bif (fun h => ?_) fun h => Ok.some ⟨f, rfl, hL h⟩
  subst h
  have hnat := fun s hs => hk.toClsB.nat (s := s) hs
  refine Ok.range2 (fun k o ag => ∃ g, o = tab (clN l) g ∧ Sd g ∧ (∀ j, j < clN l → f j = true → g j = true) ∧
      (ag = false → (∀ j, j < clN l → g j = f j) ∧ ∀ s, s < k → (acF l s = true ∨ ∃ i, i < cs.length ∧ f (c (nxF l cs s i).toNat).toNat = true) → f (c s).toNat = true) ∧
      (ag = true → ∃ j, j < clN l ∧ f j = false ∧ g j = true)) (clN l) ⟨f, rfl, hS, fun _ _ h => h, fun _ => ⟨fun _ _ => rfl, fun s hs => by omega⟩, fun h => (by cases h)⟩ (by omega) (fun k o ag nx' hkl hJ hnx' => ?_) (fun o ag nx' hJ => ?_)
  · obtain ⟨g, rfl, hSg, hfg, hg0, hg1⟩ := hJ
    unfold au_table_live_b2; dsimp only
    refine Ok.iT (by rw [tab_len]; omega) (Ok.bndE (idx_tab hkl) (Ok.bndE (idx_tab hkl) ?_))
    refine Ok.range (fun i b => b = true ↔ acF l k = true ∨ ∃ j, j < i ∧ g (c (nxF l cs k j).toNat).toNat = true) cs.length (by simp) (by have := hc.le; omega) (fun i b nx2 hi hb hn2 => ?_) (fun b nx2 hb => ?_)
    · have hr := nx_rg hw cs k i
      have hq : (nxF l cs k i).toNat < clN l := by omega
      have hcq := hnat _ hq
      unfold au_table_live_b3; dsimp only
      refine Ok.iT (by unfold nxR; rw [tab_len]; omega) (Ok.bndE (by unfold nxR; exact idx_tab hi) (Ok.bif (fun h => hn2 _ ?_) fun h => ?_))
      · subst h
        simp only [true_iff] at hb ⊢
        rcases hb with hb | ⟨j, hj, hb⟩
        · exact .inl hb
        · exact .inr ⟨j, by omega, hb⟩
      · refine Ok.bndE (a := c (nxF l cs k i).toNat) (by rw [show nxF l cs k i = (((nxF l cs k i).toNat : Nat) : Int) by omega]; exact idx_tab (by omega)) (Ok.bndE (a := g (c (nxF l cs k i).toNat).toNat) (by rw [← hcq.2]; exact idx_tab (by omega)) (hn2 _ ?_))
        subst h
        simp only [Bool.false_eq_true, false_iff] at hb
        constructor
        · exact fun h => .inr ⟨i, by omega, h⟩
        · rintro (h | ⟨j, hj, h⟩)
          · exact absurd (.inl h) hb
          · rcases Nat.lt_or_ge j i with h1 | h1
            · exact absurd (.inr ⟨j, h1, h⟩) hb
            · obtain rfl : j = i := by omega
              exact h
    · have hck := hnat k hkl
      have e1 : idx (tab (clN l) c) (k : Int) = some (c k) := idx_tab hkl
      have e2 : idx (tab (clN l) g) (c k) = some (g (c k).toNat) := by rw [← hck.2]; exact idx_tab hck.1
      unfold au_table_live_b3; dsimp only
      have hkeep : ∀ (hno : ¬ (b = true ∧ g (c k).toNat = false)), Ok (nx' (tab (clN l) g, ag, k + 1)) fun r => ∃ f, r = tab (clN l) f ∧ LvOk l c f := fun hno => by
        refine hnx' _ _ ⟨g, rfl, hSg, hfg, fun h => ⟨(hg0 h).1, fun s hs hor => ?_⟩, hg1⟩
        rcases Nat.lt_or_ge s k with h1 | h1
        · exact (hg0 h).2 s h1 hor
        · obtain rfl : s = k := by omega
          have hgf := (hg0 h).1
          rw [← hgf _ hck.1]
          have hbt : b = true := hb.2 (by
            rcases hor with hor | ⟨i, hi, hor⟩
            · exact .inl hor
            · refine .inr ⟨i, hi, ?_⟩
              have hr := nx_rg hw cs s i
              rw [hgf _ (hnat _ (by omega)).1]; exact hor)
          cases hgk : g (c s).toNat
          · exact absurd ⟨hbt, hgk⟩ hno
          · rfl
      refine Ok.iF (by unfold nxR; rw [tab_len]; omega) (Ok.bif (fun h => Ok.bndE e1 (Ok.bndE e2 (Ok.bif (fun h2 => Ok.bndE e1 (Ok.bndE e2 ?_)) fun h2 => hkeep ?_))) fun h => hkeep ?_)
      · have hgk : g (c k).toNat = false := by cases hh : g (c k).toNat <;> simp [hh] at h2 ⊢
        have hlv : live (lgT l (k : Nat)) = true := by
          rcases hb.1 h with h3 | ⟨j, hj, h3⟩
          · exact live_of (w := []) (by rw [lg_nil]; exact h3)
          · have hr := nx_rg hw cs k j
            have := hSg _ (hnat _ (by omega)).1 h3 _ (by omega : (nxF l cs k j).toNat < clN l) rfl
            rw [Int.toNat_of_nonneg hr.1, lg_nx hw hc k hj] at this
            exact live_der this
        rw [tab_set]
        refine hnx' _ _ ⟨_, rfl, fun j hj hgj s hs hcs => ?_, fun j hj hfj => ?_, fun h => (by cases h), fun _ => ⟨(c k).toNat, hck.1, ?_, by simp⟩⟩
        · by_cases hjk : j = (c k).toNat
          · have hcc : c s = c k := by have := (hnat s hs).2; omega
            rw [(hk.iff s k hs hkl).1 hcc]; exact hlv
          · simp only [hjk, if_false] at hgj
            exact hSg j hj hgj s hs hcs
        · by_cases hjk : j = (c k).toNat
          · simp [hjk]
          · simp only [hjk, if_false]; exact hfg j hj hfj
        · cases hfk : f (c k).toNat
          · rfl
          · have := hfg _ hck.1 hfk; rw [this] at hgk; cases hgk
      · rintro ⟨_, h3⟩; rw [h3] at h2; cases h2
      · rintro ⟨h3, _⟩; rw [h3] at h; cases h
  · obtain ⟨g, rfl, hSg, hfg, hg0, hg1⟩ := hJ
    unfold au_table_live_b2; dsimp only
    refine Ok.iF (by rw [tab_len]; omega) (hnx (_, ag) ⟨g, rfl, hSg, fun h => ?_⟩ ?_)
    · obtain ⟨h1, h2⟩ := hg0 h
      have hcl : ∀ (w : List UInt8) (s : Nat), s < clN l → lgT l (s : Nat) w = true → f (c s).toNat = true := by
        intro w
        induction w with
        | nil => intro s hs hw'; exact h2 s hs (.inl (by rw [← lg_nil]; exact hw'))
        | cons b w ih =>
          intro s hs hw'
          obtain ⟨i, hi, g1, g2⟩ := hc.find b.toNat b.toNat_lt
          have hr := nx_rg hw cs s i
          refine h2 s hs (.inr ⟨i, hi, ih _ (by omega) ?_⟩)
          rw [Int.toNat_of_nonneg hr.1, lg_nx hw hc s hi, ← lg_const hw hc hf s hi b.toNat_lt g1 g2]
          simpa [der] using hw'
      intro s hs
      have hcs := hnat s hs
      rw [h1 _ hcs.1]
      cases hfs : f (c s).toNat
      · cases hlv : live (lgT l (s : Nat))
        · rfl
        · obtain ⟨w, hw'⟩ := live_iff.1 hlv
          rw [hcl w s hs hw'] at hfs; cases hfs
      · exact (hS _ hcs.1 hfs s hs rfl).symm
    · rw [hcg, hcg]
      cases ag with
      | true =>
        have := cnt_lt (n := clN l) (f := f) (g := g) (fun j hj => hfg j hj) (hg1 rfl)
        simp only [if_true]; omega
      | false =>
        have := cnt_le (n := clN l) (f := f) (g := g) (fun j hj => hfg j hj)
        simp only [if_true, Bool.false_eq_true, if_false]; omega
theorem end_ok {l : Tb} {cs : List Int} {cl : List Int} {fu i : Nat} (hc : CutOk cs) (hi : i < cs.length) : Ok (au_table_end fu (cmpD l cs cl) (i : Int)) (fun r => r = hiC cs i) := by
  unfold au_table_end cmpD; dsimp only
  have hcl := hc.le
  refine Ok.chk (by unfold F64; omega) (Ok.ite (fun h => Ok.chk (by unfold F64; omega) ?_) fun h => Ok.some (by rw [hiC_last (by omega)]))
  have h1 : i + 1 < cs.length := by omega
  have hh := hc.hi hi
  have hr := hc.rg _ (List.getElem_mem hi)
  rw [hiC_some h1] at hh
  rw [show ((i : Int) + 1) = ((i + 1 : Nat) : Int) by omega]
  refine Ok.idxN h1 (Ok.chk (by unfold F64; omega) (Ok.chk (by unfold F8; omega) (Ok.some (by rw [hiC_some h1]))))
/- the place behind an interval -/
def pos (cs : List Int) (i : Nat) : Nat := if h : i < cs.length then cs[i].toNat else 256
theorem pos_zero {cs : List Int} (h : CutOk cs) : pos cs 0 = 0 := by unfold pos; rw [dif_pos h.pos, h.get0]; rfl
theorem pos_at {cs : List Int} (h : CutOk cs) {i : Nat} (hi : i < cs.length) : ((pos cs i : Nat) : Int) = cs[i] := by
  unfold pos; rw [dif_pos hi]; have := h.rg _ (List.getElem_mem hi); omega
theorem pos_end {cs : List Int} : pos cs cs.length = 256 := by unfold pos; rw [dif_neg (by omega)]
theorem pos_succ {cs : List Int} (h : CutOk cs) {i : Nat} (hi : i < cs.length) : ((pos cs (i + 1) : Nat) : Int) = hiC cs i + 1 := by
  by_cases h1 : i + 1 < cs.length
  · rw [pos_at h h1, hiC_some h1]; omega
  · rw [hiC_last h1]; unfold pos; rw [dif_neg h1]; rfl
theorem pos_le {cs : List Int} (h : CutOk cs) (i : Nat) : pos cs i ≤ 256 := by
  unfold pos; split
  · rename_i hi; have := h.rg _ (List.getElem_mem hi); omega
  · omega
theorem set_last {α : Type} {l : List α} {x : α} (h : 0 < l.length) : l.set (l.length - 1) x = l.dropLast ++ [x] := by
  rcases nil_or_last l with rfl | ⟨l', y, rfl⟩
  · simp at h
  · simp
theorem push_set {es : List EdI} {lo hi n : Int} (h : 0 < es.length) : push es lo hi n = if (es[es.length - 1]'(by omega)).2.2 = n ∧ (es[es.length - 1]'(by omega)).2.1 + 1 = lo then es.set (es.length - 1) ((es[es.length - 1]'(by omega)).1, hi, n) else es ++ [(lo, hi, n)] := by
  rw [set_last h]
  rcases nil_or_last es with rfl | ⟨l', y, rfl⟩
  · simp at h
  · rw [push_last]; simp
theorem push_len (es : List EdI) (lo hi n : Int) : (push es lo hi n).length ≤ es.length + 1 := by
  rcases nil_or_last es with rfl | ⟨l', y, rfl⟩
  · simp [push_nil]
  · rw [push_last]; split <;> simp
theorem j11_ok {l : Tb} {cs cl : List Int} {es : List EdI} {i q fu : Nat} {x : Int} {ord : List Int} {m : List (Int × Int)} {nx : (List Int × List EdI × List (Int × Int) × Nat) → Option Tb} {P : Tb → Prop}
    (hc : CutOk cs) (hi : i < cs.length) (hE : EdOk es (pos cs i) q) (hel : es.length ≤ 256) (hx : F64 x) {n : Int} (hm : fmGet m x = some n)
    (h : Ok (nx (ord, push es cs[i] (hiC cs i) n, m, i + 1)) P) :
    Ok (au_table_canonical_j11 fu (cmpD l cs cl) es i nx x ord m) P := by
  have hci := hc.rg _ (List.getElem_mem hi)
  have hh := hc.hi hi
  have hg : (fmGet m x).getD 0 = n := by rw [hm]; rfl
  have hadd : push es cs[i] (hiC cs i) n = es ++ [(cs[i], hiC cs i, n)] → Ok (bnd (idx cs (i : Int)) fun x1839 => chk (F8 x1839) (bnd (au_table_end fu (cmpD l cs cl) (i : Int)) fun x1843 => chk (F8 x1843) (chk (F64 x) (chk (es.length + ([(x1839, x1843, (fmGet m x).getD 0)] : List (Int × Int × Int)).length ≤ capN) (nx (ord, es ++ ([(x1839, x1843, (fmGet m x).getD 0)] : List (Int × Int × Int)), m, i + 1)))))) P := fun he => by
    refine Ok.idxN hi (Ok.chk (by unfold F8; omega) (Ok.bnd (end_ok hc hi) fun a ha => ?_))
    subst ha
    refine Ok.chk (by unfold F8; omega) (Ok.chk hx (Ok.chk (by simp; unfold capN; omega) ?_))
    rw [hg]; rw [he] at h; exact h
  unfold au_table_canonical_j11
  simp only [show (cmpD l cs cl).1 = cs from rfl]
  refine Ok.ite (fun h0 => ?_) fun h0 => hadd ?_
  · have hpos : 0 < es.length := by omega
    have e1 : ((es.length : Int) - 1) = ((es.length - 1 : Nat) : Int) := by omega
    have hll : es.length - 1 < es.length := by omega
    have hr := hE.rg _ (List.getElem_mem hll)
    have hp := pos_at hc hi
    have hpl := pos_le hc i
    have hps := push_set (lo := cs[i]) (hi := hiC cs i) (n := n) hpos
    rw [hg, e1]
    rw [hg] at hadd
    simp only [Int.toNat_natCast]
    refine Ok.chk (by unfold F64; omega) (Ok.idxN hll (Ok.chk hx (Ok.ite (fun h1 => Ok.chk (by unfold F64; omega) (Ok.idxN hll (Ok.chk (by unfold F64; omega) (Ok.idxN hi (Ok.ite (fun h2 => ?_) fun h2 => ?_))))) fun h1 => ?_)))
    · refine Ok.chk (by unfold F64; omega) (Ok.bnd (end_ok hc hi) fun a ha => ?_)
      subst ha
      refine Ok.chk (by unfold F8; omega) (Ok.idxN hll ?_)
      rw [if_pos ⟨h1, h2⟩] at hps
      rw [hps] at h
      rw [h1]; exact h
    · exact hadd (by rw [hps, if_neg (fun hh => h2 hh.2)])
    · exact hadd (by rw [hps, if_neg (fun hh => h1 hh.1)])
  · obtain rfl : es = [] := List.length_eq_zero_iff.1 (by omega)
    rfl
theorem live_sink (l : Tb) : live (lgT l (l.length : Nat)) = false := by
  have := lgT_sk l (-1) (by omega)
  rw [show sk l.length (-1) = ((l.length : Nat) : Int) from rfl] at this
  rw [this]; exact live_neg (by decide)
/- what is known, on both sides -/
structure KO (l : Tb) (c : Nat → Int) (kn : List Lg) (ord : List Int) (m : List (Int × Int)) : Prop extends KnOk (lgs l) kn where
  len : ord.length = kn.length
  ord : ∀ (i : Nat) (q : Int), ord[i]? = some q → (0 ≤ q ∧ q < l.length) ∧ kn[i]? = some (lgT l q)
  mlen : m.length = kn.length
  map : ∀ s, s < clN l → (lgT l (s : Nat) ∈ kn → fmGet m (c s) = some ((ixL kn (lgT l (s : Nat)) : Nat) : Int)) ∧ (lgT l (s : Nat) ∉ kn → fmGet m (c s) = none)
theorem KO.nil (l : Tb) (c : Nat → Int) : KO l c [] [] [] := ⟨⟨.nil, by simp, by simp⟩, rfl, by simp, rfl, fun s hs => ⟨by simp, fun _ => rfl⟩⟩
theorem KO.put {l : Tb} {c : Nat → Int} {kn : List Lg} {ord : List Int} {m : List (Int × Int)} (hw : WfT l) (hk : ClsOk l c) (h : KO l c kn ord m) {s : Nat} (hs : s < l.length) (hn : lgT l (s : Nat) ∉ kn) (hl : live (lgT l (s : Nat)) = true) :
    KO l c (kn1 kn (lgT l (s : Nat))) (ord ++ [(s : Int)]) (fmPut m (c s) (ord.length : Int)) := by
  have hN : clN l = l.length + 1 := rfl
  have hsN : s < clN l := by omega
  have h1 := h.toKnOk.kn1 (D := lgT l (s : Nat)) (lgs_mem (by omega) (by omega)) hl
  have e : kn1 kn (lgT l (s : Nat)) = kn ++ [lgT l (s : Nat)] := by unfold kn1; rw [if_pos (ixL_not hn)]
  refine ⟨h1, ?_, ?_, ?_, ?_⟩
  · rw [e]; simp [h.len]
  · intro i q hq
    rw [e]
    by_cases hi : i < ord.length
    · rw [List.getElem?_append_left hi] at hq
      have := h.ord i q hq
      exact ⟨this.1, by rw [List.getElem?_append_left (by rw [← h.len]; exact hi)]; exact this.2⟩
    · rw [List.getElem?_append_right (by omega)] at hq
      have hi2 : i = ord.length := by
        have := (List.getElem?_eq_some_iff.1 hq).1; simp at this; omega
      subst hi2
      simp at hq; subst hq
      exact ⟨⟨by omega, by omega⟩, by rw [h.len]; simp⟩
  · rw [fmPut_len, (h.map s hsN).2 hn, e, h.mlen]; simp
  · intro t ht
    rw [e, fmGet_put]
    by_cases hts : c t = c s
    · have hL := (hk.iff t s ht hsN).1 hts
      rw [if_pos hts, hL, h.len]
      refine ⟨fun _ => ?_, fun hno => absurd (by simp) hno⟩
      have := ixL_kn1 kn (lgT l (s : Nat))
      rw [e, ixL_not hn] at this
      rw [this]
    · have hL : lgT l (t : Nat) ≠ lgT l (s : Nat) := fun hh => hts ((hk.iff t s ht hsN).2 hh)
      rw [if_neg hts]
      refine ⟨fun hm => ?_, fun hm => (h.map t ht).2 fun hh => hm (by simp [hh])⟩
      have hm' : lgT l (t : Nat) ∈ kn := by
        rcases List.mem_append.1 hm with hm | hm
        · exact hm
        · simp at hm; exact absurd hm hL
      rw [ixL_append hm']; exact (h.map t ht).1 hm'
theorem canonical_ok {l : Tb} {cs : List Int} {c : Nat → Int} {n fu : Nat} (hw : WfT l) (h0 : 0 < l.length) (hc : CutOk cs) (hf : CutFor cs l) (hk : ClsOk l c) (hl : l.length ≤ n) (hn : n < 4294967296) (hfu : n + 2 < fu) (hfu' : 256 < fu) :
    Ok (au_table_canonical fu (cmpD l cs (tab (clN l) c))) (fun r => r = canT l) := by
  have hN : clN l = l.length + 1 := rfl
  have hcl := hc.le
  unfold au_table_canonical
  refine Ok.bnd (live_ok hw hc hf hk hl hn hfu hfu') fun lv hlv => ?_
  obtain ⟨f, rfl, hf'⟩ := hlv
  have hnat := fun s hs => hk.toClsB.nat (s := s) hs
  have hc0 := hnat 0 (by omega)
  have e0 : idx (cmpD l cs (tab (clN l) c)).2.2.2 0 = some (c 0) := by unfold cmpD; exact idx_tab (i := 0) (by omega)
  refine Ok.bndE e0 (Ok.bndE (a := f (c 0).toNat) (by rw [← hc0.2]; exact idx_tab hc0.1) ?_)
  rw [hf' 0 (by omega)]
  have hzero : lgT l ((0 : Nat) : Int) = lgT l 0 := rfl
  rw [hzero]
  refine Ok.bif (fun h => Ok.some ?_) fun h => ?_
  · have h : live (lgT l 0) = false := by cases hh : live (lgT l 0) <;> simp [hh] at h ⊢
    unfold canT canL; rw [h]; rfl
  have hlv : live (lgT l 0) = true := by cases hh : live (lgT l 0) <;> simp [hh] at h ⊢
  have hcr := hk.rg 0 (by omega)
  refine Ok.bndE e0 (Ok.chk (by unfold F64; omega) (Ok.chk (by simp) ?_))
  have hKO0 := (KO.nil l c).put hw hk (s := 0) h0 (by simp) hlv
  refine Ok.loop (X := List Int × Tb × List (Int × Int) × Nat) (fun x => ∃ kn F, KO l c kn x.1 x.2.2.1 ∧ x.2.2.2 = x.2.1.length ∧ x.2.1.length ≤ kn.length ∧ l.length < F + x.2.1.length ∧ canGo F kn x.2.1 = canT l) (fun x => l.length + 1 - x.2.2.2)
    ⟨[lgT l 0], l.length + 1, hKO0, rfl, by simp, by simp, by unfold canT canL; rw [if_pos hlv]⟩ (by simp only; omega) fun x nx hI _ hnx => ?_
  obtain ⟨ord, out, m, k⟩ := x
  obtain ⟨kn, F, hKO, hkl, hol, hF, hgo⟩ := hI
  dsimp only at hKO hkl hol hF hgo
  subst hkl
  have hkn : kn.length ≤ l.length := by have := hKO.toKnOk.le; rw [lgs_len] at this; exact this
  have hlen := hKO.len
  unfold au_table_canonical_b7; dsimp only
  refine Ok.ite (fun hlt => ?_) fun hlt => Ok.some ?_
  · have hko : out.length < ord.length := by omega
    obtain ⟨⟨hq0, hq1⟩, hK⟩ := hKO.ord out.length _ (List.getElem?_eq_getElem hko)
    generalize hqe : ord[out.length] = q at hq0 hq1 hK
    obtain ⟨qn, rfl⟩ : ∃ qn : Nat, q = qn := ⟨q.toNat, by omega⟩
    have hqN : qn < clN l := by omega
    have e1 : idx ord (out.length : Int) = some (qn : Int) := by rw [idx_nat hko, hqe]
    obtain ⟨F, rfl⟩ : ∃ F', F = F' + 1 := ⟨F - 1, by omega⟩
    have hKm := List.mem_of_getElem? hK
    refine Ok.bndE e1 (Ok.bndE (by unfold cmpD; exact idx_tab hqN) (Ok.bndE e1 (Ok.bndE (by unfold cmpD; exact idx_tab hqN) ?_)))
    have hrow := fun i hi => rowTo_ok (lgs_clo hw) (hKO.sub _ hKm) hKO.toKnOk (pos cs i) hi
    refine Ok.range3 (fun i o es m' => o.length = (rowTo (lgT l (qn : Nat)) kn (pos cs i)).1.length ∧ es = (rowTo (lgT l (qn : Nat)) kn (pos cs i)).2 ∧ es.length ≤ i ∧ KO l c (rowTo (lgT l (qn : Nat)) kn (pos cs i)).1 o m') cs.length
      (by rw [pos_zero hc]; exact ⟨hlen, rfl, by simp, hKO⟩) (by omega) (fun i o es m' nx' hi hJ hnx' => ?_) (fun o es m' nx' hJ => ?_)
    · obtain ⟨hol', rfl, hesl, hKO'⟩ := hJ
      have hpl := pos_le hc i
      obtain ⟨g1, g2, g3⟩ := hrow i hpl
      have hr := nx_rg hw cs qn i
      obtain ⟨tn, htn⟩ : ∃ tn : Nat, nxF l cs qn i = tn := ⟨(nxF l cs qn i).toNat, by omega⟩
      have htN : tn < clN l := by omega
      have hct := hnat tn htN
      have hcr := hk.rg tn htN
      have hpa := pos_at hc hi
      have hps := pos_succ hc hi
      have hhi := hc.hi hi
      have hD : ∀ b, pos cs i ≤ b → b ≤ (hiC cs i).toNat → der (lgT l (qn : Nat)) b = lgT l (tn : Nat) := fun b b1 b2 => by
        rw [lg_const hw hc hf qn hi (by omega) (by omega) (by omega), ← lg_nx hw hc qn hi, htn]
      have hstep : rowTo (lgT l (qn : Nat)) kn (pos cs (i + 1)) = rowI (rowTo (lgT l (qn : Nat)) kn (pos cs i)) (lgT l (tn : Nat)) (pos cs i) (hiC cs i).toNat := by
        rw [show pos cs (i + 1) = (hiC cs i).toNat + 1 by omega]
        exact rowTo_add _ _ _ _ _ (by omega) hD
      unfold au_table_canonical_b10; dsimp only
      refine Ok.iT (by unfold nxR; rw [tab_len]; omega) (Ok.bndE (a := (tn : Int)) (by unfold nxR; rw [← htn]; exact idx_tab hi) (Ok.bndE (a := c tn) (by unfold cmpD; exact idx_tab htN) (Ok.bndE (a := f (c tn).toNat) (by rw [← hct.2]; exact idx_tab hct.1) ?_)))
      rw [hf' tn htN]
      refine Ok.bif (fun hdead => hnx' _ _ _ ?_) fun hlive => ?_
      · have hdead : live (lgT l (tn : Nat)) = false := by cases hh : live (lgT l (tn : Nat)) <;> simp [hh] at hdead ⊢
        have e : rowTo (lgT l (qn : Nat)) kn (pos cs (i + 1)) = rowTo (lgT l (qn : Nat)) kn (pos cs i) := by rw [hstep]; unfold rowI; rw [hdead]; rfl
        rw [e]; exact ⟨hol', rfl, by omega, hKO'⟩
      · have hlive : live (lgT l (tn : Nat)) = true := by cases hh : live (lgT l (tn : Nat)) <;> simp [hh] at hlive ⊢
        have htl : tn < l.length := by
          rcases Nat.lt_or_ge tn l.length with h1 | h1
          · exact h1
          · obtain rfl : tn = l.length := by omega
            rw [live_sink] at hlive; cases hlive
        have hst : rowTo (lgT l (qn : Nat)) kn (pos cs (i + 1)) = (kn1 (rowTo (lgT l (qn : Nat)) kn (pos cs i)).1 (lgT l (tn : Nat)), push (rowTo (lgT l (qn : Nat)) kn (pos cs i)).2 cs[i] (hiC cs i) (ixL (rowTo (lgT l (qn : Nat)) kn (pos cs i)).1 (lgT l (tn : Nat)) : Nat)) := by
          rw [hstep]; unfold rowI; rw [if_pos hlive, hpa, Int.toNat_of_nonneg (by omega)]
        have hx64 : F64 (c tn) := by unfold F64; omega
        have hkl' := g2.le
        rw [lgs_len] at hkl'
        have hpush := push_len (rowTo (lgT l (qn : Nat)) kn (pos cs i)).2 cs[i] (hiC cs i) (ixL (rowTo (lgT l (qn : Nat)) kn (pos cs i)).1 (lgT l (tn : Nat)) : Nat)
        refine Ok.chk hx64 (Ok.bif (fun hnew => ?_) fun hold => ?_)
        · have hnm : lgT l (tn : Nat) ∉ (rowTo (lgT l (qn : Nat)) kn (pos cs i)).1 := fun hm => by
            rw [(hKO'.map tn htN).1 hm] at hnew; simp at hnew
          have hput := hKO'.put hw hk htl hnm hlive
          have hix := ixL_not hnm
          have hmem := mem_kn1 (rowTo (lgT l (qn : Nat)) kn (pos cs i)).1 (lgT l (tn : Nat))
          refine Ok.chk hx64 (Ok.chk (by unfold F64; omega) (Ok.chk (by rw [hKO'.mlen]; unfold capN; omega) (Ok.chk (by simp; unfold capN; omega) ?_)))
          refine j11_ok hc hi g3.1 (by omega) hx64 (((hput.map tn htN).1 hmem).trans (by rw [ixL_kn1])) (hnx' _ _ _ ?_)
          rw [hst]
          exact ⟨by rw [hput.len], rfl, by omega, hput⟩
        · have hm : lgT l (tn : Nat) ∈ (rowTo (lgT l (qn : Nat)) kn (pos cs i)).1 := Classical.byContradiction fun hm => by
            rw [(hKO'.map tn htN).2 hm] at hold; simp at hold
          refine j11_ok hc hi g3.1 (by omega) hx64 ((hKO'.map tn htN).1 hm) (hnx' _ _ _ ?_)
          rw [hst, kn1_of_mem hm]
          exact ⟨hol', rfl, by omega, hKO'⟩
    · obtain ⟨hol', rfl, hesl, hKO'⟩ := hJ
      rw [pos_end] at hol' hKO' ⊢
      obtain ⟨g1, g2, g3⟩ := rowTo_ok (lgs_clo hw) (hKO.sub _ hKm) hKO.toKnOk 256 (Nat.le_refl _)
      have := g1.len
      unfold au_table_canonical_b10; dsimp only
      refine Ok.iF (by unfold nxR; rw [tab_len]; omega) (Ok.chk (by simp; unfold capN; omega) (hnx _ ⟨(rowTo (lgT l (qn : Nat)) kn 256).1, F, hKO', by simp, by simp; omega, by simp; omega, ?_⟩ ?_))
      · rw [← hgo]; dsimp only
        conv => rhs; unfold canGo
        rw [hK]; dsimp only
        rw [lg_nil]
      · dsimp only; omega
  · have hno : kn[out.length]? = none := List.getElem?_eq_none (by omega)
    rw [← hgo]
    cases F with
    | zero => rfl
    | succ F => unfold canGo; rw [hno]
theorem minimal_ok {l : Tb} {n fu : Nat} (hb : ByT l) (hs : ShT l n) (hn : n < 4294967296) (hfu : n + 2 < fu) (hfu' : 256 < fu) :
    Ok (au_Minimal fu l) (fun r => (WfT l → r = (canT l, 0)) ∧ (¬ WfT l → r = ([], 11))) := by
  unfold au_Minimal
  refine Ok.bnd (wellFormed_ok hb hs (by omega) hn) fun x hx => Ok.bif (fun h => Ok.some ?_) fun h => ?_
  · have hno : ¬ WfT l := fun hw => by have := hx.2 hw; subst this; cases h
    exact ⟨fun hw => absurd hw hno, fun _ => rfl⟩
  · have hw : WfT l := hx.1 (by cases x; cases h; rfl)
    refine Ok.ite (fun h => Ok.some ⟨fun _ => ?_, fun hno => absurd hw hno⟩) fun h => ?_
    · obtain rfl : l = [] := List.length_eq_zero_iff.1 (by omega)
      have : live (lgT [] 0) = false := live_false.2 fun w => lgT_nil 0 w
      unfold canT canL; rw [this]; rfl
    · refine Ok.bnd (complete_ok hw hs hn (by omega) hfu') fun x hx => ?_
      obtain ⟨cs, hc, hf, rfl⟩ := hx
      refine Ok.bnd (refine_ok hw (by omega) hc hf hs.1 hn hfu hfu') fun x hx => ?_
      obtain ⟨c, hk, rfl⟩ := hx
      refine Ok.bnd (canonical_ok hw (by omega) hc hf hk hs.1 hn hfu hfu') fun x hx => Ok.some ⟨fun _ => ?_, fun hno => absurd hw hno⟩
      rw [hx]
theorem valid_ok {l : Tb} {n fu : Nat} (hb : ByT l) (hs : ShT l n) (hn : n < 4294967296) (hfu : n + 2 < fu) (hfu' : 256 < fu) :
    Ok (au_Valid fu l) (fun r => r = true ↔ WfT l ∧ canT l = l) := by
  unfold au_Valid
  refine Ok.bnd (minimal_ok hb hs hn hfu hfu') fun x hx => ?_
  by_cases hw : WfT l
  · rw [hx.1 hw]
    refine Ok.iT rfl (Ok.bnd (auSame_ok hs (by omega)) fun r hr => Ok.some ?_)
    rw [hr]
    exact ⟨fun h => ⟨hw, h.symm⟩, fun h => h.2.symm⟩
  · rw [hx.2 hw]
    exact Ok.iF (by decide) (Ok.some ⟨fun h => (by cases h), fun h => absurd h.1 hw⟩)
end Go.GL
