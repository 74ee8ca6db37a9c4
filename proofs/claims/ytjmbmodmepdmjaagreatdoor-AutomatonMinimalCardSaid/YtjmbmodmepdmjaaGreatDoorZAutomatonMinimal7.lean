/- AutomatonMinimal: for every input the call returns true, and each argument reads afterwards as it read before. The package-level variables that its row lists are tied to the program's text. -/
import Derived.Test.YtjmbmodmepdmjaaGreatDoorZAutomatonMinimal6
namespace Go.GL
open Go.GK
theorem starts5_eq : r05_Starts = au_cut := rfl
def Ar (l : Tb) (f : Nat → Bool) (s : Nat) : Prop := ∃ st, l[s]? = some st ∧ (st.1 = true ∨ ∃ e ∈ st.2, f e.2.2.toNat = true)
def ClosedF (l : Tb) (f : Nat → Bool) : Prop := ∀ s, s < l.length → Ar l f s → f s = true
def SoundF (l : Tb) (f : Nat → Bool) : Prop := ∀ s, s < l.length → f s = true → live (lgT l (s : Nat)) = true
theorem Ar.mono {l : Tb} {f g : Nat → Bool} {s : Nat} (hw : WfT l) (hfg : ∀ j, j < l.length → f j = true → g j = true) (h : Ar l f s) : Ar l g s := by
  obtain ⟨st, h1, h2⟩ := h
  refine ⟨st, h1, h2.imp id fun ⟨e, he, hf⟩ => ⟨e, he, hfg _ ?_ hf⟩⟩
  have := (hw st (List.mem_of_getElem? h1)).rg e he
  omega
theorem stepE_mem {es : List EdI} {m n : Nat} (h : EdOk es m n) {e : EdI} (he : e ∈ es) : stepE es e.1.toNat = e.2.2 := by
  obtain ⟨i, hi, rfl⟩ := List.getElem_of_mem he
  have hr := h.rg _ he
  refine stepE_at hi (by simp [inE]; omega) fun j hj => ?_
  have h1 := List.pairwise_iff_getElem.1 h.so j i (by omega) hi hj
  have h2 := h.rg _ (List.getElem_mem (by omega : j < es.length))
  simp [inE]; omega
theorem Ar.live {l : Tb} {f : Nat → Bool} {s : Nat} (hw : WfT l) (hS : SoundF l f) (h : Ar l f s) : live (lgT l (s : Nat)) = true := by
  obtain ⟨st, h1, h2⟩ := h
  have hs := (List.getElem?_eq_some_iff.1 h1).1
  have hrow : rowT l (s : Nat) = st := by unfold rowT; rw [List.getD_eq_getElem?_getD]; simp [h1]
  have hE := hw st (List.mem_of_getElem? h1)
  rcases h2 with h2 | ⟨e, he, hf⟩
  · exact live_of (w := []) (by simp [lgT, runT, fin, hrow, h2])
  · have hr := hE.rg e he
    have h3 := hS _ (by omega) hf
    rw [Int.toNat_of_nonneg hr.2.2.2.1] at h3
    refine live_der (b := e.1.toNat) ?_
    rw [der_lgT _ _ _ (by omega)]
    have : stT l (s : Nat) e.1.toNat = e.2.2 := by unfold stT; rw [if_neg (by omega), hrow]; exact stepE_mem hE he
    rw [this]; exact h3
theorem ClosedF.all {l : Tb} {f : Nat → Bool} (hw : WfT l) (h : ClosedF l f) : ∀ (w : List UInt8) (s : Nat), s < l.length → lgT l (s : Nat) w = true → f s = true
  | [], s, hs, hl => by
    refine h s hs ⟨l[s], List.getElem?_eq_getElem hs, .inl ?_⟩
    simpa [lgT, runT, fin, rowT, hs] using hl
  | b :: w, s, hs, hl => by
    have hrow : rowT l (s : Nat) = l[s] := rowT_get (by omega) (by omega)
    have e : lgT l (s : Nat) (b :: w) = lgT l (stT l (s : Nat) b.toNat) w := rfl
    rw [e] at hl
    have hst : stT l (s : Nat) b.toNat = stepE l[s].2 b.toNat := by unfold stT; rw [if_neg (by omega), hrow]
    rw [hst] at hl
    unfold stepE at hl
    cases hf : l[s].2.find? (inE b.toNat) with
    | none => rw [hf] at hl; rw [lgT_neg (by decide)] at hl; cases hl
    | some e =>
      rw [hf] at hl
      have hem := List.mem_of_find?_eq_some hf
      have hr := (hw _ (List.getElem_mem hs)).rg e hem
      refine h s hs ⟨l[s], List.getElem?_eq_getElem hs, .inr ⟨e, hem, ?_⟩⟩
      refine ClosedF.all hw h w e.2.2.toNat (by omega) ?_
      rw [Int.toNat_of_nonneg hr.2.2.2.1]; exact hl
theorem alive5_edges {l : Tb} {n fu k : Nat} (hw : WfT l) (hs : ShT l n) (hf : n < fu) (hk : k < l.length) {g : Nat → Bool} {P : List Bool → Prop} {nx : (List Bool × Nat) → Option (List Bool)}
    (b : (Nat → ((List Bool) × Nat → Option (List Bool)) → List Bool → Nat → ((List Bool) × Nat → Option (List Bool)) → Option (List Bool)))
    (hb : ∀ nx' o j nx2, b k nx' o j nx2 = r05_alive_b3 fu k nx' l[k] o j nx2)
    (hn : ∀ g', (∀ j, j < l.length → g' j = if j = k then (g k || l[k].2.any fun e => g e.2.2.toNat) else g j) → Ok (nx (tab l.length g', k + 1)) P) :
    Ok (loopK fu (fun p nx2 => b k nx p.1 p.2 nx2) (tab l.length g, 0)) P := by
  have hE := hw _ (List.getElem_mem hk)
  refine Ok.range (fun j o => ∃ g', o = tab l.length g' ∧ ∀ i, i < l.length → g' i = if i = k then (g k || (l[k].2.take j).any fun e => g e.2.2.toNat) else g i) l[k].2.length ⟨g, rfl, fun i _ => by by_cases h : i = k <;> simp [h]⟩ (by have := hs.2 _ (List.getElem_mem hk); omega) (fun j o nx2 hj hJ hn2 => ?_) (fun o nx2 hJ => ?_)
  · obtain ⟨g', rfl, hg'⟩ := hJ
    have hr := hE.rg _ (List.getElem_mem hj)
    dsimp only
    rw [hb]
    unfold r05_alive_b3
    have hany : ((l[k].2.take (j + 1)).any fun e => g e.2.2.toNat) = (((l[k].2.take j).any fun e => g e.2.2.toNat) || g l[k].2[j].2.2.toNat) := by
      rw [← List.take_append_getElem hj, List.any_append]; simp
    refine Ok.iT (by omega) (Ok.idxN hj (Ok.bndE (idx_tab hk) (Ok.bif (fun h => Ok.bndE (idx_tab hk) (hn2 _ ⟨_, tab_set _ _ _ _, fun i hi => ?_⟩)) fun h => ?_)))
    · by_cases hik : i = k
      · subst hik
        have := hg' i hi
        rw [h] at this; simp only [if_true] at this ⊢
        rw [hany, ← Bool.or_assoc, ← this]; rfl
      · simp only [hik, if_false]; rw [hg' i hi, if_neg hik]
    · have hto : l[k].2[j].2.2.toNat < l.length := by omega
      refine Ok.bndE (a := g' l[k].2[j].2.2.toNat) (idx_tabI hr.2.2.2.1 hto) (Ok.bndE (idx_tab hk) (hn2 _ ⟨_, tab_set _ _ _ _, fun i hi => ?_⟩))
      by_cases hik : i = k
      · subst hik
        have h1 := hg' i hi
        rw [h] at h1; simp only [if_true] at h1 ⊢
        rw [hany, ← Bool.or_assoc, ← h1, Bool.false_or, hg' _ hto]
        by_cases hti : l[i].2[j].2.2.toNat = i
        · rw [if_pos hti, hti, ← h1]
          have : g i = false := by cases hg : g i <;> simp [hg] at h1 ⊢
          exact this.symm
        · rw [if_neg hti]
      · simp only [hik, if_false]; rw [hg' i hi, if_neg hik]
  · obtain ⟨g', rfl, hg'⟩ := hJ
    dsimp only
    rw [hb]
    unfold r05_alive_b3
    rw [take_full] at hg'
    exact Ok.iF (by omega) (hn g' hg')
theorem alive5_ok {l : Tb} {n fu : Nat} (hw : WfT l) (hs : ShT l n) (hn : n < 4294967296) (hf : n < fu) : Ok (r05_alive fu l) (fun r => r = tab l.length fun s => live (lgT l (s : Nat))) := by
  have hln := hs.1
  unfold r05_alive
  refine Ok.chk (by unfold capN; omega) ?_
  rw [tab_rep]
  refine Ok.range (fun k o => ∃ f, o = tab l.length f ∧ SoundF l f ∧ (ClosedF l f ∨ cnt l.length f + k ≤ l.length)) l.length ⟨_, rfl, fun s _ h => (by cases h), .inr (by have := cnt_max l.length (fun _ => false); omega)⟩ (by omega) (fun k o nx hk hJ hnx => ?_) (fun o nx hJ => ?_)
  · obtain ⟨f, rfl, hS, hC⟩ := hJ
    unfold r05_alive_b1; dsimp only
    refine Ok.iT (by omega) ?_
    refine Ok.range (fun q o => ∃ g, o = tab l.length g ∧ SoundF l g ∧ (∀ j, j < l.length → f j = true → g j = true) ∧ (∀ s, s < q → Ar l f s → g s = true) ∧ (ClosedF l f → ∀ j, j < l.length → g j = f j)) l.length ⟨f, rfl, hS, fun _ _ h => h, fun s h => by omega, fun _ _ _ => rfl⟩ (by omega) (fun q o nx' hq hJ hn' => ?_) (fun o nx' hJ => ?_)
    · obtain ⟨g, rfl, hSg, hfg, hA, hCl⟩ := hJ
      unfold r05_alive_b2; dsimp only
      have hfin : ∀ g1 : Nat → Bool, (∀ j, j < l.length → g1 j = if j = q then (g q || l[q].1) else g j) → ∀ g', (∀ j, j < l.length → g' j = if j = q then (g1 q || l[q].2.any fun e => g1 e.2.2.toNat) else g1 j) → Ok (nx' (tab l.length g', q + 1)) (fun r => r = tab l.length fun s => live (lgT l (s : Nat))) := fun g1 h1 g' h2 => by
        have e1 : g1 q = (g q || l[q].1) := by rw [h1 q hq, if_pos rfl]
        have hg1 : ∀ j, j < l.length → g j = true → g1 j = true := fun j hj h => by
          rw [h1 j hj]; split
          · rename_i e; subst e; rw [h]; rfl
          · exact h
        have hS1 : SoundF l g1 := fun s hs' h => by
          rw [h1 s hs'] at h
          by_cases e : s = q
          · subst e
            rw [if_pos rfl] at h
            cases hg : g s
            · rw [hg, Bool.false_or] at h
              exact Ar.live hw hSg ⟨l[s], List.getElem?_eq_getElem hs', .inl h⟩
            · exact hSg s hs' hg
          · rw [if_neg e] at h; exact hSg s hs' h
        have hg' : ∀ j, j < l.length → g1 j = true → g' j = true := fun j hj h => by
          rw [h2 j hj]; split
          · rename_i e; subst e; rw [h]; rfl
          · exact h
        have hS' : SoundF l g' := fun s hs' h => by
          rw [h2 s hs'] at h
          by_cases e : s = q
          · subst e
            rw [if_pos rfl] at h
            cases hg : g1 s
            · rw [hg, Bool.false_or, List.any_eq_true] at h
              obtain ⟨e, he, hh⟩ := h
              exact Ar.live hw hS1 ⟨l[s], List.getElem?_eq_getElem hs', .inr ⟨e, he, hh⟩⟩
            · exact hS1 s hs' hg
          · rw [if_neg e] at h; exact hS1 s hs' h
        refine hn' _ ⟨g', rfl, hS', fun j hj h => hg' j hj (hg1 j hj (hfg j hj h)), fun s hsq hAr => ?_, fun hCf j hj => ?_⟩
        · by_cases e : s = q
          · subst e
            obtain ⟨st, h3, h4⟩ := hAr
            rw [List.getElem?_eq_getElem hq] at h3; cases h3
            rw [h2 s hq, if_pos rfl]
            rcases h4 with h4 | ⟨e, he, h4⟩
            · rw [e1, h4]; simp
            · have : (l[s].2.any fun e => g1 e.2.2.toNat) = true := List.any_eq_true.2 ⟨e, he, hg1 _ (by have := (hw _ (List.getElem_mem hq)).rg e he; omega) (hfg _ (by have := (hw _ (List.getElem_mem hq)).rg e he; omega) h4)⟩
              rw [this]; simp
          · exact hg' s (by omega) (hg1 s (by omega) (hA s (by omega) hAr))
        · have hgf := hCl hCf
          have a1 : ∀ j, j < l.length → g1 j = f j := fun j hj => by
            rw [h1 j hj]; split
            · rename_i e; subst e
              rw [hgf j hj]
              cases hl : l[j].1
              · simp
              · rw [hCf j hj ⟨l[j], List.getElem?_eq_getElem hj, .inl hl⟩]; rfl
            · exact hgf j hj
          rw [h2 j hj]; split
          · rename_i e; subst e
            rw [a1 j hj]
            cases hl : l[j].2.any fun e => g1 e.2.2.toNat
            · simp
            · obtain ⟨e, he, hh⟩ := List.any_eq_true.1 hl
              rw [a1 _ (by have := (hw _ (List.getElem_mem hj)).rg e he; omega)] at hh
              rw [hCf j hj ⟨l[j], List.getElem?_eq_getElem hj, .inr ⟨e, he, hh⟩⟩]; rfl
          · exact a1 j hj
      refine Ok.iT (by omega) (Ok.idxN hq (Ok.bndE (idx_tab hq) (Ok.bif (fun h => Ok.bndE (idx_tab hq) ?_) fun h => Ok.bndE (idx_tab hq) ?_)))
      · rw [tab_set]
        refine alive5_edges hw hs hf hq (fun k nx o j nx2 => r05_alive_b3 fu k nx l[q] o j nx2) (fun _ _ _ _ => rfl) fun g' hg' => hfin _ (fun j hj => ?_) g' hg'
        by_cases e : j = q <;> simp [e, h]
      · rw [tab_set]
        refine alive5_edges hw hs hf hq (fun k nx o j nx2 => r05_alive_b4 fu k nx l[q] o j nx2) (fun _ _ _ _ => rfl) fun g' hg' => hfin _ (fun j hj => ?_) g' hg'
        by_cases e : j = q <;> simp [e, h]
    · obtain ⟨g, rfl, hSg, hfg, hA, hCl⟩ := hJ
      unfold r05_alive_b2; dsimp only
      refine Ok.iF (by omega) (hnx _ ⟨g, rfl, hSg, ?_⟩)
      by_cases hCf : ClosedF l f
      · left
        intro s hs' hAr
        rw [hCl hCf s hs']
        exact hCf s hs' (hAr.mono hw fun j hj h => by rw [hCl hCf j hj] at h; exact h)
      · right
        have h1 := hC.resolve_left hCf
        have : ∃ s, s < l.length ∧ f s = false ∧ g s = true := Classical.byContradiction fun hno => hCf fun s hs' hAr => by
          cases hfs : f s
          · exact absurd ⟨s, hs', hfs, hA s hs' hAr⟩ hno
          · rfl
        have := cnt_lt (n := l.length) (f := f) (g := g) hfg this
        omega
  · obtain ⟨f, rfl, hS, hC⟩ := hJ
    unfold r05_alive_b1; dsimp only
    have hCf : ClosedF l f := by
      rcases hC with h | h
      · exact h
      · intro s hs' _
        cases hfs : f s
        · exfalso
          have := cnt_lt (n := l.length) (f := f) (g := fun _ => true) (fun _ _ _ => rfl) ⟨s, hs', hfs, rfl⟩
          omega
        · rfl
    refine Ok.iF (by omega) (Ok.some (tab_congr fun s hs' => ?_))
    cases hfs : f s
    · cases hlv : live (lgT l (s : Nat))
      · rfl
      · obtain ⟨w, hw'⟩ := live_iff.1 hlv
        rw [hCf.all hw w s hs' hw'] at hfs; cases hfs
    · exact (hS s hs' hfs).symm
noncomputable def trimE (l : Tb) (e : EdI) : Bool := live (lgT l e.2.2)
noncomputable def trimT (l : Tb) : Tb := l.map fun s => (s.1, s.2.filter (trimE l))
theorem trim_len (l : Tb) : (trimT l).length = l.length := by simp [trimT]
theorem EdOk.filter {es : List EdI} {m n : Nat} (h : EdOk es m n) (p : EdI → Bool) : EdOk (es.filter p) m n := ⟨fun e he => h.rg e (List.mem_filter.1 he).1, h.so.filter _⟩
theorem trim_wf {l : Tb} (h : WfT l) : WfT (trimT l) := fun s hs => by
  obtain ⟨t, ht, rfl⟩ := List.mem_map.1 hs
  rw [trim_len]; exact (h t ht).filter _
theorem find_filter {p q : EdI → Bool} {es : List EdI} (hu : ∀ e ∈ es, ∀ e' ∈ es, q e = true → q e' = true → e = e') : (es.filter p).find? q = match es.find? q with
    | some e => if p e then some e else none
    | none => none := by
  cases h : es.find? q with
  | none =>
    rw [List.find?_eq_none] at h ⊢
    exact fun e he => h e (List.mem_filter.1 he).1
  | some e =>
    have hm := List.mem_of_find?_eq_some h
    have hq := List.find?_some h
    dsimp only
    by_cases hp : p e = true
    · rw [if_pos hp]
      cases h2 : (es.filter p).find? q with
      | none => exact absurd hq (List.find?_eq_none.1 h2 e (List.mem_filter.2 ⟨hm, hp⟩))
      | some e' =>
        have hm' := List.mem_of_find?_eq_some h2
        rw [hu e' (List.mem_filter.1 hm').1 e hm (List.find?_some h2) hq]
    · rw [if_neg hp, List.find?_eq_none]
      intro e' he' hq'
      have := List.mem_filter.1 he'
      rw [hu e' this.1 e hm hq' hq] at this
      exact hp this.2
theorem EdOk.uniq {es : List EdI} {m n : Nat} (h : EdOk es m n) (b : Nat) : ∀ e ∈ es, ∀ e' ∈ es, inE b e = true → inE b e' = true → e = e' := fun e he e' he' h1 h2 => by
  obtain ⟨i, hi, rfl⟩ := List.getElem_of_mem he
  obtain ⟨j, hj, rfl⟩ := List.getElem_of_mem he'
  simp [inE] at h1 h2
  rcases Nat.lt_trichotomy i j with h3 | h3 | h3
  · have := List.pairwise_iff_getElem.1 h.so i j hi hj h3; omega
  · subst h3; rfl
  · have := List.pairwise_iff_getElem.1 h.so j i hj hi h3; omega
theorem trim_step {l : Tb} (h : WfT l) (q : Int) (b : Nat) : stT (trimT l) q b = if live (lgT l (stT l q b)) then stT l q b else -1 := by
  unfold stT
  split
  · rw [live_neg (by decide)]; rfl
  · have hrow : rowT (trimT l) q = ((rowT l q).1, (rowT l q).2.filter (trimE l)) := by
      unfold rowT trimT
      rw [List.getD_eq_getElem?_getD, List.getD_eq_getElem?_getD, List.getElem?_map]
      cases l[q.toNat]? <;> rfl
    rw [hrow]
    dsimp only
    unfold stepE
    have hu : ∀ e ∈ (rowT l q).2, ∀ e' ∈ (rowT l q).2, inE b e = true → inE b e' = true → e = e' := by
      unfold rowT
      rw [List.getD_eq_getElem?_getD]
      cases hx : l[q.toNat]? with
      | none => intro e he; simp at he
      | some s => exact (h s (List.mem_of_getElem? hx)).uniq b
    rw [find_filter hu]
    cases (rowT l q).2.find? (inE b) with
    | none => dsimp only; rw [live_neg (by decide)]; rfl
    | some e =>
      dsimp only
      unfold trimE
      by_cases hl : live (lgT l e.2.2) = true
      · rw [if_pos hl, if_pos hl]
      · rw [if_neg hl, if_neg hl]
theorem trim_lg {l : Tb} (h : WfT l) : ∀ (w : List UInt8) (q : Int), lgT (trimT l) q w = lgT l q w
  | [], q => by
    unfold lgT runT fin
    simp only [List.foldl_nil]
    congr 1
    unfold rowT trimT
    rw [List.getD_eq_getElem?_getD, List.getD_eq_getElem?_getD, List.getElem?_map]
    cases l[q.toNat]? <;> rfl
  | c :: w, q => by
    show lgT (trimT l) (stT (trimT l) q c.toNat) w = lgT l (stT l q c.toNat) w
    rw [trim_step h]
    split
    · exact trim_lg h w _
    · rename_i hd
      have hd : live (lgT l (stT l q c.toNat)) = false := by simpa using hd
      rw [live_false.1 hd w]; exact lgT_neg (by decide) w
theorem trim_sh {l : Tb} {n : Nat} (h : ShT l n) : ShT (trimT l) n := ⟨by rw [trim_len]; exact h.1, fun s hs => by
  obtain ⟨t, ht, rfl⟩ := List.mem_map.1 hs
  have := List.length_filter_le (trimE l) t.2
  have := h.2 t ht
  dsimp only; omega⟩
theorem trimmed5_ok {l : Tb} {n fu : Nat} (hw : WfT l) (hs : ShT l n) (hn : n < 4294967296) (hf : n < fu) : Ok (r05_trimmed fu l) (fun r => r = trimT l) := by
  have hln := hs.1
  unfold r05_trimmed
  refine Ok.bnd (alive5_ok hw hs hn hf) fun x hx => ?_
  subst hx
  refine Ok.range (fun k o => o = (l.take k).map fun s => (s.1, s.2.filter (trimE l))) l.length (by simp) (by omega) (fun k o nx hk hJ hnx => ?_) (fun o nx hJ => ?_)
  · subst hJ
    unfold r05_trimmed_b1; dsimp only
    have hm := List.getElem_mem hk
    have hsl := hs.2 _ hm
    refine Ok.iT (by omega) (Ok.idxN hk ?_)
    refine Ok.range (fun j x => x = (l[k].2.take j).filter (trimE l)) l[k].2.length (by simp) (by omega) (fun j x nx' hj hx hn' => ?_) (fun x nx' hx => ?_)
    · subst hx
      unfold r05_trimmed_b2; dsimp only
      have hr := (hw _ hm).rg _ (List.getElem_mem hj)
      have hlen := List.length_filter_le (trimE l) (l[k].2.take j)
      have hs1 : (l[k].2.take (j + 1)).filter (trimE l) = (l[k].2.take j).filter (trimE l) ++ (if trimE l l[k].2[j] then [l[k].2[j]] else []) := by
        rw [← List.take_append_getElem hj, List.filter_append]; simp [List.filter_cons]
      have htr : trimE l l[k].2[j] = live (lgT l ((l[k].2[j].2.2.toNat : Nat) : Int)) := by unfold trimE; rw [Int.toNat_of_nonneg hr.2.2.2.1]
      refine Ok.iT (by omega) (Ok.idxN hj (Ok.bndE (idx_tabI hr.2.2.2.1 (by omega)) (Ok.bif (fun h => Ok.chk ?_ (hn' _ ?_)) fun h => hn' _ ?_)))
      · simp only [List.length_take, List.length_cons, List.length_nil] at hlen ⊢; unfold capN; omega
      · rw [hs1, htr, if_pos h]
      · rw [hs1, htr, if_neg (by rw [h]; decide), List.append_nil]
    · subst hx
      unfold r05_trimmed_b2; dsimp only
      refine Ok.iF (by omega) (Ok.chk ?_ (hnx _ ?_))
      · simp only [List.length_map, List.length_take, List.length_cons, List.length_nil]; unfold capN; omega
      · rw [take_full, ← List.take_append_getElem hk, List.map_append]; rfl
  · subst hJ
    unfold r05_trimmed_b1; dsimp only
    exact Ok.iF (by omega) (Ok.some (by rw [take_full]; rfl))
structure Ren (l : Tb) (ord : List Int) : Prop where
  nd : ord.Nodup
  rg : ∀ q ∈ ord, 0 ≤ q ∧ q < l.length
def renE (ord : List Int) (e : EdI) : EdI := (e.1, e.2.1, ((ord.idxOf e.2.2 : Nat) : Int))
def RowIs (l : Tb) (ord : List Int) (q : Int) (s : StI) : Prop := s.1 = (rowT l q).1 ∧ s.2 = (rowT l q).2.map (renE ord) ∧ ∀ e ∈ (rowT l q).2, e.2.2 ∈ ord
theorem ren_lg {l l' : Tb} {ord : List Int} (hw : WfT l) (ho : Ren l ord) (hl : l'.length = ord.length) (hr : ∀ (k : Nat) (q : Int) (s : StI), ord[k]? = some q → l'[k]? = some s → RowIs l ord q s) :
    WfT l' ∧ ∀ (w : List UInt8) (k : Nat) (q : Int), ord[k]? = some q → lgT l' (k : Nat) w = lgT l q w := by
  have hrow : ∀ (k : Nat) (q : Int), ord[k]? = some q → RowIs l ord q (rowT l' (k : Nat)) := fun k q hk => by
    have hlt := (List.getElem?_eq_some_iff.1 hk).1
    have : l'[k]? = some (rowT l' (k : Nat)) := by unfold rowT; rw [List.getD_eq_getElem?_getD]; simp [show k < List.length l' by omega]
    exact hr k q _ hk this
  have hE : ∀ q ∈ ord, EdOk (rowT l q).2 256 l.length := fun q hq => by
    have := ho.rg q hq
    rw [rowT_get this.1 this.2]; exact hw _ (List.getElem_mem _)
  refine ⟨fun s hs => ?_, fun w => ?_⟩
  · obtain ⟨k, hk, rfl⟩ := List.getElem_of_mem hs
    have hq : ord[k]? = some ord[k] := List.getElem?_eq_getElem (by omega)
    obtain ⟨h1, h2, h3⟩ := hr k _ _ hq (List.getElem?_eq_getElem hk)
    have hE' := hE _ (List.mem_of_getElem? hq)
    rw [h2]
    refine ⟨fun e he => ?_, List.pairwise_map.2 hE'.so⟩
    obtain ⟨e0, he0, rfl⟩ := List.mem_map.1 he
    have hr0 := hE'.rg e0 he0
    have := List.idxOf_lt_length_of_mem (h3 e0 he0)
    simp only [renE]; omega
  · induction w with
    | nil =>
      intro k q hk
      have h0 := ho.rg q (List.mem_of_getElem? hk)
      have := (hrow k q hk).1
      simp [lgT, runT, fin, this, h0.1]
    | cons c w ih =>
      intro k q hk
      have h0 := ho.rg q (List.mem_of_getElem? hk)
      obtain ⟨h1, h2, h3⟩ := hrow k q hk
      show lgT l' (stT l' (k : Nat) c.toNat) w = lgT l (stT l q c.toNat) w
      have e1 : stT l' (k : Nat) c.toNat = stepE ((rowT l q).2.map (renE ord)) c.toNat := by unfold stT; rw [if_neg (by omega), h2]
      have e2 : stT l q c.toNat = stepE (rowT l q).2 c.toNat := by unfold stT; rw [if_neg (by omega)]
      rw [e1, e2]
      unfold stepE
      have hmap : ((rowT l q).2.map (renE ord)).find? (inE c.toNat) = ((rowT l q).2.find? (inE c.toNat)).map (renE ord) := by
        rw [List.find?_map]; rfl
      rw [hmap]
      cases hf : (rowT l q).2.find? (inE c.toNat) with
      | none => dsimp only [Option.map]; rw [lgT_neg (by decide), lgT_neg (by decide)]
      | some e =>
        dsimp only [Option.map, renE]
        have hm := h3 e (List.mem_of_find?_eq_some hf)
        have hlt := List.idxOf_lt_length_of_mem hm
        exact ih _ _ (by rw [List.getElem?_eq_getElem hlt, List.getElem_idxOf hlt])
theorem idxOf_first {ord : List Int} {x : Int} {i : Nat} (h1 : ∀ j (_ : j < i) (hj : j < ord.length), ord[j] ≠ x) (h2 : i ≤ ord.length) (h3 : ∀ h : i < ord.length, ord[i] = x) : ord.idxOf x = i := by
  rcases Nat.lt_or_ge i ord.length with h | h
  · have hm : x ∈ ord := h3 h ▸ List.getElem_mem h
    have hlt := List.idxOf_lt_length_of_mem hm
    have hg := List.getElem_idxOf hlt
    rcases Nat.lt_trichotomy (ord.idxOf x) i with h4 | h4 | h4
    · exact absurd hg (h1 _ h4 hlt)
    · exact h4
    · exfalso
      have := List.not_of_lt_findIdx (p := fun y => y == x) (xs := ord) (i := i) (by simpa [List.idxOf] using h4)
      simp [h3 h] at this
  · have hm : x ∉ ord := fun hm => by
      obtain ⟨j, hj, e⟩ := List.getElem_of_mem hm
      exact h1 j (by omega) hj e
    rw [List.idxOf_eq_length hm]; omega
def putO (ord : List Int) (x : Int) : List Int := if x ∈ ord then ord else ord ++ [x]
theorem putO_mem (ord : List Int) (x : Int) : x ∈ putO ord x := by unfold putO; split <;> simp_all
theorem putO_ix (ord : List Int) (x : Int) : (putO ord x).idxOf x = ord.idxOf x := by
  unfold putO; split
  · rfl
  · rename_i h; rw [List.idxOf_append, if_neg h, List.idxOf_eq_length h]; simp
def ExtO (a b : List Int) : Prop := ∃ m, b = a ++ m
theorem ExtO.refl (a : List Int) : ExtO a a := ⟨[], by simp⟩
theorem ExtO.trans {a b c : List Int} (h : ExtO a b) (k : ExtO b c) : ExtO a c := by obtain ⟨x, rfl⟩ := h; obtain ⟨y, rfl⟩ := k; exact ⟨x ++ y, by simp⟩
theorem ExtO.put (a : List Int) (x : Int) : ExtO a (putO a x) := by unfold putO; split; exact .refl a; exact ⟨[x], rfl⟩
theorem ExtO.mem {a b : List Int} (h : ExtO a b) {x : Int} (hx : x ∈ a) : x ∈ b := by obtain ⟨m, rfl⟩ := h; simp [hx]
theorem ExtO.ix {a b : List Int} (h : ExtO a b) {x : Int} (hx : x ∈ a) : b.idxOf x = a.idxOf x := by obtain ⟨m, rfl⟩ := h; rw [List.idxOf_append, if_pos hx]
theorem ExtO.get {a b : List Int} (h : ExtO a b) {i : Nat} {x : Int} (hx : a[i]? = some x) : b[i]? = some x := by
  obtain ⟨m, rfl⟩ := h; rw [List.getElem?_append_left (List.getElem?_eq_some_iff.1 hx).1]; exact hx
theorem ExtO.len {a b : List Int} (h : ExtO a b) : a.length ≤ b.length := by obtain ⟨m, rfl⟩ := h; simp
theorem RowIs.ext {l : Tb} {a b : List Int} {q : Int} {s : StI} (h : RowIs l a q s) (he : ExtO a b) : RowIs l b q s := by
  obtain ⟨h1, h2, h3⟩ := h
  refine ⟨h1, ?_, fun e hm => he.mem (h3 e hm)⟩
  rw [h2]
  refine List.map_congr_left fun e hm => ?_
  simp only [renE, he.ix (h3 e hm)]
theorem Ren.put {l : Tb} {ord : List Int} (h : Ren l ord) {x : Int} (h0 : 0 ≤ x) (h1 : x < l.length) : Ren l (putO ord x) := by
  unfold putO; split
  · exact h
  · rename_i hx
    refine ⟨List.nodup_append.2 ⟨h.nd, by simp, fun a ha b hb => ?_⟩, fun q hq => ?_⟩
    · simp at hb; subst hb; rintro rfl; exact hx ha
    · rcases List.mem_append.1 hq with hq | hq
      · exact h.rg q hq
      · simp at hq; subst hq; exact ⟨h0, h1⟩
theorem Ren.le {l : Tb} {ord : List Int} (h : Ren l ord) : ord.length ≤ l.length := by
  have h1 : (ord.map Int.toNat).Nodup := by
    refine List.pairwise_map.2 (List.Pairwise.imp_of_mem (fun {a b} ha hb hab => ?_) h.nd)
    have := h.rg a ha; have := h.rg b hb; omega
  have := nodup_le' (b := List.range l.length) h1 (fun x hx => by
    obtain ⟨q, hq, rfl⟩ := List.mem_map.1 hx
    have := h.rg q hq
    exact List.mem_range.2 (by omega))
  simpa using this
theorem reached5_ok {l : Tb} {n fu : Nat} (hw : WfT l) (h0 : 0 < l.length) (hs : ShT l n) (hn : n < 4294967296) (hf : n + 1 < fu) :
    Ok (r05_reached fu l) (fun r => WfT r ∧ lgT r 0 = lgT l 0 ∧ ShT r n ∧ 0 < r.length) := by
  have hln := hs.1
  unfold r05_reached
  refine Ok.loop (X := List Int × Tb × Nat) (fun x => Ren l x.1 ∧ x.1[0]? = some 0 ∧ x.2.2 = x.2.1.length ∧ x.2.1.length ≤ x.1.length ∧ ∀ (k : Nat) (q : Int) (s : StI), x.1[k]? = some q → x.2.1[k]? = some s → RowIs l x.1 q s)
    (fun x => l.length + 1 - x.2.2) ⟨⟨by simp, by simp; omega⟩, rfl, rfl, by simp, by simp⟩ (by simp only; omega) fun x nx hI _ hnx => ?_
  obtain ⟨ord, out, k⟩ := x
  obtain ⟨hR, hz, hk, hle, hrows⟩ := hI
  dsimp only at hR hz hk hle hrows
  subst hk
  have hol := hR.le
  unfold r05_reached_b13; dsimp only
  refine Ok.ite (fun hlt => ?_) fun hlt => Ok.some ?_
  · have hko : out.length < ord.length := by omega
    have hq := hR.rg _ (List.getElem_mem hko)
    have hrow := rowT_get hq.1 hq.2
    have hm : rowT l ord[out.length] ∈ l := hrow ▸ List.getElem_mem _
    have hE := hw _ hm
    have hsl := hs.2 _ hm
    refine Ok.idxN hko (Ok.idxI hq.1 hq.2 (Ok.idxN hko (Ok.idxI hq.1 hq.2 ?_)))
    rw [← hrow]
    generalize hst : rowT l ord[out.length] = st at hm hE hsl
    refine Ok.range2 (fun j o es => Ren l o ∧ ExtO ord o ∧ es = (st.2.take j).map (renE o) ∧ ∀ e ∈ st.2.take j, e.2.2 ∈ o) st.2.length ⟨hR, .refl _, by simp, by simp⟩ (by omega) (fun j o es nx' hj hJ hn' => ?_) (fun o es nx' hJ => ?_)
    · obtain ⟨hRo, hext, rfl, hmem⟩ := hJ
      unfold r05_reached_b18; dsimp only
      have hr := hE.rg _ (List.getElem_mem hj)
      have hrl := hRo.le
      refine Ok.iT (by omega) (Ok.idxN hj ?_)
      have hgo : Ok (nx' (putO o st.2[j].2.2, (st.2.take j).map (renE o) ++ ([(st.2[j].1, st.2[j].2.1, ((o.idxOf st.2[j].2.2 : Nat) : Int))] : List (Int × Int × Int)), j + 1)) (fun r => WfT r ∧ lgT r 0 = lgT l 0 ∧ ShT r n ∧ 0 < r.length) := by
        refine hn' _ _ ⟨hRo.put hr.2.2.2.1 hr.2.2.2.2, hext.trans (.put _ _), ?_, fun e he => ?_⟩
        · rw [← List.take_append_getElem hj, List.map_append]
          congr 1
          · refine List.map_congr_left fun e he => ?_
            simp only [renE, (ExtO.put o st.2[j].2.2).ix (hmem e he)]
          · simp only [List.map_cons, List.map_nil, renE, putO_ix]
        · rcases (mem_take_succ hj).1 he with h | rfl
          · exact (ExtO.put _ _).mem (hmem e h)
          · exact putO_mem _ _
      refine Ok.loop (X := Int) (fun i => (0 ≤ i ∧ i ≤ o.length) ∧ ∀ q (_ : q < i.toNat) (hq : q < o.length), o[q] ≠ st.2[j].2.2) (fun i => o.length - i.toNat) ⟨⟨by decide, by omega⟩, fun q h => by simp at h⟩ (by simp; omega) fun i nx2 hI _ hn2 => ?_
      obtain ⟨⟨hi0, hi1⟩, hno⟩ := hI
      unfold r05_reached_b19
      have hcap : ((st.2.take j).map (renE o)).length + ([(st.2[j].1, st.2[j].2.1, i)] : List (Int × Int × Int)).length ≤ capN := by
        simp only [List.length_map, List.length_take, List.length_cons, List.length_nil]; unfold capN; omega
      refine Ok.ite (fun hi => ?_) fun hi => ?_
      · have hio : i.toNat < o.length := by omega
        refine Ok.idxI hi0 hi (Ok.ite (fun hne => Ok.chk (by unfold F64; omega) (hn2 (i + 1) ⟨by omega, fun q h1 h2 => ?_⟩ (by omega))) fun heq => ?_)
        · rcases Nat.lt_or_ge q i.toNat with h3 | h3
          · exact hno q h3 h2
          · obtain rfl : q = i.toNat := by omega
            exact hne
        · have heq : o[i.toNat] = st.2[j].2.2 := Classical.byContradiction heq
          have hix : o.idxOf st.2[j].2.2 = i.toNat := idxOf_first hno (by omega) fun _ => heq
          have hin : st.2[j].2.2 ∈ o := heq ▸ List.getElem_mem hio
          refine Ok.iF (by omega) ?_
          unfold r05_reached_j20
          refine Ok.chk hcap ?_
          rw [hix, Int.toNat_of_nonneg hi0] at hgo
          unfold putO at hgo; rw [if_pos hin] at hgo; exact hgo
      · have hio : i.toNat = o.length := by omega
        have hin : st.2[j].2.2 ∉ o := fun hm => by
          obtain ⟨q, hq, e⟩ := List.getElem_of_mem hm
          exact hno q (by omega) hq e
        have hix : o.idxOf st.2[j].2.2 = i.toNat := by rw [List.idxOf_eq_length hin, hio]
        refine Ok.iT (by omega) (Ok.chk (by simp; unfold capN; omega) ?_)
        unfold r05_reached_j21
        refine Ok.chk hcap ?_
        rw [hix, Int.toNat_of_nonneg hi0] at hgo
        unfold putO at hgo; rw [if_neg hin] at hgo; exact hgo
    · obtain ⟨hRo, hext, rfl, hmem⟩ := hJ
      unfold r05_reached_b18; dsimp only
      rw [take_full] at hmem
      have := hext.len
      refine Ok.iF (by omega) (Ok.chk (by simp; unfold capN; omega) (hnx _ ⟨hRo, hext.get hz, by simp, by simp; omega, fun k q s hk hs' => ?_⟩ (by dsimp only; omega)))
      by_cases hkl : k < out.length
      · rw [List.getElem?_append_left hkl] at hs'
        have hk' : ord[k]? = some ord[k] := List.getElem?_eq_getElem (by omega)
        have hk2 := hext.get hk'
        rw [hk] at hk2
        obtain rfl : q = ord[k] := by simpa using hk2
        exact (hrows k _ s hk' hs').ext hext
      · rw [List.getElem?_append_right (by omega)] at hs'
        have hkl' : k = out.length := by
          have := (List.getElem?_eq_some_iff.1 hs').1; simp at this; omega
        subst hkl'
        simp at hs'; subst hs'
        have hk2 := hext.get (List.getElem?_eq_getElem hko)
        rw [hk] at hk2
        obtain rfl : q = ord[out.length] := by simpa using hk2
        refine ⟨by rw [hst], by rw [hst, take_full], by rw [hst]; exact hmem⟩
  · have hl : out.length = ord.length := by omega
    obtain ⟨h1, h2⟩ := ren_lg hw hR hl hrows
    have hpos := (List.getElem?_eq_some_iff.1 hz).1
    refine ⟨h1, funext fun w => h2 w 0 0 hz, ⟨by omega, fun s hs' => ?_⟩, by omega⟩
    obtain ⟨k, hk, rfl⟩ := List.getElem_of_mem hs'
    have hq : ord[k]? = some ord[k] := List.getElem?_eq_getElem (by omega)
    have hrow := (hrows k _ _ hq (List.getElem?_eq_getElem hk)).2.1
    have hqr := hR.rg _ (List.mem_of_getElem? hq)
    rw [hrow, List.length_map, rowT_get hqr.1 hqr.2]
    exact hs.2 _ (List.getElem_mem _)
end Go.GL
namespace Go.GL
open Go.GK
theorem sameInts_ok {a b : List Int} {fu : Nat} (hf : a.length < fu) : Ok (r05_sameInts fu a b) (fun r => r = true ↔ a = b) := by
  unfold r05_sameInts
  refine Ok.ite (fun h => Ok.some ⟨fun h => (by cases h), fun h' => by subst h'; exact absurd rfl h⟩) fun h => ?_
  have hl : a.length = b.length := by omega
  refine Ok.count (fun k => ∀ j (_ : j < k) (h : j < a.length) (h' : j < b.length), a[j] = b[j]) a.length (by intro j h; omega) hf (fun k nx hk hJ hn => ?_) (fun nx hJ => ?_)
  · unfold r05_sameInts_b1
    refine Ok.iT (by omega) (Ok.idxN hk (Ok.idxN (by omega) (Ok.ite (fun h => Ok.some ⟨fun h => (by cases h), fun h' => by subst h'; exact absurd rfl h⟩) fun h => hn fun j hj h1 h2 => ?_)))
    rcases Nat.lt_or_ge j k with h3 | h3
    · exact hJ j h3 h1 h2
    · obtain rfl : j = k := by omega
      exact Classical.byContradiction h
  · unfold r05_sameInts_b1
    exact Ok.iF (by omega) (Ok.some ⟨fun _ => ext_take hl fun j h h' => hJ j h h h', fun _ => rfl⟩)
theorem idxOf_at {α : Type} [BEq α] [LawfulBEq α] {ord : List α} {x : α} {i : Nat} (h1 : ∀ j (_ : j < i) (hj : j < ord.length), ord[j] ≠ x) (hi : i < ord.length) (h3 : ord[i] = x) : ord.idxOf x = i := by
  have hm : x ∈ ord := h3 ▸ List.getElem_mem hi
  have hlt := List.idxOf_lt_length_of_mem hm
  have hg := List.getElem_idxOf hlt
  rcases Nat.lt_trichotomy (ord.idxOf x) i with h4 | h4 | h4
  · exact absurd hg (h1 _ h4 hlt)
  · exact h4
  · exfalso
    have := List.not_of_lt_findIdx (p := fun y => y == x) (xs := ord) (i := i) (by simpa [List.idxOf] using h4)
    simp [h3] at this
theorem find5_ok {l : List (List Int)} {x : List Int} {fu m : Nat} (hf : l.length < fu) (hm : ∀ y ∈ l, y.length ≤ m) (hmf : m < fu) : Ok (r05_find fu l x) (fun r => if x ∈ l then r = (l.idxOf x : Nat) else r = -1) := by
  unfold r05_find
  refine Ok.count (fun k => ∀ j (_ : j < k) (h : j < l.length), l[j] ≠ x) l.length (by intro j h; omega) hf (fun k nx hk hJ hn => ?_) (fun nx hJ => ?_)
  · unfold r05_find_b1
    refine Ok.iT (by omega) (Ok.idxN hk (Ok.bnd (sameInts_ok (by have := hm _ (List.getElem_mem hk); omega)) fun r hr => Ok.bif (fun h => Ok.some ?_) fun h => hn fun j hj h1 => ?_))
    · have he := hr.1 h
      rw [if_pos (he ▸ List.getElem_mem hk), idxOf_at hJ hk he]
    · rcases Nat.lt_or_ge j k with h3 | h3
      · exact hJ j h3 h1
      · obtain rfl : j = k := by omega
        intro he; rw [hr.2 he] at h; cases h
  · unfold r05_find_b1
    refine Ok.iF (by omega) (Ok.some ?_)
    rw [if_neg fun hx => ?_]
    obtain ⟨j, hj, e⟩ := List.getElem_of_mem hx
    exact hJ j hj hj e
def Trim (l : Tb) : Prop := ∀ (q : Int) (b : Nat), 0 ≤ stT l q b → live (lgT l (stT l q b)) = true
def c5 (c : Nat → Int) (t : Int) : Int := if t < 0 then t else c t.toNat
def key5 (l : Tb) (cs : List Int) (c : Nat → Int) (s : Nat) : List Int := c s :: cs.map fun b => c5 c (stT l (s : Nat) b.toNat)
structure Cl5B (l : Tb) (c : Nat → Int) : Prop where
  rg : ∀ s, s < l.length → 0 ≤ c s
structure Cl5Ok (l : Tb) (c : Nat → Int) : Prop where
  iff : ∀ s t, s < l.length → t < l.length → (c s = c t ↔ lgT l (s : Nat) = lgT l (t : Nat))
theorem key5_inj {l : Tb} {cs : List Int} {c : Nat → Int} {s t : Nat} : key5 l cs c s = key5 l cs c t ↔ c s = c t ∧ ∀ b ∈ cs, c5 c (stT l (s : Nat) b.toNat) = c5 c (stT l (t : Nat) b.toNat) := by
  unfold key5
  rw [List.cons.injEq]
  constructor
  · rintro ⟨h1, h2⟩
    exact ⟨h1, fun b hb => by
      obtain ⟨i, hi, rfl⟩ := List.getElem_of_mem hb
      have := congrArg (·[i]?) h2
      simpa [hi] using this⟩
  · rintro ⟨h1, h2⟩; exact ⟨h1, List.map_congr_left h2⟩
theorem lg_cong5 {l : Tb} (hw : WfT l) {cs : List Int} (hc : CutOk cs) (hf : CutFor cs l) (c : Nat → Int) (hB : Cl5B l c)
    (h1 : ∀ s t, s < l.length → t < l.length → c s = c t → (rowT l (s : Nat)).1 = (rowT l (t : Nat)).1)
    (h2 : ∀ s t, s < l.length → t < l.length → c s = c t → ∀ b ∈ cs, c5 c (stT l (s : Nat) b.toNat) = c5 c (stT l (t : Nat) b.toNat)) :
    ∀ (w : List UInt8) (s t : Nat), s < l.length → t < l.length → c s = c t → lgT l (s : Nat) w = lgT l (t : Nat) w
  | [], s, t, hs, ht, h => by simp [lgT, runT, fin, h1 s t hs ht h]
  | b :: w, s, t, hs, ht, h => by
    obtain ⟨i, hi, g1, g2⟩ := hc.find b.toNat b.toNat_lt
    have e : ∀ q : Nat, lgT l (q : Nat) (b :: w) = lgT l (stT l (q : Nat) cs[i].toNat) w := fun q => by
      show lgT l (stT l (q : Nat) b.toNat) w = _
      rw [hf.const hc hw hi g1 g2]
    have hk := h2 s t hs ht h _ (List.getElem_mem hi)
    have r1 := hw.st (s : Nat) cs[i].toNat
    have r2 := hw.st (t : Nat) cs[i].toNat
    rw [e, e]
    unfold c5 at hk
    by_cases n1 : stT l (s : Nat) cs[i].toNat < 0
    · by_cases n2 : stT l (t : Nat) cs[i].toNat < 0
      · rw [lgT_neg n1, lgT_neg n2]
      · rw [if_pos n1, if_neg n2] at hk
        have := hB.rg (stT l (t : Nat) cs[i].toNat).toNat (by omega)
        omega
    · by_cases n2 : stT l (t : Nat) cs[i].toNat < 0
      · rw [if_neg n1, if_pos n2] at hk
        have := hB.rg (stT l (s : Nat) cs[i].toNat).toNat (by omega)
        omega
      · rw [if_neg n1, if_neg n2] at hk
        have := lg_cong5 hw hc hf c hB h1 h2 w _ _ (by omega) (by omega) hk
        rwa [Int.toNat_of_nonneg (by omega), Int.toNat_of_nonneg (by omega)] at this
theorem key5_fwd {l : Tb} (hw : WfT l) (ht : Trim l) {cs : List Int} (hc : CutOk cs) {c : Nat → Int} (hfw : ∀ s t, s < l.length → t < l.length → lgT l (s : Nat) = lgT l (t : Nat) → c s = c t) {s t : Nat} (hs : s < l.length) (htl : t < l.length) (h : lgT l (s : Nat) = lgT l (t : Nat)) :
    key5 l cs c s = key5 l cs c t := by
  refine key5_inj.2 ⟨hfw s t hs htl h, fun b hb => ?_⟩
  have hr := hc.rg b hb
  have r1 := hw.st (s : Nat) b.toNat
  have r2 := hw.st (t : Nat) b.toNat
  have hd : lgT l (stT l (s : Nat) b.toNat) = lgT l (stT l (t : Nat) b.toNat) := by rw [← der_lgT _ _ _ (by omega), ← der_lgT _ _ _ (by omega), h]
  unfold c5
  by_cases n1 : stT l (s : Nat) b.toNat < 0
  · by_cases n2 : stT l (t : Nat) b.toNat < 0
    · rw [if_pos n1, if_pos n2]; omega
    · have := ht (t : Nat) b.toNat (by omega)
      rw [← hd, live_neg n1] at this; cases this
  · by_cases n2 : stT l (t : Nat) b.toNat < 0
    · have := ht (s : Nat) b.toNat (by omega)
      rw [hd, live_neg n2] at this; cases this
    · rw [if_neg n1, if_neg n2]
      refine hfw _ _ (by omega) (by omega) ?_
      rw [Int.toNat_of_nonneg (by omega), Int.toNat_of_nonneg (by omega), hd]
theorem Vals.inj {α : Type} {n : Nat} {f : Nat → α} {u : List α} (h : Vals n f u) (he : n ≤ u.length) : ∀ s t, s < n → t < n → f s = f t → s = t := fun s t hs ht hf => by
  have hv : Vals n (fun i => i) (List.range n) := ⟨List.nodup_range, fun x => by simp⟩
  have := (h.fine hv (fun s t _ _ e => by rw [e])).2 (by have := h.le; simp; omega) s t hs ht hf
  exact this
structure Ref5 (l : Tb) (k r : Nat) (c : Nat → Int) : Prop extends Cl5B l c where
  fwd : ∀ s t, s < l.length → t < l.length → lgT l (s : Nat) = lgT l (t : Nat) → c s = c t
  acc : ∀ s t, s < l.length → t < l.length → c s = c t → (rowT l (s : Nat)).1 = (rowT l (t : Nat)).1
  cnt : k = 0 ∨ ∃ (key : Nat → List Int) (u : List (List Int)), Vals l.length key u ∧ u.length = k ∧ ∀ s t, s < l.length → t < l.length → c s = c t → key s = key t
  rnd : r ≤ k
theorem classes5_ok {l : Tb} {cs : List Int} {n fu : Nat} (hw : WfT l) (htr : Trim l) (h0 : 0 < l.length) (hc : CutOk cs) (hf : CutFor cs l) (hs : ShT l n) (hn : n < 4294967296) (hfu : n + 2 < fu) (hfu' : 257 < fu) :
    Ok (r05_classes fu l cs) (fun r => ∃ c, Cl5Ok l c ∧ r = tab l.length c) := by
  have hln := hs.1
  have hcl := hc.le
  have hrow : ∀ k (hk : k < l.length), rowT l (k : Nat) = l[k] := fun k hk => rowT_get (by omega) (by omega)
  unfold r05_classes
  refine Ok.chk (by unfold capN; omega) ?_
  rw [tab_rep]
  refine Ok.range (fun k x => x = tab l.length (fun s => if s < k then (if (rowT l (s : Nat)).1 then 1 else 0) else 0)) l.length (by simp) (by omega) (fun k x nx hk hx hnx => ?_) (fun x nx hx => ?_)
  · subst hx
    unfold r05_classes_b1; dsimp only
    refine Ok.iT (by omega) (Ok.idxN hk (Ok.bif (fun h => Ok.bndE (idx_tab hk) (hnx _ ?_)) fun h => hnx _ (tab_congr fun s hs => ?_)))
    · rw [tab_set]
      refine tab_congr fun s hs => ?_
      by_cases h1 : s = k
      · subst h1; simp [h, hrow s hk]
      · rw [if_neg h1]
        by_cases h2 : s < k
        · simp [h2, show s < k + 1 by omega]
        · simp [h2, show ¬ s < k + 1 by omega]
    · by_cases h1 : s = k
      · subst h1; simp [h, hrow s hk]
      · by_cases h2 : s < k
        · simp [h2, show s < k + 1 by omega]
        · simp [h2, show ¬ s < k + 1 by omega]
  · subst hx
    unfold r05_classes_b1; dsimp only
    refine Ok.iF (by omega) ?_
    refine Ok.range2 (S := List Int) (T := Nat) (fun r cl k => k ≤ l.length ∧ ∃ c, cl = tab l.length c ∧ Ref5 l k r c) l.length ⟨by omega, _, rfl, ⟨fun s hs => ?_⟩, fun s t hs ht h => ?_, fun s t hs ht h => ?_, .inl rfl, Nat.le_refl _⟩ (by omega) (fun r cl k nx' hr hI hnx => ?_) (fun cl k nx' hI => ?_)
    · rw [if_pos hs]; cases (rowT l (s : Nat)).1 <;> simp
    · rw [if_pos hs, if_pos ht]
      have := congrFun h []
      simp [lgT, runT, fin] at this
      rw [this]
    · simp only [hs, ht, if_true] at h
      cases h1 : (rowT l (s : Nat)).1 <;> cases h2 : (rowT l (t : Nat)).1 <;> simp [h1, h2] at h ⊢
    · obtain ⟨hkl, c, rfl, hI⟩ := hI
      unfold r05_classes_b26; dsimp only
      refine Ok.iT (by omega) (Ok.chk (by unfold capN; omega) ?_)
      rw [tab_rep]
      refine Ok.range2 (fun j y u => Vals j (key5 l cs c) u ∧ (∀ x ∈ u, x.length = cs.length + 1) ∧ y = tab l.length (fun s => if s < j then ((u.idxOf (key5 l cs c s) : Nat) : Int) else 0)) l.length ⟨.zero _, by simp, by simp⟩ (by omega) (fun j y u nx2 hj hJ hn2 => ?_) (fun y u nx2 hJ => ?_)
      · obtain ⟨hu, hul, rfl⟩ := hJ
        have hule := hu.le
        unfold r05_classes_b35; dsimp only
        refine Ok.iT (by omega) (Ok.bndE (idx_tab hj) ?_)
        refine Ok.range (fun i x => x = c j :: (cs.take i).map fun b => c5 c (stT l (j : Nat) b.toNat)) cs.length (by simp) (by omega) (fun i x nx3 hi hx hn3 => ?_) (fun x nx3 hx => ?_)
        · subst hx
          unfold r05_classes_b38; dsimp only
          have hci := hc.rg _ (List.getElem_mem hi)
          have hst := hw.st (j : Nat) cs[i].toNat
          have hgo : Ok (r05_classes_j39 fu (c j :: (cs.take i).map fun b => c5 c (stT l (j : Nat) b.toNat)) i nx3 (c5 c (stT l (j : Nat) cs[i].toNat))) (fun r => ∃ c, Cl5Ok l c ∧ r = tab l.length c) := by
            unfold r05_classes_j39
            refine Ok.chk (by simp; unfold capN; omega) (hn3 _ ?_)
            rw [← List.take_append_getElem hi, List.map_append]; rfl
          refine Ok.iT (by omega) (Ok.idxN hi (Ok.chk (by unfold F8; omega) (Ok.bnd (Q := fun r => r = stT l (j : Nat) cs[i].toNat) ?_ fun a ha => ?_)))
          · have hstep := step_ok (b := cs[i].toNat) (i := (j : Int)) hs (by omega : n < fu) (by omega)
            rwa [Int.toNat_of_nonneg hci.1] at hstep
          · subst ha
            refine Ok.ite (fun h => Ok.bndE (idx_tabI h (by omega)) ?_) fun h => ?_
            · unfold c5 at hgo; rw [if_neg (by omega)] at hgo; exact hgo
            · unfold c5 at hgo; rw [if_pos (by omega)] at hgo; exact hgo
        · subst hx
          unfold r05_classes_b38; dsimp only
          rw [take_full]
          refine Ok.iF (by omega) (Ok.bnd (find5_ok (m := cs.length + 1) (by omega) (fun y hy => by rw [hul y hy]; exact Nat.le_refl _) (by omega)) fun a ha => ?_)
          have hkey : (c j :: cs.map fun b => c5 c (stT l (j : Nat) b.toNat)) = key5 l cs c j := rfl
          rw [hkey] at ha ⊢
          refine Ok.ite (fun h => ?_) fun h => ?_
          · have hnu : key5 l cs c j ∉ u := fun hm => by rw [if_pos hm] at ha; omega
            refine Ok.chk (by simp; unfold capN; omega) ?_
            unfold r05_classes_j40
            refine Ok.bndE (idx_tab hj) (hn2 _ _ ⟨hu.new hnu, fun x hx => ?_, ?_⟩)
            · rcases List.mem_append.1 hx with hx | hx
              · exact hul x hx
              · simp at hx; subst hx; simp [key5]
            · rw [tab_set]
              refine tab_congr fun s hs => ?_
              by_cases h1 : s = j
              · subst h1; rw [if_pos rfl, if_pos (by omega), List.idxOf_append, if_neg hnu]; simp
              · rw [if_neg h1]
                by_cases h2 : s < j
                · rw [if_pos h2, if_pos (by omega), List.idxOf_append, if_pos ((hu.mem _).2 ⟨s, h2, rfl⟩)]
                · rw [if_neg h2, if_neg (by omega)]
          · have hnu : key5 l cs c j ∈ u := Classical.byContradiction fun hm => by rw [if_neg hm] at ha; omega
            rw [if_pos hnu] at ha
            unfold r05_classes_j40
            refine Ok.bndE (idx_tab hj) (hn2 _ _ ⟨hu.old hnu, hul, ?_⟩)
            rw [tab_set, ha]
            refine tab_congr fun s hs => ?_
            by_cases h1 : s = j
            · subst h1; rw [if_pos rfl, if_pos (by omega)]
            · rw [if_neg h1]
              by_cases h2 : s < j
              · rw [if_pos h2, if_pos (by omega)]
              · rw [if_neg h2, if_neg (by omega)]
      · obtain ⟨hu, hul, rfl⟩ := hJ
        have hule := hu.le
        have hmem : ∀ s, s < l.length → key5 l cs c s ∈ u := fun s hs => (hu.mem _).2 ⟨s, hs, rfl⟩
        have hpos : 0 < u.length := List.length_pos_of_mem (hmem 0 h0)
        unfold r05_classes_b35; dsimp only
        have hcl2 : tab l.length (fun s => if s < l.length then ((u.idxOf (key5 l cs c s) : Nat) : Int) else 0) = tab l.length (fun s => ((u.idxOf (key5 l cs c s) : Nat) : Int)) :=
          tab_congr fun s hs => by rw [if_pos hs]
        rw [hcl2]
        have hiff : ∀ s t, s < l.length → t < l.length → (((u.idxOf (key5 l cs c s) : Nat) : Int) = ((u.idxOf (key5 l cs c t) : Nat) : Int) ↔ key5 l cs c s = key5 l cs c t) := fun s t hs ht =>
          ⟨fun h => idxOf_inj (hmem s hs) (hmem t ht) (Int.ofNat_inj.1 h), fun h => by rw [h]⟩
        have hfw : ∀ s t, s < l.length → t < l.length → lgT l (s : Nat) = lgT l (t : Nat) → key5 l cs c s = key5 l cs c t := fun s t hs ht h => key5_fwd hw htr hc hI.fwd hs ht h
        refine Ok.iF (by omega) (Ok.ite (fun h => Ok.some ⟨fun s => ((u.idxOf (key5 l cs c s) : Nat) : Int), ⟨fun s t hs ht => ?_⟩, rfl⟩) fun h => ?_)
        · rw [hiff s t hs ht]
          refine ⟨fun he => ?_, hfw s t hs ht⟩
          have hk' : u.length = k := by omega
          obtain ⟨key, v, hv, hvl, hck⟩ := hI.cnt.resolve_left (by omega)
          have hfin := (hv.fine hu (fun s t hs ht h => hck s t hs ht (key5_inj.1 h).1)).2 (by omega)
          funext w
          exact lg_cong5 hw hc hf c hI.toCl5B (fun s t hs ht h => hI.acc s t hs ht h) (fun s t hs ht h => (key5_inj.1 (hfin s t hs ht (hck s t hs ht h))).2) w s t hs ht (key5_inj.1 he).1
        · have hlt : k < u.length := by
            rcases hI.cnt with h0 | ⟨key, v, hv, hvl, hck⟩
            · omega
            · have := (hv.fine hu (fun s t hs ht h => hck s t hs ht (key5_inj.1 h).1)).1
              omega
          have := hI.rnd
          exact hnx _ _ ⟨hule, _, rfl, ⟨⟨fun s hs => by omega⟩, fun s t hs ht h => (hiff s t hs ht).2 (hfw s t hs ht h), fun s t hs ht h => hI.acc s t hs ht (key5_inj.1 ((hiff s t hs ht).1 h)).1, .inr ⟨key5 l cs c, u, hu, rfl, fun s t hs ht h => (hiff s t hs ht).1 h⟩, by omega⟩⟩
    · obtain ⟨hkl, c, rfl, hI⟩ := hI
      unfold r05_classes_b26; dsimp only
      refine Ok.iF (by omega) (Ok.some ⟨c, ⟨fun s t hs ht => ⟨fun h => ?_, hI.fwd s t hs ht⟩⟩, rfl⟩)
      have := hI.rnd
      obtain ⟨key, v, hv, hvl, hck⟩ := hI.cnt.resolve_left (by omega)
      rw [hv.inj (by omega) s t hs ht (hck s t hs ht h)]
end Go.GL
namespace Go.GL
open Go.GK
theorem EdOk.len {es : List EdI} {m n : Nat} (h : EdOk es m n) : es.length ≤ m := by
  have h1 : (es.map fun e => e.1.toNat).Nodup := by
    refine List.pairwise_map.2 ?_
    refine List.Pairwise.imp_of_mem (fun {a b} ha hb hab => ?_) h.so
    have := h.rg a ha; have := h.rg b hb; omega
  have := nodup_le' (b := List.range m) h1 (fun x hx => by
    obtain ⟨c, hc, rfl⟩ := List.mem_map.1 hx
    have := h.rg c hc
    exact List.mem_range.2 (by omega))
  simpa using this
theorem WfT.sh {l : Tb} (h : WfT l) {n : Nat} (hn : l.length ≤ n) (hn' : 256 ≤ n) : ShT l n := ⟨hn, fun s hs => by have := (h s hs).len; omega⟩
theorem canT_sh {l : Tb} (h : WfT l) {n : Nat} (hn : l.length ≤ n) (hn' : 256 ≤ n) : ShT (canT l) n := (canT_wf h).sh (by have := canT_le h; omega) hn'
end Go.GL
namespace Go.GL
open Go.GK
set_option maxRecDepth 100000
theorem alive_at (n : Nat) : w05_alive (n + 2000) = some true := by kernel_rfl
end Go.GL
namespace Go.GL
open Go.GK
theorem alive_ok {fu : Nat} (h : 2000 ≤ fu) : Ok (w05_alive fu) (fun r => r = true) := by
  obtain ⟨n, rfl⟩ : ∃ n, fu = n + 2000 := ⟨fu - 2000, by omega⟩
  exact Ok.of_eq (alive_at n) rfl
theorem Ok.alive {fu : Nat} (h : 2000 ≤ fu) : Ok (GK.bnd (w05_alive fu) fun x => Option.some x) (fun r => r = true) := Ok.bnd (alive_ok h) fun _ h => Ok.some h
theorem ShT.mono {l : Tb} {m n : Nat} (h : ShT l m) (hn : m ≤ n) : ShT l n := ⟨by have := h.1; omega, fun s hs => by have := h.2 s hs; omega⟩
theorem notT {b : Bool} (h : (!b) = false) : b = true := by cases b <;> simp at h ⊢
theorem byT_of {H : Hp} {l : Tb} {v : Value} (h : SlD (cP cB (cL (cP cU8 (cP cU8 cI64)))) H l v) : ByT l := by
  intro s hs e he
  obtain ⟨cs, c1, c2, _, _, h2⟩ := h.mem s hs
  obtain ⟨v', _, h3⟩ := h2
  obtain ⟨cs', d1, d2, _, h4, f1, f2, _, h5, _⟩ := h3.mem e he
  exact ⟨h4.2, h5.2⟩
end Go.GL
namespace Go.GL
open Go.GK
theorem ixL_first {kn : List Lg} {D : Lg} {i : Nat} (h1 : ∀ j (_ : j < i) (hj : j < kn.length), kn[j] ≠ D) (h2 : i ≤ kn.length) (h3 : ∀ h : i < kn.length, kn[i] = D) : ixL kn D = i := by
  have hle := ixL_le kn D
  rcases Nat.lt_trichotomy (ixL kn D) i with h4 | h4 | h4
  · have hlt : ixL kn D < kn.length := by omega
    exact absurd (ixL_lt hlt) (h1 _ h4 hlt)
  · exact h4
  · exfalso
    have hi : i < kn.length := by omega
    have := List.not_of_lt_findIdx (p := _) (xs := kn) (i := i) h4
    simp [h3 hi] at this
structure KO5 (l : Tb) (kn : List Lg) (ord : List Int) : Prop extends KnOk (lgs l) kn where
  len : ord.length = kn.length
  ord : ∀ (i : Nat) (q : Int), ord[i]? = some q → (0 ≤ q ∧ q < l.length) ∧ kn[i]? = some (lgT l q)
theorem KO5.put {l : Tb} {kn : List Lg} {ord : List Int} (h : KO5 l kn ord) {q : Int} (h0 : 0 ≤ q) (h1 : q < l.length) (hl : live (lgT l q) = true) (hn : lgT l q ∉ kn) : KO5 l (kn1 kn (lgT l q)) (ord ++ [q]) := by
  have e : kn1 kn (lgT l q) = kn ++ [lgT l q] := by unfold kn1; rw [if_pos (ixL_not hn)]
  refine ⟨h.toKnOk.kn1 (lgs_mem h0 h1) hl, by rw [e]; simp [h.len], fun i x hx => ?_⟩
  rw [e]
  by_cases hi : i < ord.length
  · rw [List.getElem?_append_left hi] at hx
    have := h.ord i x hx
    exact ⟨this.1, by rw [List.getElem?_append_left (by rw [← h.len]; exact hi)]; exact this.2⟩
  · rw [List.getElem?_append_right (by omega)] at hx
    have hi2 : i = ord.length := by
      have := (List.getElem?_eq_some_iff.1 hx).1; simp at this; omega
    subst hi2
    simp at hx; subst hx
    exact ⟨⟨h0, h1⟩, by rw [h.len]; simp⟩
theorem numbered5_ok {l : Tb} {c : Nat → Int} {kn : List Lg} {ord : List Int} {q : Int} {fu : Nat} (hk : Cl5Ok l c) (h : KO5 l kn ord) (h0 : 0 ≤ q) (h1 : q < l.length) (hf : ord.length < fu) :
    Ok (r05_numbered fu ord (tab l.length c) q) (fun r => r = (ixL kn (lgT l q) : Nat)) := by
  have hlen := h.len
  unfold r05_numbered
  refine Ok.count (fun k => ∀ j (_ : j < k) (hj : j < kn.length), kn[j] ≠ lgT l q) ord.length (by intro j h; omega) hf (fun k nx hkl hJ hn => ?_) (fun nx hJ => ?_)
  · unfold r05_numbered_b1
    obtain ⟨⟨hq0, hq1⟩, hK⟩ := h.ord k _ (List.getElem?_eq_getElem hkl)
    have hKg : kn[k]'(by omega) = lgT l ord[k] := by
      rw [List.getElem?_eq_getElem (by omega)] at hK; simpa using hK
    have hiff : c ord[k].toNat = c q.toNat ↔ lgT l ord[k] = lgT l q := by
      have := hk.iff ord[k].toNat q.toNat (by omega) (by omega)
      rwa [Int.toNat_of_nonneg hq0, Int.toNat_of_nonneg h0] at this
    refine Ok.iT (by omega) (Ok.idxN hkl (Ok.bndE (idx_tabI hq0 (by omega)) (Ok.bndE (idx_tabI h0 (by omega)) (Ok.ite (fun he => Ok.some ?_) fun he => hn fun j hj h2 => ?_))))
    · rw [ixL_first hJ (by omega) fun _ => by rw [hKg]; exact hiff.1 he]
    · rcases Nat.lt_or_ge j k with h3 | h3
      · exact hJ j h3 h2
      · obtain rfl : j = k := by omega
        rw [hKg]; exact fun e => he (hiff.2 e)
  · unfold r05_numbered_b1
    refine Ok.iF (by omega) (Ok.some ?_)
    rw [ixL_first hJ (by omega) fun h => by omega]
theorem j20_ok {cs : List Int} {es : List EdI} {i q fu : Nat} {n : Int} {ord : List Int} {nx : (List Int × List EdI × Nat) → Option (Tb × Int)} {P : Tb × Int → Prop}
    (hc : CutOk cs) (hi : i < cs.length) (hE : EdOk es (pos cs i) q) (hel : es.length ≤ 256) (h : Ok (nx (ord, push es cs[i] (hiC cs i) n, i + 1)) P) :
    Ok (r05_Minimal_j20 fu es i nx cs[i] (hiC cs i) n ord) P := by
  have hci := hc.rg _ (List.getElem_mem hi)
  have hh := hc.hi hi
  have hadd : push es cs[i] (hiC cs i) n = es ++ [(cs[i], hiC cs i, n)] → Ok (chk (F8 cs[i]) (chk (F8 (hiC cs i)) (chk (es.length + ([(cs[i], hiC cs i, n)] : List (Int × Int × Int)).length ≤ capN) (nx (ord, es ++ ([(cs[i], hiC cs i, n)] : List (Int × Int × Int)), i + 1))))) P := fun he =>
    Ok.chk (by unfold F8; omega) (Ok.chk (by unfold F8; omega) (Ok.chk (by simp; unfold capN; omega) (by rw [he] at h; exact h)))
  unfold r05_Minimal_j20
  refine Ok.chk (by unfold F64; omega) (Ok.ite (fun h0 => ?_) fun h0 => hadd ?_)
  · have hpos : 0 < es.length := by omega
    have e1 : ((es.length : Int) - 1) = ((es.length - 1 : Nat) : Int) := by omega
    have hll : es.length - 1 < es.length := by omega
    have hr := hE.rg _ (List.getElem_mem hll)
    have hpl := pos_le hc i
    have hps := push_set (lo := cs[i]) (hi := hiC cs i) (n := n) hpos
    rw [e1]
    simp only [Int.toNat_natCast]
    refine Ok.idxN hll (Ok.ite (fun h1 => Ok.idxN hll (Ok.chk (by unfold F64; omega) (Ok.ite (fun h2 => ?_) fun h2 => ?_))) fun h1 => ?_)
    · refine Ok.chk (by unfold F8; omega) (Ok.idxN hll ?_)
      rw [if_pos ⟨h1, h2⟩] at hps
      rw [hps] at h
      rw [h1]; exact h
    · exact hadd (by rw [hps, if_neg (fun hh => h2 hh.2)])
    · exact hadd (by rw [hps, if_neg (fun hh => h1 hh.1)])
  · obtain rfl : es = [] := List.length_eq_zero_iff.1 (by omega)
    rfl
theorem main5_ok {l : Tb} {cs : List Int} {c : Nat → Int} {n fu : Nat} (hw : WfT l) (htr : Trim l) (h0 : 0 < l.length) (hlv : live (lgT l 0) = true) (hc : CutOk cs) (hf : CutFor cs l) (hk : Cl5Ok l c) (hs : ShT l n) (hn : n < 4294967296) (hfu : n + 2 < fu) (hfu' : 257 < fu) :
    Ok (loopK fu (fun p nx => r05_Minimal_b13 fu l cs (tab l.length c) p.1 p.2.1 p.2.2 nx) (([0] : List Int), ([] : Tb), 0)) (fun r => r = (canT l, 0)) := by
  have hcl := hc.le
  have hln := hs.1
  refine Ok.loop (X := List Int × Tb × Nat) (fun x => ∃ kn F, KO5 l kn x.1 ∧ x.2.2 = x.2.1.length ∧ x.2.1.length ≤ kn.length ∧ l.length < F + x.2.1.length ∧ canGo F kn x.2.1 = canT l) (fun x => l.length + 1 - x.2.2)
    ⟨[lgT l 0], l.length + 1, ⟨⟨by simp, by simpa using lgs_mem (i := 0) (by decide) (by omega), by simpa using hlv⟩, rfl, fun i q hq => ?_⟩, rfl, by simp, by simp, by unfold canT canL; rw [if_pos hlv]⟩ (by simp only; omega) fun x nx hI _ hnx => ?_
  · cases i with
    | zero => simp at hq; subst hq; exact ⟨⟨by decide, by omega⟩, rfl⟩
    | succ i => simp at hq
  obtain ⟨ord, out, k⟩ := x
  obtain ⟨kn, F, hKO, hkl, hol, hF, hgo⟩ := hI
  dsimp only at hKO hkl hol hF hgo
  subst hkl
  have hkn : kn.length ≤ l.length := by have := hKO.toKnOk.le; rw [lgs_len] at this; exact this
  have hlen := hKO.len
  unfold r05_Minimal_b13; dsimp only
  refine Ok.ite (fun hlt => ?_) fun hlt => Ok.some ?_
  · have hko : out.length < ord.length := by omega
    have hget : ord[out.length]? = some ord[out.length] := List.getElem?_eq_getElem hko
    obtain ⟨⟨hq0, hq1⟩, hK⟩ := hKO.ord out.length _ hget
    generalize hqe : ord[out.length] = q at hq0 hq1 hK hget
    have hrow := rowT_get hq0 hq1
    obtain ⟨F, rfl⟩ : ∃ F', F = F' + 1 := ⟨F - 1, by omega⟩
    have hKm := List.mem_of_getElem? hK
    refine Ok.bndE (by rw [idx_nat hko, hqe]) (Ok.idxI hq0 hq1 ?_)
    rw [← hrow]
    have hro := fun i hi => rowTo_ok (lgs_clo hw) (hKO.sub _ hKm) hKO.toKnOk (pos cs i) hi
    refine Ok.range2 (fun i o es => ExtO ord o ∧ es = (rowTo (lgT l q) kn (pos cs i)).2 ∧ es.length ≤ i ∧ KO5 l (rowTo (lgT l q) kn (pos cs i)).1 o) cs.length
      (by rw [pos_zero hc]; exact ⟨.refl _, rfl, by simp, hKO⟩) (by omega) (fun i o es nx' hi hJ hnx' => ?_) (fun o es nx' hJ => ?_)
    · obtain ⟨hext, rfl, hesl, hKO'⟩ := hJ
      have hpl := pos_le hc i
      obtain ⟨g1, g2, g3⟩ := hro i hpl
      have hci := hc.rg _ (List.getElem_mem hi)
      have hpa := pos_at hc hi
      have hps := pos_succ hc hi
      have hhi := hc.hi hi
      have hst := hw.st q cs[i].toNat
      have hoq := hext.get hget
      have hD : ∀ b, pos cs i ≤ b → b ≤ (hiC cs i).toNat → der (lgT l q) b = lgT l (stT l q cs[i].toNat) := fun b b1 b2 => by
        rw [lg_const hw hc hf q hi (by omega) (by omega) (by omega), der_lgT _ _ _ (by omega)]
      have hstep : rowTo (lgT l q) kn (pos cs (i + 1)) = rowI (rowTo (lgT l q) kn (pos cs i)) (lgT l (stT l q cs[i].toNat)) (pos cs i) (hiC cs i).toNat := by
        rw [show pos cs (i + 1) = (hiC cs i).toNat + 1 by omega]
        exact rowTo_add _ _ _ _ _ (by omega) hD
      have hstp := step_ok (b := cs[i].toNat) (i := q) hs (by omega : n < fu) hq1
      rw [Int.toNat_of_nonneg hci.1] at hstp
      have hol' := (List.getElem?_eq_some_iff.1 hoq).1
      unfold r05_Minimal_b18; dsimp only
      refine Ok.iT (by omega) (Ok.idxN hi (Ok.bndE (by rw [idx_nat hol']; exact hoq ▸ (List.getElem?_eq_getElem hol').symm) (Ok.chk (by unfold F8; omega) (Ok.bnd hstp fun a ha => ?_))))
      subst ha
      refine Ok.ite (fun hneg => hnx' _ _ ?_) fun hneg => ?_
      · have e : rowTo (lgT l q) kn (pos cs (i + 1)) = rowTo (lgT l q) kn (pos cs i) := by rw [hstep]; unfold rowI; rw [live_neg hneg]; rfl
        rw [e]; exact ⟨hext, rfl, by omega, hKO'⟩
      · have hlive := htr q cs[i].toNat (by omega)
        have hst' : rowTo (lgT l q) kn (pos cs (i + 1)) = (kn1 (rowTo (lgT l q) kn (pos cs i)).1 (lgT l (stT l q cs[i].toNat)), push (rowTo (lgT l q) kn (pos cs i)).2 cs[i] (hiC cs i) (ixL (rowTo (lgT l q) kn (pos cs i)).1 (lgT l (stT l q cs[i].toNat)) : Nat)) := by
          rw [hstep]; unfold rowI; rw [if_pos hlive, hpa, Int.toNat_of_nonneg (by omega)]
        have hkl' := g2.le
        rw [lgs_len] at hkl'
        have hlen' := hKO'.len
        have hpush := push_len (rowTo (lgT l q) kn (pos cs i)).2 cs[i] (hiC cs i) (ixL (rowTo (lgT l q) kn (pos cs i)).1 (lgT l (stT l q cs[i].toNat)) : Nat)
        have hgo19 : Ok (r05_Minimal_j19 fu (tab l.length c) o (rowTo (lgT l q) kn (pos cs i)).2 i nx' cs[i] (stT l q cs[i].toNat) (hiC cs i)) (fun r => r = (canT l, 0)) := by
          unfold r05_Minimal_j19
          refine Ok.bnd (numbered5_ok hk hKO' (by omega) (by omega) (by omega)) fun a ha => ?_
          subst ha
          have hixle := ixL_le (rowTo (lgT l q) kn (pos cs i)).1 (lgT l (stT l q cs[i].toNat))
          refine Ok.ite (fun he => ?_) fun he => ?_
          · have hnm : lgT l (stT l q cs[i].toNat) ∉ (rowTo (lgT l q) kn (pos cs i)).1 := fun hm => by have := ixL_mem hm; omega
            refine Ok.chk (by simp; unfold capN; omega) (j20_ok hc hi g3.1 (by omega) (hnx' _ _ ?_))
            rw [hst']
            exact ⟨hext.trans ⟨_, rfl⟩, rfl, by omega, hKO'.put (by omega) (by omega) hlive hnm⟩
          · have hm : lgT l (stT l q cs[i].toNat) ∈ (rowTo (lgT l q) kn (pos cs i)).1 := Classical.byContradiction fun hm => by have := ixL_not hm; omega
            refine j20_ok hc hi g3.1 (by omega) (hnx' _ _ ?_)
            rw [hst', kn1_of_mem hm]
            exact ⟨hext, rfl, by omega, hKO'⟩
        refine Ok.ite (fun h1 => ?_) fun h1 => ?_
        · have h1' : i + 1 < cs.length := by omega
          have hr2 := hc.rg _ (List.getElem_mem h1')
          rw [show ((i : Int) + 1) = ((i + 1 : Nat) : Int) by omega]
          refine Ok.idxN h1' (Ok.chk (by unfold F64; omega) ?_)
          rw [hiC_some h1'] at hgo19; exact hgo19
        · rw [hiC_last (by omega)] at hgo19; exact hgo19
    · obtain ⟨hext, rfl, hesl, hKO'⟩ := hJ
      rw [pos_end] at hKO' ⊢
      obtain ⟨g1, g2, g3⟩ := rowTo_ok (lgs_clo hw) (hKO.sub _ hKm) hKO.toKnOk 256 (Nat.le_refl _)
      have := g1.len
      unfold r05_Minimal_b18; dsimp only
      refine Ok.iF (by omega) (Ok.chk (by simp; unfold capN; omega) (hnx _ ⟨(rowTo (lgT l q) kn 256).1, F, hKO', by simp, by simp; omega, by simp; omega, ?_⟩ ?_))
      · rw [← hgo]; dsimp only
        conv => rhs; unfold canGo
        rw [hK]; dsimp only
        have : lgT l q [] = (rowT l q).1 := by simp [lgT, runT, fin, hq0]
        rw [this]
      · dsimp only; omega
  · have hno : kn[out.length]? = none := List.getElem?_eq_none (by omega)
    rw [← hgo]
    cases F with
    | zero => rfl
    | succ F => unfold canGo; rw [hno]
theorem trim_trim {l : Tb} (h : WfT l) : Trim (trimT l) := fun q b hq => by
  have : lgT (trimT l) (stT (trimT l) q b) = lgT l (stT (trimT l) q b) := funext fun w => trim_lg h w _
  rw [this]
  rw [trim_step h] at hq ⊢
  split at hq
  · rename_i hl; rw [if_pos hl]; exact hl
  · omega
theorem minimal5_ok {l : Tb} {n fu : Nat} (hb : ByT l) (hs : ShT l n) (hn : n < 4294967296) (hfu : n + 2 < fu) (hfu' : 257 < fu) :
    Ok (r05_Minimal fu l) (fun r => (WfT l → r = (canT l, 0)) ∧ (¬ WfT l → r = ([], 11))) := by
  unfold r05_Minimal
  rw [r05_wellFormed_eq]
  refine Ok.bnd (wellFormed_ok hb hs (by omega) hn) fun x hx => Ok.bif (fun h => Ok.some ?_) fun h => ?_
  · have hno : ¬ WfT l := fun hw => by have := hx.2 hw; subst this; cases h
    exact ⟨fun hw => absurd hw hno, fun _ => rfl⟩
  · have hw : WfT l := hx.1 (by cases x; cases h; rfl)
    refine Ok.ite (fun h => Ok.some ⟨fun _ => ?_, fun hno => absurd hw hno⟩) fun h => ?_
    · obtain rfl : l = [] := List.length_eq_zero_iff.1 (by omega)
      have : live (lgT [] 0) = false := live_false.2 fun w => lgT_nil 0 w
      unfold canT canL; rw [this]; rfl
    · refine Ok.mono (P := fun r => r = (canT l, 0)) ?_ fun r hr => ⟨fun _ => hr, fun hno => absurd hw hno⟩
      refine Ok.bnd (alive5_ok hw hs hn (by omega)) fun x hx => ?_
      subst hx
      have hl0 : 0 < l.length := by omega
      refine Ok.bndE (idx_tab (i := 0) hl0) (Ok.bif (fun hd => Ok.some ?_) fun hd => ?_)
      · have hd : live (lgT l 0) = false := by cases hh : live (lgT l 0) <;> simp [hh] at hd ⊢
        unfold canT canL; rw [hd]; rfl
      · have hlv : live (lgT l 0) = true := by cases hh : live (lgT l 0) <;> simp [hh] at hd ⊢
        refine Ok.bnd (reached5_ok hw hl0 hs hn (by omega)) fun m hm => ?_
        obtain ⟨m1, m2, m3, m4⟩ := hm
        refine Ok.bnd (trimmed5_ok m1 m3 hn (by omega)) fun x hx => ?_
        subst hx
        have tw := trim_wf m1
        have ts := trim_sh m3
        have tl : lgT (trimT m) 0 = lgT l 0 := by rw [← m2]; exact funext fun w => trim_lg m1 w 0
        have t0 : 0 < (trimT m).length := by rw [trim_len]; exact m4
        rw [starts5_eq]
        refine Ok.bnd (cut_ok tw ts (by omega) (by omega)) fun cs hcs => Ok.bnd (classes5_ok tw (trim_trim m1) t0 hcs.1 hcs.2 ts hn hfu hfu') fun c hc => ?_
        obtain ⟨c, hc, rfl⟩ := hc
        rw [← canT_congr tw hw tl]
        exact main5_ok tw (trim_trim m1) t0 (by rw [tl]; exact hlv) hcs.1 hcs.2 hc ts hn hfu hfu'
theorem valid5_ok {l : Tb} {n fu : Nat} (hb : ByT l) (hs : ShT l n) (hn : n < 4294967296) (hfu : n + 2 < fu) (hfu' : 257 < fu) :
    Ok (r05_Valid fu l) (fun r => r = true ↔ WfT l ∧ canT l = l) := by
  unfold r05_Valid
  refine Ok.bnd (minimal5_ok hb hs hn hfu hfu') fun x hx => ?_
  by_cases hw : WfT l
  · rw [hx.1 hw]
    refine Ok.iT rfl (Ok.bnd (same5_ok hs (by omega)) fun r hr => Ok.some ?_)
    rw [hr]
    exact ⟨fun h => ⟨hw, h.symm⟩, fun h => h.2.symm⟩
  · rw [hx.2 hw]
    exact Ok.iF (by decide) (Ok.some ⟨fun h => (by cases h), fun h => absurd h.1 hw⟩)
theorem minimal_law (l : Tb) (hb : ByT l) : ∃ fu, w05_AutomatonMinimal fu l = some true := by
  refine ⟨l.length + 5000, Ok.eq ?_⟩
  unfold w05_AutomatonMinimal
  refine Ok.bnd (few_ok (by omega)) fun x hx => Ok.bif (fun _ => Ok.alive (by omega)) fun h => ?_
  have hs := (hx (notT h)).mono (by decide : 12 ≤ 300)
  refine Ok.bnd (minimal_ok hb hs (by decide) (by omega) (by omega)) fun x hx => Ok.bnd (minimal5_ok hb hs (by decide) (by omega) (by omega)) fun y hy => ?_
  have hxy : x = y := by
    by_cases hw : WfT l
    · rw [hx.1 hw, hy.1 hw]
    · rw [hx.2 hw, hy.2 hw]
  have hsx : ShT x.1 300 := by
    by_cases hw : WfT l
    · rw [hx.1 hw]; exact canT_sh hw (by have := hs.1; omega) (by decide)
    · rw [hx.2 hw]; exact ⟨by simp, by simp⟩
  subst hxy
  refine Ok.bnd (same5_ok hsx (by omega)) fun r hr => Ok.T (hr.2 rfl) (Ok.iT rfl (Ok.bnd (valid_ok hb hs (by decide) (by omega) (by omega)) fun a ha => Ok.bnd (valid5_ok hb hs (by decide) (by omega) (by omega)) fun b hb' => Ok.T ?_ (Ok.alive (by omega))))
  have := ha.trans hb'.symm
  cases a <;> cases b <;> simp at this ⊢
end Go.GL
namespace Go.Proofs.YtjmbmodmepdmjaaGreatDoor.automatonMinimal
open Go.GK Go.ChangeShapes Go.WideShapes Go.ChangeAt Go.RowKit
theorem own : ownKnob Tryz.prog.godebug = none := by kernel_rfl
theorem laidOut : laidOutB Tryz.prog = true := by kernel_rfl
theorem walk (W : World) (hG : LaidH Tryz.prog (Hp.of W))
    {v0 : Value} {l0 : List (Bool × (List (Int × Int × Int)))} (hl0 : SlD (cP cB (cL (cP cU8 (cP cU8 cI64)))) (Hp.of W) l0 v0) : TriV Tryz.prog 3 [v0] (Hp.of W) [] (.bool true) := by
  obtain ⟨fu, h⟩ := GL.minimal_law l0 (GL.byT_of hl0)
  exact w05_AutomatonMinimal_w hl0 hG h
set_option maxRecDepth 100000 in
set_option maxHeartbeats 1000000 in
theorem contract (H : Type) (enc : TypeId × Value → H) (W : World) (base : Nat) (args : Array Value) (ds gs : List (DataW H)) (before : List MemPlace)
    (hval : ∀ (j : Nat) t v, Tryz.f3.params[j]? = some t → args[j]? = some v → Value.okWide Tryz.prog W .any base t v)
    (hW : DataW.Whole enc Tryz.prog Tryz.f3.params.toList Rows.automatonMinimalSpec.vars false W args.toList ds gs before) (hL : laidMetH Tryz.prog Rows.automatonMinimalRow.laid W) :
    Calls Tryz.prog 3 args W fun e W' => ∃ v, e = .returned v ∧ Rows.automatonMinimalSpec.post enc Tryz.prog Tryz.f3 false true false false W args v W' := by
  have hW' := hW
  obtain ⟨p, q, hA0, hV, rfl, _, _⟩ := hW
  have hA : DataW.TrodAll enc Tryz.prog W 0 (fun _ => true) true Tryz.f3.params.toList args.toList ds p := hA0
  rw [Tryz.params3] at hA hval
  obtain ⟨v0, vs0, d0, ds0, p0, q0, hargs, rfl, rfl, h0, r0⟩ := trodAll_cons hA
  obtain ⟨rfl, rfl, rfl⟩ := trodAll_nil r0
  obtain rfl : args = #[v0] := by cases args; simp_all
  obtain ⟨rfl, rfl⟩ := trodVars_none hV
  clear hA0
  simp only [List.append_nil] at hW'
  have hlt : ∀ x ∈ p0, x.block < W.heap.size := fun x hx => hW'.lt x hx
  obtain ⟨l0, hl0⟩ := RdB.slArg Tryz.underlying22 (by kernel_rfl) rd43 (hval 0 22 v0 rfl rfl) h0
  have hG : LaidH Tryz.prog (Hp.of W) := laidH hL
  refine (walk W hG hl0 W (SH.start W)).mono fun e W' ⟨he, hs⟩ => ?_
  subst he
  have hbel := hs.below
  exact ⟨_, rfl, ⟨_, _, _, [], _, [], hW', trodAll_cons_mk (shut_bool Tryz.underlying4 _) trodAll_mk0, (trodAll_cons_mk (Below.trod laidOut (by kernel_rfl) (of_decide_eq_true (by kernel_rfl)) h0 hbel (fun x hx => hlt x (by simp [hx]))) trodAll_mk0), rfl, hbel.frame _, fun h => by cases h⟩⟩
theorem laid_met (os : Os) : laidMet Tryz.prog Rows.automatonMinimalRow.laid ((World.doorLaid Tryz.prog 400 os).forCall (fun _ _ => 0) ⟨#[], #[.slice none 0 0], []⟩).memory :=
  laidMet_of_run' 8 (by kernel_rfl) (by kernel_rfl)
theorem reads (os : Os) {H : Type} (enc : TypeId × Value → H) : ∃ places, DataW.whole enc Tryz.prog ((World.doorLaid Tryz.prog 400 os).forCall (fun _ _ => 0) ⟨#[], #[.slice none 0 0], []⟩).memory Tryz.f3.params.toList Rows.automatonMinimalSpec.vars false (#[.slice none 0 0] : Array Value).toList 8 = some ([.nil], [], places) :=
  ⟨[], by kernel_rfl⟩
set_option maxRecDepth 100000 in
theorem lifted (os : Os) (started : os.Started) (H : Type) (enc : TypeId × Value → H) (F : Stop.Interp) :
    ReturnsInHanded {} Tryz.checked os 3 .any ((OpenSpec.ofChange Rows.automatonMinimalSpec).preRow enc Tryz.prog Tryz.f3 Rows.automatonMinimalRow.domain false Rows.automatonMinimalRow.laid) (((OpenSpec.ofChange Rows.automatonMinimalSpec).at F).post enc Tryz.prog Tryz.f3 false true false false) := by
  obtain ⟨places, hx⟩ := reads os enc
  refine returnsInHanded_of_row (C := Tryz.checked) (s := (OpenSpec.ofChange Rows.automatonMinimalSpec)) own started (by kernel_rfl) Tryz.func3
    (witness_row_at (enc := enc) (C := Tryz.checked) false (World.doorLaid Tryz.prog 400 os) #[.slice none 0 0] rfl (by kernel_rfl) (by kernel_rfl) (by kernel_rfl)
      (OpenSpec.preRow_of_cond 8 hx (by kernel_rfl) (fun k hk => by cases hk) (by kernel_rfl) (laid_met os))) ?_
  intro W base args ds gs before hval hW _ _ _ hL _ _
  exact contract H enc W base args ds gs before hval hW hL
theorem said : Rows.AutomatonMinimalSaid :=
  OpenClaim.holds_of_cond 3 Tryz.f3 rfl rfl rfl rfl rfl rfl rfl ⟨rfl, rfl, rfl, rfl, rfl⟩ rfl rfl rfl rfl rfl (by kernel_rfl) Tryz.func3 (by kernel_rfl)
    (of_decide_eq_true (by kernel_rfl)) (by unfold Func.isWrapper; first | (rw [if_pos (by decide +kernel)]; kernel_rfl) | (rw [if_neg (by decide +kernel)]; exact ⟨rfl, rfl⟩))
    (fun os started H enc _ F => by rw [OpenClaim.pre_eq_preRow]; exact lifted os started H enc F)
theorem plain (f : FuncId) (fn : Func) (hf : Tryz.pinned.checked.prog.funcNamed "configlang/configlanglaw05.AutomatonMinimal" = some f) (hfn : Tryz.pinned.checked.prog.funcs[f]? = some fn) :
    false = Tryz.pinned.checked.prog.looks [] ∧ ∀ (j : Nat) t, fn.params[j]? = some t → Tryz.pinned.checked.prog.wantsStandIn t = false := by
  obtain rfl : f = 3 := Option.some.inj ((show Tryz.prog.funcNamed "configlang/configlanglaw05.AutomatonMinimal" = some 3 by kernel_rfl).symm.trans hf) |>.symm
  obtain rfl : fn = Tryz.f3 := (Option.some.inj (Tryz.func3.symm.trans hfn)).symm
  refine ⟨by kernel_rfl, fun j t ht => ?_⟩
  rw [Tryz.params3] at ht
  have hm : t ∈ [22] := by simpa using Array.mem_of_getElem? ht
  have hall : ([22].all fun u => !Tryz.prog.wantsStandIn u) = true := by kernel_rfl
  exact (show Tryz.prog.wantsStandIn t = false by simpa using List.all_eq_true.1 hall t hm)
end Go.Proofs.YtjmbmodmepdmjaaGreatDoor.automatonMinimal
namespace Go.Proofs.YtjmbmodmepdmjaaGreatDoor
theorem automatonMinimal_holds : Rows.AutomatonMinimalCardSaid :=
  Claim7.holds_tied_plain_at .later [] _ _ _ _ automatonMinimal.said (fun _ h => by cases h) (by kernel_rfl) (fun _ h => by cases h) automatonMinimal_row_tie rfl ⟨rfl, rfl⟩ (by kernel_rfl) rfl automatonMinimal.plain (by kernel_rfl)
end Go.Proofs.YtjmbmodmepdmjaaGreatDoor
