/- Two tables accept the same strings exactly if all pairs of states that are reached together agree; equal sets have equal automata. -/
import Derived.Test.YtjmbmodmepdmjaaGreatDoorLawAuto
import Derived.Test.YtjmbmodmepdmjaaGreatDoorLawWord
import Derived.Test.YtjmbmodmepdmjaaGreatDoorLawStep
import Derived.Test.YtjmbmodmepdmjaaGreatDoorDAutomatonCanonical
namespace Go.GL
open Go.GK
theorem startsE_eq : r05_Starts = au_cut := rfl
def stp (a b : Tb) (p : Int × Int) (c : Nat) : Int × Int := (stT a p.1 c, stT b p.2 c)
def runP (a b : Tb) (p : Int × Int) (w : List UInt8) : Int × Int := (runT a p.1 w, runT b p.2 w)
def OkI (l : Tb) (i : Int) : Prop := i = -1 ∨ 0 ≤ i ∧ i < l.length
theorem WfT.run {l : Tb} (h : WfT l) : ∀ (w : List UInt8) {i : Int}, OkI l i → OkI l (runT l i w)
  | [], _, hi => hi
  | c :: w, i, _ => WfT.run h w (h.st i c.toNat)
theorem runP_snoc (a b : Tb) (p : Int × Int) (w : List UInt8) (c : UInt8) : runP a b p (w ++ [c]) = stp a b (runP a b p w) c.toNat := by
  simp [runP, stp, runT, List.foldl_append]
def grid (m n : Nat) : List (Int × Int) := (List.range (m + 1)).flatMap fun (i : Nat) => (List.range (n + 1)).map fun (j : Nat) => ((i : Int) - 1, (j : Int) - 1)
theorem grid_len (m n : Nat) : (grid m n).length = (m + 1) * (n + 1) := by
  simp [grid, List.length_flatMap, List.map_const', List.sum_replicate_nat]
theorem grid_mem {a b : Tb} {p : Int × Int} (h1 : OkI a p.1) (h2 : OkI b p.2) : p ∈ grid a.length b.length := by
  refine List.mem_flatMap.2 ⟨(p.1 + 1).toNat, List.mem_range.2 ?_, List.mem_map.2 ⟨(p.2 + 1).toNat, List.mem_range.2 ?_, ?_⟩⟩
  · rcases h1 with h | h <;> omega
  · rcases h2 with h | h <;> omega
  · refine Prod.ext ?_ ?_
    · rcases h1 with h | h <;> dsimp only <;> omega
    · rcases h2 with h | h <;> dsimp only <;> omega
structure PI (a b : Tb) (f : Int × Int) (l : List (Int × Int)) : Prop where
  nd : l.Nodup
  hd : f ∈ l
  rc : ∀ p ∈ l, ∃ w, p = runP a b f w
def Done (a b : Tb) (st : List Int) (l : List (Int × Int)) (p : Int × Int) : Prop := fin a p.1 = fin b p.2 ∧ ∀ c ∈ st, stp a b p c.toNat ∈ l
theorem PI.ok {a b : Tb} {f : Int × Int} {l : List (Int × Int)} (h : PI a b f l) (ha : WfT a) (hb : WfT b) (h1 : OkI a f.1) (h2 : OkI b f.2) {p : Int × Int} (hp : p ∈ l) : OkI a p.1 ∧ OkI b p.2 := by
  obtain ⟨w, rfl⟩ := h.rc p hp
  exact ⟨ha.run w h1, hb.run w h2⟩
theorem PI.le {a b : Tb} {f : Int × Int} {l : List (Int × Int)} (h : PI a b f l) (ha : WfT a) (hb : WfT b) (h1 : OkI a f.1) (h2 : OkI b f.2) : l.length ≤ (a.length + 1) * (b.length + 1) := by
  rw [← grid_len]
  exact nodup_le' h.nd fun p hp => grid_mem (h.ok ha hb h1 h2 hp).1 (h.ok ha hb h1 h2 hp).2
theorem PI.put {a b : Tb} {f : Int × Int} {l : List (Int × Int)} (h : PI a b f l) {p : Int × Int} (hp : p ∈ l) {c : Nat} (hc : c < 256) (hn : stp a b p c ∉ l) : PI a b f (l ++ [stp a b p c]) := by
  refine ⟨List.nodup_append.2 ⟨h.nd, by simp, fun x hx y hy => ?_⟩, List.mem_append.2 (.inl h.hd), fun q hq => ?_⟩
  · simp at hy; subst hy; exact fun e => hn (e ▸ hx)
  · rcases List.mem_append.1 hq with hq | hq
    · exact h.rc q hq
    · simp at hq; subst hq
      obtain ⟨w, rfl⟩ := h.rc p hp
      refine ⟨w ++ [UInt8.ofNat c], ?_⟩
      rw [runP_snoc]
      simp [Nat.mod_eq_of_lt hc]
theorem Done.mono {a b : Tb} {st : List Int} {l l' : List (Int × Int)} {p : Int × Int} (h : Done a b st l p) (hl : ∀ q ∈ l, q ∈ l') : Done a b st l' p := ⟨h.1, fun c hc => hl _ (h.2 c hc)⟩
theorem starts_all {a b : Tb} (ha : WfT a) (hb : WfT b) {ca cb : List Int} (h1 : CutOk ca) (h2 : CutFor ca a) (h3 : CutOk cb) (h4 : CutFor cb b) {x : Nat} (hx : x < 256) :
    ∃ c ∈ ca ++ cb, (∀ q, stT a q x = stT a q c.toNat) ∧ ∀ q, stT b q x = stT b q c.toNat := by
  obtain ⟨i, hi, i1, i2⟩ := h1.find x hx
  obtain ⟨j, hj, j1, j2⟩ := h3.find x hx
  have ri := h1.rg _ (List.getElem_mem hi)
  have rj := h3.rg _ (List.getElem_mem hj)
  rcases Int.le_total ca[i] cb[j] with h | h
  · refine ⟨cb[j], List.mem_append.2 (.inr (List.getElem_mem hj)), fun q => ?_, fun q => CutFor.const h3 h4 hb hj j1 j2 q⟩
    rw [CutFor.const h1 h2 ha hi i1 i2 q, CutFor.const h1 h2 ha hi (b := cb[j].toNat) (by omega) (by omega) q]
  · refine ⟨ca[i], List.mem_append.2 (.inl (List.getElem_mem hi)), fun q => CutFor.const h1 h2 ha hi i1 i2 q, fun q => ?_⟩
    rw [CutFor.const h3 h4 hb hj j1 j2 q, CutFor.const h3 h4 hb hj (b := ca[i].toNat) (by omega) (by omega) q]
theorem done_lg {a b : Tb} {st : List Int} {l : List (Int × Int)} (hd : ∀ p ∈ l, Done a b st l p)
    (hs : ∀ x, x < 256 → ∃ c ∈ st, (∀ q, stT a q x = stT a q c.toNat) ∧ ∀ q, stT b q x = stT b q c.toNat) : ∀ (w : List UInt8) (p : Int × Int), p ∈ l → lgT a p.1 w = lgT b p.2 w
  | [], p, hp => (hd p hp).1
  | x :: w, p, hp => by
    obtain ⟨c, hc, e1, e2⟩ := hs x.toNat x.toNat_lt
    show lgT a (stT a p.1 x.toNat) w = lgT b (stT b p.2 x.toNat) w
    rw [e1, e2]
    exact done_lg hd hs w _ ((hd p hp).2 c hc)
theorem accepts_okE {l : Tb} {i : Int} {fu : Nat} (h : OkI l i) : Ok (w05_accepts fu l i) (fun r => r = fin l i) := by
  unfold w05_accepts
  refine Ok.ite (fun h0 => ?_) fun h0 => Ok.some (by unfold fin; rw [decide_eq_false h0]; rfl)
  have h1 : i < l.length := by rcases h with h | h <;> omega
  refine Ok.idxI h0 h1 (Ok.some ?_)
  unfold fin rowT
  rw [decide_eq_true h0, List.getD_eq_getElem?_getD, List.getElem?_eq_getElem (by omega : i.toNat < l.length)]; rfl
theorem OkI.lt {l : Tb} {i : Int} (h : OkI l i) (h0 : l.length = 0 → i = -1) : i < l.length := by rcases h with h | h <;> omega
theorem equiv_loop {a b : Tb} {f : Int × Int} {ca cb : List Int} {fu : Nat} (ha : WfT a) (hb : WfT b) (sa : ShT a 12) (sb : ShT b 12) (h1 : CutOk ca) (h2 : CutFor ca a) (h3 : CutOk cb) (h4 : CutFor cb b)
    (f1 : OkI a f.1) (f2 : OkI b f.2) (hf : 2000 ≤ fu) : Ok (loopK fu (fun p nx => w05_equivalent_b3 fu a b ca cb p.1 p.2 nx) ([f], 0)) (fun r => r = true ↔ lgT a f.1 = lgT b f.2) := by
  have hG : (a.length + 1) * (b.length + 1) ≤ 13 * 13 := Nat.mul_le_mul (by have := sa.1; omega) (by have := sb.1; omega)
  have hst : (ca ++ cb).length ≤ 512 := by rw [List.length_append]; have := h1.le; have := h3.le; omega
  have hrg : ∀ c ∈ ca ++ cb, 0 ≤ c ∧ c < 256 := fun c hc => (List.mem_append.1 hc).elim (h1.rg c) (h3.rg c)
  refine Ok.loop (fun x => PI a b f x.1 ∧ x.2 ≤ x.1.length ∧ ∀ i, i < x.2 → ∀ p, x.1[i]? = some p → Done a b (ca ++ cb) x.1 p) (fun x => 169 - x.2) ⟨⟨by simp, by simp, fun p hp => ⟨[], List.mem_singleton.1 hp⟩⟩, by simp, by simp⟩ (by dsimp only; omega) fun x nx hI _ hn => ?_
  obtain ⟨l, k⟩ := x
  obtain ⟨p1, p2, p3⟩ := hI
  dsimp only at p1 p2 p3 hn
  have hle := p1.le ha hb f1 f2
  unfold w05_equivalent_b3
  dsimp only
  rcases Nat.lt_or_ge k l.length with hk | hk
  · have hpm : l[k] ∈ l := List.getElem_mem hk
    refine Ok.iT (by omega) (Ok.idxN hk ?_)
    have hpk : l[k]? = some l[k] := List.getElem?_eq_getElem hk
    generalize l[k] = p at hpm hpk
    have okp := p1.ok ha hb f1 f2 hpm
    refine Ok.bnd (accepts_okE okp.1) fun x hx => Ok.bnd (accepts_okE okp.2) fun y hy => ?_
    subst hx; subst hy
    refine Ok.bif (fun h => Ok.some ⟨fun h => (by cases h), fun he => ?_⟩) fun h => ?_
    · obtain ⟨w, rfl⟩ := p1.rc p hpm
      have : fin a (runP a b f w).1 = fin b (runP a b f w).2 := congrFun he w
      rw [this] at h; simp at h
    · have hfin : fin a p.1 = fin b p.2 := by simpa using h
      generalize hS : ca ++ cb = st at hst hrg p3 hn
      refine Ok.range (fun j l' => PI a b f l' ∧ (∃ more, l' = l ++ more) ∧ ∀ c ∈ st.take j, stp a b p c.toNat ∈ l') st.length ⟨p1, ⟨[], by simp⟩, by simp⟩ (by omega) (fun j l' nx2 hj hJ hn2 => ?_) (fun l' nx2 hJ => ?_)
      · obtain ⟨q1, ⟨more, q2⟩, q3⟩ := hJ
        unfold w05_equivalent_b4
        dsimp only
        rw [hS]
        have hc := hrg _ (List.getElem_mem hj)
        refine Ok.iT (by omega) (Ok.idxN hj ?_)
        have hmem : ∀ c, c ∈ st.take (j + 1) ↔ c ∈ st.take j ∨ c = st[j] := fun c => mem_take_succ hj
        generalize st[j] = c at hc hmem
        obtain ⟨n, rfl⟩ := Int.eq_ofNat_of_zero_le hc.1
        have hpl : p ∈ l' := by rw [q2]; exact List.mem_append.2 (.inl hpm)
        refine Ok.chk (by unfold F8; omega) ?_
        have hstep : ∀ {t : Tb} {i : Int}, ShT t 12 → OkI t i → Ok (r05_Step fu t i (n : Int)) (fun r => r = stT t i n) := fun {t i} hs ho => by
          by_cases h0 : i < t.length
          · exact step_ok (n := 12) hs (by omega) h0
          · have : i < 0 := by rcases ho with h | h <;> omega
            unfold r05_Step
            exact Ok.iT this (Ok.some (stT_neg _ this).symm)
        refine Ok.bnd (hstep sa okp.1) fun x hx => Ok.chk (by unfold F8; omega) (Ok.bnd (hstep sb okp.2) fun y hy => ?_)
        subst hx; subst hy
        have hle' := q1.le ha hb f1 f2
        refine Ok.range (fun i s => s = decide (stp a b p n ∈ l'.take i)) l'.length (by simp) (by omega) (fun i s nx3 hi hs hn3 => ?_) (fun s nx3 hs => ?_)
        · subst hs
          unfold w05_equivalent_b5
          dsimp only
          have hts : stp a b p n ∈ l'.take (i + 1) ↔ stp a b p n ∈ l'.take i ∨ stp a b p n = l'[i] := mem_take_succ hi
          refine Ok.iT (by omega) (Ok.idxN hi (Ok.ite (fun h => hn3 _ ?_) fun h => hn3 _ ?_))
          · exact (decide_eq_true (hts.2 (.inl h))).symm
          · refine decide_eq_decide.2 (Iff.trans ?_ hts.symm)
            constructor
            · intro h; simp at h; exact .inr (Prod.ext h.1.symm h.2.symm)
            · rintro (h' | h')
              · exact absurd h' h
              · rw [← h']; rfl
        · subst hs
          unfold w05_equivalent_b5
          dsimp only
          rw [List.take_of_length_le (Nat.le_refl _)]
          refine Ok.iF (by omega) (Ok.bif (fun h => ?_) fun h => hn2 _ ⟨q1, ⟨more, q2⟩, fun c hc' => ?_⟩)
          · have h : stp a b p n ∉ l' := by simpa using h
            refine Ok.chk (by simp; unfold capN; omega) (hn2 _ ⟨q1.put hpl (by omega) h, ⟨more ++ [stp a b p n], by rw [q2]; simp [stp]⟩, fun c hc' => ?_⟩)
            rcases (hmem c).1 hc' with h' | rfl
            · exact List.mem_append.2 (.inl (q3 c h'))
            · exact List.mem_append.2 (.inr (by simp [stp]))
          · have h : stp a b p n ∈ l' := by simpa using h
            rcases (hmem c).1 hc' with h' | rfl
            · exact q3 c h'
            · simpa using h
      · obtain ⟨q1, ⟨more, q2⟩, q3⟩ := hJ
        unfold w05_equivalent_b4
        dsimp only
        rw [hS]
        rw [List.take_of_length_le (Nat.le_refl _)] at q3
        have hle' := q1.le ha hb f1 f2
        refine Ok.iF (by omega) (hn (l', k + 1) ⟨q1, ?_, fun i hi q hq => ?_⟩ ?_)
        · dsimp only; rw [q2, List.length_append]; omega
        · dsimp only at hi hq
          have hlm : ∀ q ∈ l, q ∈ l' := fun q hq => by rw [q2]; exact List.mem_append.2 (.inl hq)
          rw [q2, List.getElem?_append_left (by omega)] at hq
          rcases Nat.lt_or_ge i k with h' | h'
          · exact (p3 i h' q hq).mono hlm
          · obtain rfl : i = k := by omega
            rw [hpk] at hq; cases hq
            exact ⟨hfin, q3⟩
        · dsimp only; omega
  · refine Ok.iF (by omega) (Ok.some ⟨fun _ => ?_, fun _ => rfl⟩)
    have hall : ∀ p ∈ l, Done a b (ca ++ cb) l p := fun p hp => by
      obtain ⟨i, hi, rfl⟩ := List.getElem_of_mem hp
      exact p3 i (by omega) _ (List.getElem?_eq_getElem hi)
    funext w
    exact done_lg hall (fun x hx => starts_all ha hb h1 h2 h3 h4 hx) w f p1.hd
theorem equivalent_ok {a b : Tb} {fu : Nat} (ha : WfT a) (hb : WfT b) (sa : ShT a 12) (sb : ShT b 12) (hf : 2000 ≤ fu) : Ok (w05_equivalent fu a b) (fun r => r = true ↔ lgT a 0 = lgT b 0) := by
  have key : ∀ i j : Int, OkI a i → OkI b j → lgT a i = lgT a 0 → lgT b j = lgT b 0 → Ok (w05_equivalent_j2 fu a b i j) (fun r => r = true ↔ lgT a 0 = lgT b 0) := fun i j hi hj e1 e2 => by
    unfold w05_equivalent_j2
    rw [startsE_eq]
    refine Ok.bnd (cut_ok ha sa (by omega) (by omega)) fun ca ⟨c1, c2⟩ => Ok.bnd (cut_ok hb sb (by omega) (by omega)) fun cb ⟨c3, c4⟩ => ?_
    have := c1.le; have := c3.le
    rw [← e1, ← e2]
    exact Ok.chk (by unfold capN; omega) (equiv_loop (f := (i, j)) ha hb sa sb c1 c2 c3 c4 hi hj hf)
  have hz : ∀ l : Tb, l.length = 0 → lgT l (-1) = lgT l 0 := fun l h => by
    obtain rfl := List.length_eq_zero_iff.1 h
    funext w; rw [lgT_nil, lgT_nil]
  have key2 : ∀ i : Int, OkI a i → lgT a i = lgT a 0 → Ok (w05_equivalent_j1 fu a b i) (fun r => r = true ↔ lgT a 0 = lgT b 0) := fun i hi e1 => by
    unfold w05_equivalent_j1
    exact Ok.ite (fun h => key i (-1) hi (.inl rfl) e1 (hz b (by omega))) fun h => key i 0 hi (.inr ⟨by decide, by omega⟩) e1 rfl
  unfold w05_equivalent
  exact Ok.ite (fun h => key2 (-1) (.inl rfl) (hz a (by omega))) fun h => key2 0 (.inr ⟨by decide, by omega⟩) rfl
theorem canonical_law (a b : Tb) (ha : ByT a) (hb : ByT b) : ∃ fu, w05_AutomatonCanonical fu a b = some true := by
  refine ⟨a.length + b.length + 5000, Ok.eq ?_⟩
  unfold w05_AutomatonCanonical
  refine Ok.bnd (few_ok (by omega)) fun x hx => Ok.bif (fun _ => Ok.alive (by omega)) fun h => ?_
  have sa := hx (notT h)
  refine Ok.bnd (few_ok (by omega)) fun x hx => Ok.bif (fun _ => Ok.alive (by omega)) fun h => ?_
  have sb := hx (notT h)
  have sa' := sa.mono (by decide : 12 ≤ 300)
  have sb' := sb.mono (by decide : 12 ≤ 300)
  rw [r05_wellFormed_eq]
  refine Ok.bnd (wellFormed_ok ha sa' (by omega) (by decide)) fun x hx => Ok.bif (fun _ => Ok.alive (by omega)) fun h => ?_
  have wa := hx.1 (notT h)
  refine Ok.bnd (wellFormed_ok hb sb' (by omega) (by decide)) fun x hx => Ok.bif (fun _ => Ok.alive (by omega)) fun h => ?_
  have wb := hx.1 (notT h)
  refine Ok.bnd (minimal_ok ha sa' (by decide) (by omega) (by omega)) fun x hx => Ok.bnd (minimal_ok hb sb' (by decide) (by omega) (by omega)) fun y hy => ?_
  rw [hx.1 wa, hy.1 wb]
  refine Ok.iT rfl (Ok.iT rfl (Ok.bnd (auSame_ok (canT_sh wa (n := 300) (by have := sa'.1; omega) (by decide)) (by omega)) fun z hz => Ok.bnd (equivalent_ok wa wb sa sb (by omega)) fun u hu => Ok.T ?_ (Ok.alive (by omega))))
  have : z = true ↔ u = true := hz.trans ((canT_iff wa wb).trans hu.symm)
  cases z <;> cases u <;> simp at this ⊢
end Go.GL
