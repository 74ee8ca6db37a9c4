/- The laws of the automaton, in plain words: each is true at fuel that is enough. -/
import Derived.Test.YtjmbmodmepdmjaaDoorLawWord
import Derived.Test.YtjmbmodmepdmjaaDoorLawAlive
import Derived.Test.YtjmbmodmepdmjaaDoorKitOpen
namespace Go.GL
open Go.GK
theorem alive_ok {fu : Nat} (h : 2000 ≤ fu) : Ok (w05_alive fu) (fun r => r = true) := by
  obtain ⟨n, rfl⟩ : ∃ n, fu = n + 2000 := ⟨fu - 2000, by omega⟩
  exact Ok.of_eq (alive_at n) rfl
theorem Ok.alive {fu : Nat} (h : 2000 ≤ fu) : Ok (GK.bnd (w05_alive fu) fun x => Option.some x) (fun r => r = true) := Ok.bnd (alive_ok h) fun _ h => Ok.some h
theorem ShT.mono {l : Tb} {m n : Nat} (h : ShT l m) (hn : m ≤ n) : ShT l n := ⟨by have := h.1; omega, fun s hs => by have := h.2 s hs; omega⟩
theorem notT {b : Bool} (h : (!b) = false) : b = true := by cases b <;> simp at h ⊢
theorem accepts_law (a b : Tb) (s : Str) (ha : ByT a) (hb : ByT b) : ∃ fu, w05_AutomatonAccepts fu a b s = some true := by
  refine ⟨a.length + b.length + 5000, Ok.eq ?_⟩
  unfold w05_AutomatonAccepts
  refine Ok.bnd (few_ok (by omega)) fun x hx => Ok.bif (fun _ => Ok.alive (by omega)) fun h => ?_
  have hsa := (hx (notT h)).mono (by decide : 12 ≤ 300)
  refine Ok.bnd (few_ok (by omega)) fun x hx => Ok.bif (fun _ => Ok.alive (by omega)) fun h => Ok.ite (fun _ => Ok.alive (by omega)) fun hl => ?_
  have hsb := (hx (notT h)).mono (by decide : 12 ≤ 300)
  have hl : s.length ≤ 60 := by omega
  refine Ok.bnd (accepts_ok ha hsa (by omega) (by decide) (by omega) (by omega)) fun x hx => Ok.bnd (accepts5_ok ha hsa (by omega) (by decide) (by omega) (by omega)) fun y hy => ?_
  refine Ok.T (by rw [hx, hy]; simp) (Ok.bnd (auSame_ok hsa (by omega)) fun x hx => Ok.bnd (same5_ok hsa (by omega)) fun y hy => Ok.T ?_ (Ok.bnd (auSame_ok hsa (by omega)) fun z hz => Ok.T (hz.2 rfl) (Ok.alive (by omega))))
  have : x = true ↔ y = true := hx.trans hy.symm
  cases x <;> cases y <;> simp at this ⊢
theorem words_law (s t : Str) : ∃ fu, w05_AutomatonWords fu s t = some true := by
  refine ⟨5000, Ok.eq ?_⟩
  unfold w05_AutomatonWords
  refine Ok.ite (fun _ => Ok.alive (by omega)) fun h1 => Ok.ite (fun _ => Ok.alive (by omega)) fun h2 => ?_
  have h1 : s.length ≤ 100 := by omega
  have h2 : t.length ≤ 100 := by omega
  obtain ⟨hw, hL⟩ := word_facts s
  have hsh : ShT (wordT s) 300 := hw.sh (by simp [wordT]; omega) (by decide)
  have hall : ShT allT 300 := all_wf.sh (by decide) (by decide)
  refine Ok.bnd (word_ok (by omega) (by omega)) fun x hx => ?_
  subst hx
  rw [word5_eq]
  refine Ok.bnd (word_ok (by omega) (by omega)) fun x hx => ?_
  subst hx
  refine Ok.bnd (same5_ok hsh (by omega)) fun x hx => Ok.T (hx.2 rfl) (Ok.bnd (valid_ok hw.by hsh (by decide) (by omega) (by omega)) fun x hx => Ok.T (hx.2 ⟨hw, word_canT s⟩) ?_)
  refine Ok.bnd (accepts_ok hw.by hsh (by omega) (by decide) (by omega) (by omega)) fun x hx => Ok.T (by rw [hx, accW_wf hw, hL]; simp [single]) ?_
  refine Ok.bnd (accepts_ok hw.by hsh (by omega) (by decide) (by omega) (by omega)) fun x hx => Ok.T ?_ ?_
  · rw [hx, accW_wf hw, hL]
    simp only [single, beq_iff_eq, decide_eq_decide]
    exact ⟨fun h => h.symm, fun h => h.symm⟩
  · unfold au_All
    refine Ok.bndE rfl (Ok.bnd (accepts_ok all_wf.by hall (by omega) (by decide) (by omega) (by omega)) fun x hx => Ok.T ?_ (Ok.bndE rfl (Ok.bnd (valid_ok all_wf.by hall (by decide) (by omega) (by omega)) fun x hx => Ok.T ?_ (Ok.alive (by omega)))))
    · rw [hx]
      show accW allT t = true
      rw [accW_wf all_wf, all_lg]
    · exact hx.2 ⟨all_wf, all_canT⟩
theorem keeps_law (l : Tb) (s : Str) (hb : ByT l) : ∃ fu, w05_AutomatonKeeps fu l s = some true := by
  refine ⟨l.length + 5000, Ok.eq ?_⟩
  unfold w05_AutomatonKeeps
  refine Ok.bnd (few_ok (by omega)) fun x hx => Ok.bif (fun _ => Ok.alive (by omega)) fun h => Ok.ite (fun _ => Ok.alive (by omega)) fun hl => ?_
  have hs0 := hx (notT h)
  have hs := hs0.mono (by decide : 12 ≤ 300)
  have hl : s.length ≤ 60 := by omega
  refine Ok.bnd (minimal_ok hb hs (by decide) (by omega) (by omega)) fun x hx => ?_
  by_cases hw : WfT l
  · rw [hx.1 hw]
    have hcw := canT_wf hw
    have hcs : ShT (canT l) 300 := canT_sh hw (by have := hs.1; omega) (by decide)
    refine Ok.iF (by simp) (Ok.bnd (minimal_ok hcw.by hcs (by decide) (by omega) (by omega)) fun y hy => ?_)
    rw [hy.1 hcw]
    refine Ok.bnd (accepts_ok hcw.by hcs (by omega) (by decide) (by omega) (by omega)) fun x hx => Ok.bnd (accepts_ok hb hs (by omega) (by decide) (by omega) (by omega)) fun y hy => Ok.T ?_ (Ok.iT ?_ ?_)
    · rw [hx, hy, accW_wf hw, accW_wf hcw, canT_lg hw]; simp
    · have := canT_le hw; dsimp only; omega
    · refine Ok.bnd (valid_ok hcw.by hcs (by decide) (by omega) (by omega)) fun x hx => Ok.T (hx.2 ⟨hcw, canT_idem hw⟩) (Ok.iT rfl (Ok.bnd (auSame_ok hcs (by omega)) fun z hz => Ok.T (hz.2 (canT_idem hw).symm) (Ok.alive (by omega))))
  · rw [hx.2 hw]
    refine Ok.iT (by decide) (Ok.iT (by simp) (Ok.bnd (accepts_ok hb hs (by omega) (by decide) (by omega) (by omega)) fun x hx => Ok.T ?_ (Ok.alive (by omega))))
    rw [hx, accW_not hw]; rfl
end Go.GL
namespace Go.GL
open Go.GK
theorem byT_of {H : Hp} {l : Tb} {v : Value} (h : SlD (cP cB (cL (cP cU8 (cP cU8 cI64)))) H l v) : ByT l := by
  intro s hs e he
  obtain ⟨cs, c1, c2, _, _, h2⟩ := h.mem s hs
  obtain ⟨v', _, h3⟩ := h2
  obtain ⟨cs', d1, d2, _, h4, f1, f2, _, h5, _⟩ := h3.mem e he
  exact ⟨h4.2, h5.2⟩
end Go.GL
