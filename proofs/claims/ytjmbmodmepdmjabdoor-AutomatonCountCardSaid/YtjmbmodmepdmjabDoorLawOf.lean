/- The automaton of an expression: what it accepts. -/
import Derived.Test.YtjmbmodmepdmjabDoorLawMany
import Derived.Test.YtjmbmodmepdmjabDoorLawCan
import Derived.Test.YtjmbmodmepdmjabDoorLawWord
namespace Go.GL
open Go.GK
def net0 : NT := ([[], []], [[], []], 0)
theorem net0_nb : NB net0 2 := by
  refine ⟨rfl, by decide, fun l hl => ?_, fun l hl => ?_, by decide, by decide, fun l hl u hu => ?_, fun l hl e he => ?_, fun l hl e he => ?_⟩
  · simp [net0] at hl; subst hl; simp
  · simp [net0] at hl; subst hl; simp
  · simp [net0] at hl; subst hl; cases hu
  · simp [net0] at hl; subst hl; cases he
  · simp [net0] at hl; subst hl; cases he
theorem net0_tr (s : Int) (w : List UInt8) (u : Int) : ¬ trN net0 s w u := by
  rintro (⟨_, _, l, hl, hu⟩ | ⟨_, _, _, l, hl, e, he, _⟩)
  · have := List.mem_of_getElem? hl
    simp [net0] at this; subst this; cases hu
  · have := List.mem_of_getElem? hl
    simp [net0] at this; subst this; cases he
theorem Ok.and {R : Type} {P Q : R → Prop} {x : Option R} (h : Ok x P) (k : Ok x Q) : Ok x (fun r => P r ∧ Q r) := by
  obtain ⟨r, e, h⟩ := h
  obtain ⟨s, e', k⟩ := k
  rw [e] at e'; cases e'
  exact ⟨r, e, h, k⟩
theorem net_lang {N : NT} {A : List UInt8 → Prop} (h : Add net0 N 0 A 1) (w : List UInt8) : Cl (trN N) 0 w 1 ↔ A w := by
  obtain ⟨Dl, h1, _, h3⟩ := h.ex
  have e : trN N = Dl := by
    funext s w u
    refine propext ((h1 s w u).trans ⟨fun h => h.elim (fun h => absurd h (net0_tr s w u)) id, .inr⟩)
  rw [e]
  exact h3.lang (by decide) (by unfold Pv; simp [net0]) (by unfold Pv; simp [net0]) w
/- what Of gives -/
structure OfOk (r : Rx) (Q : NT → Prop) (x : Tb × Int) : Prop where
  not : ¬ rxOk 16 r → x.1 = [] ∧ x.2 ≠ 0
  yes : rxOk 16 r → ∃ N, Q N ∧ NB N (2 + 2 * sz 16 r) ∧ ((Many N 0 true ∧ x = ([], 10)) ∨ ∃ T, WfT T ∧ (∀ w, lgT T 0 w = true ↔ mt 16 r w) ∧ ((200 < (canT T).length ∧ x = ([], 10)) ∨ (canT T).length ≤ 200 ∧ x = (canT T, 0)))
theorem of_ok {r : Rx} {Q : NT → Prop} {fu B : Nat} (hs : sz 16 r ≤ 1990) (hQ : rxOk 16 r → Ok (au_net_add fu net0 r 0 1) Q)
    (hB : ∀ N, Q N → NB N (2 + 2 * sz 16 r) → ∀ L : List (List Int), L.Nodup → (∀ S ∈ L, Rch N 0 S) → L.length ≤ B) (hB' : B ≤ 100000000) (hf : 300000000 ≤ fu) :
    Ok (au_Of fu r) (fun x => OfOk r Q x ∧ (¬ rxOk 16 r → rx_Check fu r = some x.2)) := by
  have hchk : Ok (rx_Check fu r) (fun e => e = 0 ↔ rxOk 16 r) := by
    unfold rx_Check
    exact Ok.bnd (check_ok 16 1 r fu (by decide) (by decide) (by omega)) fun e he => Ok.some he
  obtain ⟨e, he, hiff⟩ := hchk
  unfold au_Of
  rw [he]
  refine Ok.bndE rfl (Ok.ite (fun h => Ok.some ⟨⟨fun _ => ⟨rfl, h⟩, fun hr => absurd (hiff.2 hr) h⟩, fun _ => rfl⟩) fun h => ?_)
  have hr : rxOk 16 r := hiff.1 (by omega)
  refine Ok.chk (by simp [capN]) (Ok.chk (by simp [capN]) (Ok.chk (by simp [capN]) (Ok.chk (by simp [capN]) ?_)))
  have hadd := (add_ok 16 r fu hr (by omega) net0 2 0 1 net0_nb (by decide) (by decide) (by decide) (by decide) (by omega)).and (hQ hr)
  refine Ok.bnd (x := au_net_add fu net0 r 0 1) hadd fun N hN => ?_
  obtain ⟨⟨hN, hA⟩, hQN⟩ := hN
  have hlen : 2 ≤ N.1.length := hA.len
  refine Ok.bnd (x := au_net_many fu N 0) (many_ok (c := 2 + 2 * sz 16 r) hN (by omega) (by decide) (by omega) (by omega)) fun y hy => Ok.bif (fun h => ?_) fun h => ?_
  · subst h
    exact Ok.some ⟨⟨fun h => absurd hr h, fun _ => ⟨N, hQN, hN, .inl ⟨hy, rfl⟩⟩⟩, fun h => absurd hr h⟩
  · refine Ok.bnd (x := au_net_determine fu N 0 1) (determine_ok (c := 2 + 2 * sz 16 r) hN (by omega) (by decide) (by omega) (hB N hQN hN) hB' (by omega)) fun T hT => ?_
    obtain ⟨L, hT⟩ := hT
    have hW := det_wf hT
    have hLB := hB N hQN hN L hT.nd hT.rc
    have hTl := hT.len
    have hlg : ∀ w, lgT T 0 w = true ↔ mt 16 r w := fun w => (det_lg hN (by decide) (by omega) hT w).trans (net_lang hA w)
    refine Ok.bnd (minimal_ok (n := 100000000) hW.by (hW.sh (by omega) (by decide)) (by decide) (by omega) (by omega)) fun z hz => ?_
    rw [hz.1 hW]
    refine Ok.ite (fun h => Ok.some ⟨⟨fun h => absurd hr h, fun _ => ⟨N, hQN, hN, .inr ⟨T, hW, hlg, .inl ⟨by dsimp only at h; omega, rfl⟩⟩⟩⟩, fun h => absurd hr h⟩) fun h => Ok.some ⟨⟨fun h => absurd hr h, fun _ => ⟨N, hQN, hN, .inr ⟨T, hW, hlg, .inr ⟨by dsimp only at h; omega, rfl⟩⟩⟩⟩, fun h => absurd hr h⟩
end Go.GL
