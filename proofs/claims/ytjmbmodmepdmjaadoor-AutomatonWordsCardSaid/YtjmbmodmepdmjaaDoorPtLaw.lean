/- The partition, two ways: the plain law. No program in sight. -/
import Derived.Test.YtjmbmodmepdmjaaDoorParts
namespace Go.GK
theorem alike_iff (l : List St) (x y : Nat) : alikeB l x y = true ↔ ∀ s ∈ l, s x = s y := by
  rw [alikeB_def, List.all_eq_true]; simp
theorem alike_refl (l : List St) (x : Nat) : alikeB l x x = true := (alike_iff l x x).2 fun _ _ => rfl
theorem alike_symm {l : List St} {x y : Nat} (h : alikeB l x y = true) : alikeB l y x = true := (alike_iff l y x).2 fun s hs => ((alike_iff l x y).1 h s hs).symm
theorem alike_trans {l : List St} {x y z : Nat} (h : alikeB l x y = true) (k : alikeB l y z = true) : alikeB l x z = true := (alike_iff l x z).2 fun s hs => ((alike_iff l x y).1 h s hs).trans ((alike_iff l y z).1 k s hs)

/- a list of parts by the sets 'l' -/
structure Good (l ps : List St) : Prop where
  cls : ∀ p ∈ ps, ∀ x y, x < 256 → y < 256 → p x = true → (p y = true ↔ alikeB l x y = true)
  one : ∀ x, x < 256 → ∃ A p B, ps = A ++ p :: B ∧ p x = true ∧ (∀ q ∈ A, q x = false) ∧ ∀ q ∈ B, q x = false
theorem cutA_def (p s : St) (x : Nat) : cutA p s x = (p x && s x) := cutA_at p s x
theorem mem_two {p s q : St} (h : q ∈ two p s 2) : q = cutA p s ∨ q = cutB p s := by
  have := (List.mem_filter.1 h).1
  simpa using this
theorem ne_of {p : St} {x : Nat} (hx : x < 256) (h : p x = true) : ne p = true := by
  rw [← ne_eq]
  cases he : eqS p (fun _ => false) with
  | false => rfl
  | true => have := eqS_iff.1 he x hx; rw [h] at this; cases this
theorem good_step (l : List St) (ps : List St) (s : St) (h : Good l ps) : Good (l ++ [s]) (psStep ps s) := by
  have al : ∀ x y, alikeB (l ++ [s]) x y = true ↔ alikeB l x y = true ∧ s x = s y := fun x y => by
    rw [alike_iff, alike_iff]; simp [or_imp, forall_and]
  refine ⟨fun q hq x y hx hy hqx => ?_, fun x hx => ?_⟩
  · obtain ⟨p, hp, hq2⟩ := List.mem_flatMap.1 hq
    have hc := h.cls p hp x y hx hy
    rw [al]
    rcases mem_two hq2 with e | e
    · subst e
      rw [cutA_at] at hqx ⊢
      simp only [Bool.and_eq_true] at hqx ⊢
      rw [hc hqx.1, hqx.2]
      exact ⟨fun h => ⟨h.1, h.2.symm⟩, fun h => ⟨h.1, h.2.symm⟩⟩
    · subst e
      rw [cutB_at] at hqx ⊢
      simp only [Bool.and_eq_true, Bool.not_eq_true'] at hqx ⊢
      rw [hc hqx.1, hqx.2]
      exact ⟨fun h => ⟨h.1, h.2.symm⟩, fun h => ⟨h.1, h.2.symm⟩⟩
  · obtain ⟨A, p, B, hps, hpx, hA, hB⟩ := h.one x hx
    have none_in : ∀ C : List St, (∀ q ∈ C, q x = false) → ∀ q ∈ psStep C s, q x = false := by
      intro C hC q hq
      obtain ⟨p', hp', hq2⟩ := List.mem_flatMap.1 hq
      rcases mem_two hq2 with e | e
      · subst e; rw [cutA_at, hC p' hp']; rfl
      · subst e; rw [cutB_at, hC p' hp']; rfl
    have hstep : psStep ps s = psStep A s ++ (two p s 2 ++ psStep B s) := by rw [hps]; simp [psStep]
    have htwo : two p s 2 = [cutA p s, cutB p s].filter ne := rfl
    cases hsx : s x with
    | true =>
      have h1 : cutA p s x = true := by rw [cutA_at, hpx, hsx]; rfl
      have h2 : cutB p s x = false := by rw [cutB_at, hpx, hsx]; rfl
      have h3 := ne_of hx h1
      rw [hstep, htwo]
      simp only [List.filter_cons, h3, if_true, List.filter_nil]
      refine ⟨psStep A s, cutA p s, (if ne (cutB p s) = true then [cutB p s] else []) ++ psStep B s, by simp, h1, none_in A hA, fun q hq => ?_⟩
      rcases List.mem_append.1 hq with h | h
      · split at h
        · simp at h; subst h; exact h2
        · simp at h
      · exact none_in B hB q h
    | false =>
      have h1 : cutA p s x = false := by rw [cutA_at, hpx, hsx]; rfl
      have h2 : cutB p s x = true := by rw [cutB_at, hpx, hsx]; rfl
      have h3 := ne_of hx h2
      rw [hstep, htwo]
      simp only [List.filter_cons, h3, if_true, List.filter_nil]
      refine ⟨psStep A s ++ (if ne (cutA p s) = true then [cutA p s] else []), cutB p s, psStep B s, ?_, h2, fun q hq => ?_, none_in B hB⟩
      · split <;> simp
      · rcases List.mem_append.1 hq with h | h
        · exact none_in A hA q h
        · split at h
          · simp at h; subst h; exact h1
          · simp at h
theorem psTo_Good (l : List St) : ∀ i, i ≤ l.length → Good (l.take i) (psTo l i)
  | 0, _ => by
    rw [psTo_zero]
    refine ⟨fun p hp x y hx hy _ => ?_, fun x hx => ⟨[], ofP 0 255, [], rfl, by simp [ofP]; omega, by simp, by simp⟩⟩
    simp at hp; subst hp
    rw [alike_iff]; simp [ofP]; omega
  | i + 1, h => by
    rw [psTo_succ l i (by omega), take_succ_nth l i (by omega)]
    exact good_step _ _ _ (psTo_Good l i (by omega))
theorem parts_good (l : List St) : Good l (psTo l l.length) := by
  have := psTo_Good l l.length (Nat.le_refl _)
  rwa [List.take_length] at this

/- one step of the last part -/
theorem fold_none (b : Nat) : ∀ (A : List St) (s : List St × St), (∀ q ∈ A, q b = false) → A.foldl (stp b) s = s
  | [], s, _ => rfl
  | q :: A, s, h => by
    have : stp b s q = s := by simp [stp, h q (by simp)]
    rw [List.foldl_cons, this]; exact fold_none b A s fun q hq => h q (by simp [hq])
theorem fold_one (b : Nat) (ps A B : List St) (p : St) (s : List St × St) (h : ps = A ++ p :: B) (hp : p b = true) (hA : ∀ q ∈ A, q b = false) (hB : ∀ q ∈ B, q b = false) :
    ps.foldl (stp b) s = (s.1 ++ [p], fun y => s.2 y || p y) := by
  rw [h, List.foldl_append, fold_none b A s hA, List.foldl_cons, fold_none b B _ hB]
  simp [stp, hp]
structure OutInv (l : List St) (b : Nat) (out : List St) (sn : St) : Prop where
  cls : ∀ q ∈ out, ∀ x y, x < 256 → y < 256 → q x = true → (q y = true ↔ alikeB l x y = true)
  seen : ∀ x, x < 256 → (sn x = true ↔ ∃ q ∈ out, q x = true)
  upto : ∀ x, x < b → x < 256 → sn x = true
  apart : out.Pairwise fun p q => ∀ x, x < 256 → p x = true → q x = false
theorem out_step (l : List St) (b : Nat) (hb : b < 256) (out : List St) (seen p : St) (I : OutInv l b out seen) (hs : seen b = false) (hp : p b = true) (hc : ∀ x y, x < 256 → y < 256 → p x = true → (p y = true ↔ alikeB l x y = true)) :
    OutInv l (b + 1) (out ++ [p]) (fun y => seen y || p y) := by
  refine ⟨fun q hq x y hx hy h => ?_, fun x hx => ?_, fun x h1 h2 => ?_, ?_⟩
  · rcases List.mem_append.1 hq with h' | h'
    · exact I.cls q h' x y hx hy h
    · simp at h'; subst h'; exact hc x y hx hy h
  · simp only [Bool.or_eq_true, I.seen x hx, List.mem_append, List.mem_singleton]
    constructor
    · rintro (⟨q, hq, h⟩ | h)
      · exact ⟨q, .inl hq, h⟩
      · exact ⟨p, .inr rfl, h⟩
    · rintro ⟨q, hq | rfl, h⟩
      · exact .inl ⟨q, hq, h⟩
      · exact .inr h
  · by_cases e : x = b
    · subst e; simp [hp]
    · simp [I.upto x (by omega) h2]
  · rw [List.pairwise_append]
    refine ⟨I.apart, by simp, fun q hq p' hp' x hx hqx => ?_⟩
    simp at hp'; subst hp'
    cases hpx : p' x with
    | false => rfl
    | true =>
      exfalso
      have h1 := (hc x b hx hb hpx).1 hp
      have h2 := (I.cls q hq x b hx hb hqx).2 h1
      have h3 := (I.seen b hb).2 ⟨q, hq, h2⟩
      rw [hs] at h3; cases h3
theorem out_same (l : List St) : ∀ b, b ≤ 256 → OutInv l b (outSt (psTo l l.length) b).1 (outSt (psTo l l.length) b).2 ∧
    (outSt (psTo l l.length) b).1.map bcs = (rpSt l b).1.map bcs ∧ ∀ x, x < 256 → (outSt (psTo l l.length) b).2 x = (rpSt l b).2 x
  | 0, _ => by
    rw [outSt_zero, rpSt_zero]
    exact ⟨⟨by simp, by simp, by simp, by simp⟩, rfl, fun _ _ => rfl⟩
  | b + 1, h => by
    obtain ⟨I, e1, e2⟩ := out_same l b (by omega)
    cases hs : (outSt (psTo l l.length) b).2 b with
    | true =>
      rw [outSt_skip _ b hs, rpSt_skip l b (by rw [← e2 b (by omega)]; exact hs)]
      refine ⟨⟨I.cls, I.seen, fun x h1 h2 => ?_, I.apart⟩, e1, e2⟩
      by_cases e : x = b
      · subst e; exact hs
      · exact I.upto x (by omega) h2
    | false =>
      obtain ⟨A, p, B, hps, hpb, hA, hB⟩ := (parts_good l).one b (by omega)
      have hfold := fold_one b _ A B p (outSt (psTo l l.length) b) hps hpb hA hB
      have hnew : outSt (psTo l l.length) (b + 1) = ((outSt (psTo l l.length) b).1 ++ [p], fun y => (outSt (psTo l l.length) b).2 y || p y) := by
        rw [outSt_new _ b (psTo l l.length).length hs (Nat.le_refl _), outIn_all, hfold]
      have hmem : p ∈ psTo l l.length := by rw [hps]; simp
      have hc := (parts_good l).cls p hmem
      rw [hnew, rpSt_new l b (by rw [← e2 b (by omega)]; exact hs)]
      have hpc : ∀ y, y < 256 → p y = cls l b y := fun y hy => by
        rw [Bool.eq_iff_iff, hc b y (by omega) hy hpb, cls_at]
        simp only [Bool.and_eq_true, decide_eq_true_eq]
        refine ⟨fun h1 => ⟨?_, h1⟩, fun h1 => h1.2⟩
        rcases Nat.lt_or_ge y b with h2 | h2
        · exfalso
          have h3 := I.upto y h2 hy
          obtain ⟨q, hq, hqy⟩ := (I.seen y hy).1 h3
          have h4 := (I.cls q hq y b hy (by omega) hqy).2 (alike_symm h1)
          have h5 := (I.seen b (by omega)).2 ⟨q, hq, h4⟩
          rw [hs] at h5; cases h5
        · exact h2
      refine ⟨out_step l b (by omega) _ _ p I hs hpb hc, ?_, fun x hx => ?_⟩
      · simp only [List.map_append, List.map_cons, List.map_nil, e1]
        rw [bcs_congr hpc]
      · simp only [e2 x hx, hpc x hx]
theorem same_parts (l : List St) : (partsOf l).length = (rpartsOf l).length ∧ ∀ i, i < (partsOf l).length → eqS (nth (partsOf l) i) (nth (rpartsOf l) i) = true := by
  have e := (out_same l 256 (Nat.le_refl _)).2.1
  have hl : (partsOf l).length = (rpartsOf l).length := by have := congrArg List.length e; simpa [partsOf, rpartsOf] using this
  refine ⟨hl, fun i hi => ?_⟩
  have h1 : ((partsOf l).map bcs)[i]? = ((rpartsOf l).map bcs)[i]? := by
    show ((outSt (psTo l l.length) 256).1.map bcs)[i]? = ((rpSt l 256).1.map bcs)[i]?
    rw [e]
  simp only [List.getElem?_map, nth_some _ i hi, nth_some _ i (by omega : i < (rpartsOf l).length), Option.map_some, Option.some.injEq] at h1
  exact eqS_iff.2 (bcs_inj h1)
/- in one part exactly if in the same sets -/
theorem one_part (l : List St) (x y : Nat) (hx : x < 256) (hy : y < 256) : ∃ A p B, partsOf l = A ++ p :: B ∧ p x = true ∧ p y = alikeB l x y ∧ (∀ q ∈ A, q x = false) ∧ ∀ q ∈ B, q x = false := by
  have I := (out_same l 256 (Nat.le_refl _)).1
  obtain ⟨p, hp, hpx⟩ := (I.seen x hx).1 (I.upto x hx hx)
  obtain ⟨A, B, hAB⟩ := List.append_of_mem hp
  have hap := I.apart
  rw [hAB, List.pairwise_append, List.pairwise_cons] at hap
  refine ⟨A, p, B, hAB, hpx, ?_, fun q hq => ?_, fun q hq => hap.2.1.1 q hq x hx hpx⟩
  · rw [Bool.eq_iff_iff]; exact I.cls p hp x y hx hy hpx
  · have := hap.2.2 q hq p (by simp) x hx
    cases hqx : q x with
    | false => rfl
    | true => have := this hqx; rw [hpx] at this; cases this
/- what the law counts -/
def cntX (ps : List St) (x i : Nat) : Nat := ((ps.take i).filter fun p => p x).length
def togX (ps : List St) (x y i : Nat) : Bool := (ps.take i).foldl (fun t p => if p x then p y else t) false
theorem cntX_zero (ps : List St) (x : Nat) : cntX ps x 0 = 0 := rfl
theorem togX_zero (ps : List St) (x y : Nat) : togX ps x y 0 = false := rfl
theorem cntX_hit (ps : List St) (x i : Nat) (hi : i < ps.length) (h : (nth ps i) x = true) : cntX ps x (i + 1) = cntX ps x i + 1 := by simp [cntX, take_succ_nth ps i hi, h]
theorem cntX_skip (ps : List St) (x i : Nat) (hi : i < ps.length) (h : (nth ps i) x = false) : cntX ps x (i + 1) = cntX ps x i := by simp [cntX, take_succ_nth ps i hi, h]
theorem togX_hit (ps : List St) (x y i : Nat) (hi : i < ps.length) (h : (nth ps i) x = true) : togX ps x y (i + 1) = (nth ps i) y := by simp [togX, take_succ_nth ps i hi, h]
theorem togX_skip (ps : List St) (x y i : Nat) (hi : i < ps.length) (h : (nth ps i) x = false) : togX ps x y (i + 1) = togX ps x y i := by simp [togX, take_succ_nth ps i hi, h]
theorem cntX_le (ps : List St) (x i : Nat) : cntX ps x i ≤ i := by
  have := List.length_filter_le (fun p : St => p x) (ps.take i); simp at this; unfold cntX; omega
theorem split_end (l : List St) (x y i : Nat) (hx : x < 256) (hy : y < 256) (hi : (partsOf l).length ≤ i) : cntX (partsOf l) x i = 1 ∧ togX (partsOf l) x y i = alikeB l x y := by
  obtain ⟨A, p, B, e, h1, h2, hA, hB⟩ := one_part l x y hx hy
  have f0 : ∀ C : List St, (∀ q ∈ C, q x = false) → C.filter (fun p => p x) = [] := fun C hC => by
    rw [List.filter_eq_nil_iff]; intro q hq; simp [hC q hq]
  have g0 : ∀ (C : List St) (t : Bool), (∀ q ∈ C, q x = false) → C.foldl (fun t p => if p x then p y else t) t = t := by
    intro C
    induction C with
    | nil => intro t _; rfl
    | cons q C ih => intro t h; rw [List.foldl_cons, if_neg (by simp [h q (by simp)])]; exact ih t fun q hq => h q (by simp [hq])
  unfold cntX togX
  rw [List.take_of_length_le hi, e]
  constructor
  · rw [List.filter_append, f0 A hA, List.filter_cons, if_pos h1, f0 B hB]; rfl
  · rw [List.foldl_append, g0 A _ hA, List.foldl_cons, if_pos h1, g0 B _ hB, h2]
/- at no set -/
theorem parts_nil : partsOf [] = [ofP 0 255] := by
  have h1 : outSt (psTo [] 0) 1 = ([ofP 0 255], fun y => false || ofP 0 255 y) := by
    rw [outSt_new _ 0 1 (by rw [outSt_zero]) (by rw [psTo_zero]; simp), psTo_zero, show (1 : Nat) = [ofP 0 255].length from rfl, outIn_all]
    simp [stp, ofP, outSt_zero]
  have : ∀ b, b ≤ 255 → outSt (psTo [] 0) (b + 1) = ([ofP 0 255], fun y => false || ofP 0 255 y) := by
    intro b
    induction b with
    | zero => intro _; exact h1
    | succ b ih =>
      intro h
      have ih := ih (by omega)
      rw [outSt_skip _ (b + 1) (by rw [ih]; simp [ofP]; omega), ih]
  have := congrArg Prod.fst (this 255 (Nat.le_refl _))
  exact this
end Go.GK
