/- From a net to a table: sets of states, the moves between them. -/
import Derived.Test.YtjmbmodmepdmjabDoorLawClo
import Derived.Test.YtjmbmodmepdmjabDoorLawMin
namespace Go.GL
open Go.GK
def mvE (b : Nat) (row : List (BSet × Int × Int)) : List Int := (row.filter fun e => e.1 b).map fun e => e.2.1
def mv (N : NT) (S : List Int) (b : Nat) : List Int := S.flatMap fun s => mvE b (N.2.1.getD s.toNat [])
inductive Rch (N : NT) (a : Int) : List Int → Prop
  | start : Rch N a (cloD N [a])
  | step {S : List Int} {b : Nat} : Rch N a S → b < 256 → mv N S b ≠ [] → Rch N a (cloD N (mv N S b))
theorem cloD_len (N : NT) (l : List Int) : (cloD N l).length ≤ N.1.length := stl_len _ _
theorem Rch.is {N : NT} {a : Int} {S : List Int} (h : Rch N a S) : ∃ l, S = cloD N l := by cases h <;> exact ⟨_, rfl⟩
theorem Rch.len {N : NT} {a : Int} {S : List Int} (h : Rch N a S) : S.length ≤ N.1.length := by obtain ⟨l, rfl⟩ := h.is; exact cloD_len N l
theorem Rch.rg {N : NT} {a : Int} {S : List Int} (h : Rch N a S) {x : Int} (hx : x ∈ S) : 0 ≤ x ∧ x < N.1.length := by
  obtain ⟨l, rfl⟩ := h.is
  have := mem_cloD.1 hx
  exact ⟨this.1, this.2.1⟩
theorem mvE_len (b : Nat) (row : List (BSet × Int × Int)) : (mvE b row).length ≤ row.length := by
  unfold mvE; rw [List.length_map]; exact List.length_filter_le _ _
theorem row_get {N : NT} {c : Nat} (hN : NB N c) {s : Int} (h0 : 0 ≤ s) (h1 : s < N.1.length) : N.2.1[s.toNat]? = some (N.2.1.getD s.toNat []) := by
  have := hN.eq
  rw [List.getD_eq_getElem?_getD, List.getElem?_eq_getElem (by omega)]; rfl
theorem row_len {N : NT} {c : Nat} (hN : NB N c) (k : Nat) : (N.2.1.getD k []).length ≤ c := by
  rw [List.getD_eq_getElem?_getD]
  cases hk : N.2.1[k]? with
  | none => simp
  | some l => exact hN.r2 l (List.mem_of_getElem? hk)
theorem mv_rg {N : NT} {c : Nat} (hN : NB N c) {S : List Int} {b : Nat} {x : Int} (hx : x ∈ mv N S b) : 0 ≤ x ∧ x < N.1.length := by
  obtain ⟨s, _, hx⟩ := List.mem_flatMap.1 hx
  obtain ⟨e, he, rfl⟩ := List.mem_map.1 hx
  have he := (List.mem_filter.1 he).1
  rw [List.getD_eq_getElem?_getD] at he
  cases hk : N.2.1[s.toNat]? with
  | none => rw [hk] at he; cases he
  | some l => rw [hk] at he; exact hN.t2 l (List.mem_of_getElem? hk) e he
theorem mv_len {N : NT} {c : Nat} (hN : NB N c) (hc : c ≤ 4000) {S : List Int} (b : Nat) (hS : S.length ≤ N.1.length) : (mv N S b).length ≤ 16000000 := by
  have h1 := flat_len (l := S) (g := fun s => mvE b (N.2.1.getD s.toNat [])) (c := 4000) fun s _ => by
    have := mvE_len b (N.2.1.getD s.toNat []); have := row_len hN s.toNat; omega
  have h2 : S.length ≤ 4000 := by have := hN.len; omega
  have := Nat.mul_le_mul h2 (Nat.le_refl 4000)
  unfold mv; omega
theorem b12_ok {P : Tb → Prop} {p : BSet} {k fu : Nat} {nx : (List Int × Nat) → Option Tb} {row : List (BSet × Int × Int)} {pre : List Int} (hr : row.length ≤ 4000) (hp : pre.length ≤ 100000000) (hf : 200000000 ≤ fu)
    (hn : Ok (nx (pre ++ mvE (lst p) row, k + 1)) P) : Ok (loopK fu (fun q nx' => au_net_determine_b12 fu p k nx row q.1 q.2 nx') (pre, 0)) P := by
  refine Ok.range (fun j s => s = pre ++ mvE (lst p) (row.take j)) row.length (by simp [mvE]) (by omega) (fun j s nx2 hj hJ hn2 => ?_) (fun s nx2 hJ => ?_)
  · subst hJ
    unfold au_net_determine_b12
    dsimp only
    have hl := mvE_len (lst p) (row.take j)
    have htl : (row.take j).length ≤ row.length := by rw [List.length_take]; omega
    have hnx : mvE (lst p) (row.take (j + 1)) = mvE (lst p) (row.take j) ++ if row[j].1 (lst p) then [row[j].2.1] else [] := by
      rw [show row.take (j + 1) = row.take j ++ [row[j]] from (List.take_append_getElem hj).symm]
      unfold mvE
      rw [List.filter_append, List.map_append]
      congr 1
      rw [List.filter_cons]
      split <;> rfl
    refine Ok.iT (by omega) (Ok.idxN hj ?_)
    rw [Int.toNat_natCast]
    refine Ok.bif (fun h => Ok.chk (by rw [List.length_append]; simp only [List.length_cons, List.length_nil]; unfold capN; omega) (hn2 _ ?_)) fun h => hn2 _ ?_
    · rw [hnx, if_pos h, ← List.append_assoc]
    · rw [hnx, if_neg (by rw [h]; decide), List.append_nil]
  · subst hJ
    unfold au_net_determine_b12
    dsimp only
    rw [List.take_of_length_le (Nat.le_refl _)]
    exact Ok.iF (by omega) hn
/- the sets so far, and the map of their keys -/
structure SM (N : NT) (a : Int) (L : List (List Int)) (m : List (Str × Int)) : Prop where
  nd : L.Nodup
  rc : ∀ S ∈ L, Rch N a S
  mp : MapSays m (L.map keyT)
theorem Rch.key_inj {N : NT} {a : Int} {S T : List Int} (h : Rch N a S) (k : Rch N a T) (e : keyT S = keyT T) : S = T := GL.key_inj (fun _ hz => (h.rg hz).1) (fun _ hz => (k.rg hz).1) e
theorem idxOf_mapInj {α β : Type} [BEq α] [LawfulBEq α] [BEq β] [LawfulBEq β] {f : α → β} {x : α} : ∀ {L : List α}, (∀ y ∈ L, f y = f x → y = x) → (L.map f).idxOf (f x) = L.idxOf x
  | [], _ => rfl
  | y :: L, h => by
    rw [List.map_cons, List.idxOf_cons, List.idxOf_cons, idxOf_mapInj fun z hz => h z (by simp [hz])]
    by_cases e : y = x
    · subst e; simp
    · have : ¬ f y = f x := fun e' => e (h y (by simp) e')
      rw [beq_eq_false_iff_ne.2 e, beq_eq_false_iff_ne.2 this]
theorem SM.has {N : NT} {a : Int} {L : List (List Int)} {m : List (Str × Int)} (h : SM N a L m) {S : List Int} (hS : Rch N a S) : (fmGet m (keyT S)).isSome = decide (S ∈ L) := by
  rw [h.mp.some]
  refine decide_eq_decide.2 ⟨fun h' => ?_, fun h' => List.mem_map_of_mem h'⟩
  obtain ⟨T, hT, e⟩ := List.mem_map.1 h'
  rw [← (h.rc T hT).key_inj hS e]; exact hT
theorem SM.num {N : NT} {a : Int} {L : List (List Int)} {m : List (Str × Int)} (h : SM N a L m) {S : List Int} (hS : S ∈ L) : (fmGet m (keyT S)).getD 0 = ((L.idxOf S : Nat) : Int) := by
  rw [h.mp.getD (List.mem_map_of_mem hS), idxOf_mapInj fun T hT e => (h.rc T hT).key_inj (h.rc S hS) e]
theorem SM.len {N : NT} {a : Int} {L : List (List Int)} {m : List (Str × Int)} (h : SM N a L m) : m.length = L.length := by rw [h.mp.1, List.length_map]
theorem SM.put {N : NT} {a : Int} {L : List (List Int)} {m : List (Str × Int)} (h : SM N a L m) {S : List Int} (hS : Rch N a S) (hn : S ∉ L) : SM N a (L ++ [S]) (fmPut m (keyT S) (L.length : Int)) := by
  refine ⟨List.nodup_append.2 ⟨h.nd, by simp, fun x hx y hy => ?_⟩, fun T hT => ?_, ?_⟩
  · simp at hy; subst hy; exact fun e => hn (e ▸ hx)
  · rcases List.mem_append.1 hT with hT | hT
    · exact h.rc T hT
    · simp at hT; subst hT; exact hS
  · have := h.mp.put (x := keyT S) fun h' => by
      obtain ⟨T, hT, e⟩ := List.mem_map.1 h'
      rw [(h.rc T hT).key_inj hS e] at hT; exact hn hT
    rw [List.length_map] at this
    rw [List.map_append]; exact this
/- one move -/
theorem b11_ok {P : Tb → Prop} {N : NT} {c fu j B : Nat} {a : Int} {p : BSet} {S : List Int} {L : List (List Int)} {ms : List (BSet × Int)} {m : List (Str × Int)} {nx : (List (List Int) × List (BSet × Int) × List (Str × Int) × Nat) → Option Tb}
    (hN : NB N c) (hc : c ≤ 4000) (hS : Rch N a S) (hL : SM N a L m) (hB : ∀ L : List (List Int), L.Nodup → (∀ S ∈ L, Rch N a S) → L.length ≤ B) (hB' : B ≤ 100000000) (hms : ms.length ≤ 100000) (hf : 200000000 ≤ fu)
    (hskip : mv N S (lst p) = [] → Ok (nx (L, ms, m, j + 1)) P)
    (hnew : mv N S (lst p) ≠ [] → ∀ L' m' more, SM N a L' m' → L' = L ++ more → cloD N (mv N S (lst p)) ∈ L' → Ok (nx (L', ms ++ [(p, ((L'.idxOf (cloD N (mv N S (lst p))) : Nat) : Int))], m', j + 1)) P) :
    Ok (loopK fu (fun q nx' => au_net_determine_b11 fu N L ms m j nx p S q.1 q.2 nx') (([] : List Int), 0)) P := by
  have hlen := hN.len
  have hSl := hS.len
  refine Ok.range (fun i s => s = mv N (S.take i) (lst p)) S.length rfl (by omega) (fun i s nx2 hi hJ hn2 => ?_) (fun s nx2 hJ => ?_)
  · subst hJ
    unfold au_net_determine_b11
    dsimp only
    have hx := hS.rg (List.getElem_mem hi)
    have hl := mv_len hN hc (S := S.take i) (lst p) (by rw [List.length_take]; omega)
    refine Ok.iT (by omega) (Ok.idxN hi (Ok.idx? hx.1 (row_get hN hx.1 hx.2) (b12_ok (by have := row_len hN S[i].toNat; omega) (by omega) hf (hn2 _ ?_))))
    rw [show S.take (i + 1) = S.take i ++ [S[i]] from (List.take_append_getElem hi).symm]
    unfold mv
    rw [List.flatMap_append]; simp
  · subst hJ
    unfold au_net_determine_b11
    dsimp only
    rw [List.take_of_length_le (Nat.le_refl _)]
    refine Ok.iF (by omega) (Ok.ite (fun h => hskip (List.length_eq_zero_iff.1 (by omega))) fun h => ?_)
    have hne : mv N S (lst p) ≠ [] := fun e => by rw [e] at h; exact h rfl
    have hR : Rch N a (cloD N (mv N S (lst p))) := .step hS (lst_lt p) hne
    refine Ok.bnd (closure_ok hN hc (fun x hx => mv_rg hN hx) (by have := mv_len hN hc (lst p) hSl; omega) hf) fun r hr => ?_
    subst hr
    have hcl := cloD_len N (mv N S (lst p))
    have hnew := hnew hne
    generalize cloD N (mv N S (lst p)) = T at hR hcl hnew
    refine Ok.bnd (key_ok (fun x hx => by have := hR.rg hx; omega) (by omega) hf) fun r hr => ?_
    obtain ⟨rfl, hk⟩ := hr
    have hLB := hB L hL.nd hL.rc
    have hml := hL.len
    rw [hL.has hR]
    refine Ok.chk (by unfold capN; omega) (Ok.bif (fun h1 => ?_) fun h1 => ?_)
    · have h1 : T ∉ L := by simpa using h1
      have hput := hL.put hR h1
      refine Ok.chk (by unfold capN; omega) (Ok.chk (by unfold F64; omega) (Ok.chk (by unfold capN; omega) (Ok.chk (by simp only [List.length_cons, List.length_nil]; unfold capN; omega) ?_)))
      unfold au_net_determine_j13
      rw [hput.num (by simp)]
      exact Ok.chk (by unfold capN; omega) (Ok.chk (by simp only [List.length_cons, List.length_nil]; unfold capN; omega) (hnew _ _ [T] hput rfl (by simp)))
    · have h1 : T ∈ L := by simpa using h1
      unfold au_net_determine_j13
      rw [hL.num h1]
      exact Ok.chk (by unfold capN; omega) (Ok.chk (by simp only [List.length_cons, List.length_nil]; unfold capN; omega) (hnew _ _ [] hL (by simp) h1))
theorem contains_ok {l : List Int} {x : Int} {fu : Nat} (hl : l.length ≤ 100000000) (hf : 200000000 ≤ fu) : Ok (slices_Contains fu l x) (fun r => r = decide (x ∈ l)) := by
  unfold slices_Contains
  refine Ok.bnd (Q := fun i => 0 ≤ i ↔ x ∈ l) ?_ fun i hi => Ok.some (decide_eq_decide.2 hi)
  unfold slices_Index
  refine Ok.count (fun k => x ∉ l.take k) l.length (by simp) (by omega) (fun k nx hk hJ hn => ?_) (fun nx hJ => ?_)
  · unfold slices_Index_b1
    refine Ok.iT (by omega) (Ok.idxN hk (Ok.ite (fun h => Ok.some ⟨fun _ => ?_, fun _ => by omega⟩) fun h => hn ?_))
    · rw [h]; exact List.getElem_mem hk
    · rw [mem_take_succ hk]; rintro (h1 | h1)
      · exact hJ h1
      · exact h h1
  · unfold slices_Index_b1
    rw [List.take_of_length_le (Nat.le_refl _)] at hJ
    exact Ok.iF (by omega) (Ok.some ⟨fun h => absurd h (by decide), fun h => absurd h hJ⟩)
end Go.GL
