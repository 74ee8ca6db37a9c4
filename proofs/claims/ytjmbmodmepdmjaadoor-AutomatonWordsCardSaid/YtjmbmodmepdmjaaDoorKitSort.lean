/- slices.SortFunc at structs, where the comparison parts the elements. -/
import Derived.Test.YtjmbmodmepdmjaaDoorKitSl
import Derived.Shelf.SlSortCmp.NoneTotal
namespace Go.GK
open Go.Proofs Go.Shelf Go.Sort
def cmpLo (x y : Int × Int × Int) : Option Int := some (x.1 - y.1)
section
variable {α : Type} (cmp : α → α → Option Int)
def ltC (x y : α) : Bool := decide ((cmp x y).getD 0 < 0)
def CmpOk (l : List α) : Prop :=
  (∀ i j : Fin l.length, (cmp l[i] l[j]).isSome = true) ∧ (∀ i : Fin l.length, ltC cmp l[i] l[i] = false) ∧ (∀ i j k : Fin l.length, ltC cmp l[i] l[j] = true → ltC cmp l[j] l[k] = true → ltC cmp l[i] l[k] = true) ∧
  (∀ i j k : Fin l.length, ltC cmp l[i] l[j] = false → ltC cmp l[j] l[k] = false → ltC cmp l[i] l[k] = false) ∧ (∀ i j : Fin l.length, ltC cmp l[i] l[j] = false → ltC cmp l[j] l[i] = false → i = j)
instance (l : List α) : Decidable (CmpOk cmp l) := by unfold CmpOk; infer_instance
def sortF (l : List α) : List α := isortB (fun x y => !ltC cmp y x) l
theorem sortF_length (l : List α) : (sortF cmp l).length = l.length := (isortB_perm _ l).length_eq
end
theorem LayL.chunk {α : Type} {c : Cd α} {H : Hp} {l : List α} {xs : List Value} (h : LayL c H l xs) (i : Fin l.length) : c.Lay H l[i] ((xs.drop (i * c.sz)).take c.sz) := by
  obtain ⟨cs, h1, _, h3⟩ := h.get (i := i) (x := l[i]) (by simp)
  rw [← h3]; exact h1
theorem LayL.of_chunks {α : Type} {c : Cd α} {H : Hp} {ι : Type} (f : ι → α) (g : ι → List Value) (h : ∀ i, c.Lay H (f i) (g i)) : ∀ is : List ι, LayL c H (is.map f) (is.map g).flatten
  | [] => rfl
  | i :: is => ⟨g i, (is.map g).flatten, rfl, h i, LayL.of_chunks f g h is⟩
theorem flatK_list {β : Type} [Inhabited β] (enc : β → List Value) (k : Nat) (hk : ∀ x, (enc x).length = k) (d : Array β) : (flatK enc k d).toList = (d.toList.map enc).flatten := by
  have key : ∀ (l : List β) (t : Nat) (ht : t < l.length * k) (h2 : t < (l.map enc).flatten.length), (l.map enc).flatten[t] = (enc (l.toArray[t / k]!))[t % k]! := by
    intro l
    induction l with
    | nil => intro t ht; simp at ht
    | cons a l ih =>
      intro t ht h2
      simp only [List.map_cons, List.flatten_cons]
      have k0 : 0 < k := by rcases Nat.eq_zero_or_pos k with h | h
                            · subst h; simp at ht
                            · exact h
      by_cases hlt : t < k
      · rw [List.getElem_append_left (by rw [hk]; exact hlt), Nat.div_eq_of_lt hlt, Nat.mod_eq_of_lt hlt]
        have : t < (enc a).length := by rw [hk]; exact hlt
        simp [this]
      · have hl := hk a
        rw [List.getElem_append_right (by rw [hk]; omega)]
        have e : t - (enc a).length = t - k := by rw [hk]
        have hd : t / k = (t - k) / k + 1 := by rw [← Nat.sub_add_cancel (show k ≤ t by omega), Nat.add_sub_cancel, Nat.add_div_right _ k0]
        have hm : t % k = (t - k) % k := by rw [← Nat.sub_add_cancel (show k ≤ t by omega), Nat.add_sub_cancel, Nat.add_mod_right]
        have ih' := ih (t - k) (by simp only [List.length_cons, Nat.add_mul, Nat.one_mul] at ht; omega) (by simp only [List.map_cons, List.flatten_cons, List.length_append, hk] at h2; omega)
        rw [hd, hm]
        simp only [e]
        rw [ih']
        congr 2
        simp
  have hlen : ∀ l : List β, (l.map enc).flatten.length = l.length * k := by
    intro l; induction l with
    | nil => simp
    | cons a l ih => simp only [List.map_cons, List.flatten_cons, List.length_append, hk, List.length_cons, Nat.add_mul, Nat.one_mul, ih]; omega
  apply List.ext_getElem
  · simp [hlen]
  · intro t h1 h2
    have ht : t < d.size * k := by simpa using h1
    rw [key d.toList t (by simpa using ht) h2]
    simp [flatK]

theorem grownBy_sortK {β : Type} [Inhabited β] (enc : β → List Value) (k : Nat) (w : World) (g m : Nat) (d : Array β) (os : Array Obj) : w.grownBy (sortWorldK enc k w g 0 m d os) (some g) := by
  refine ⟨rfl, rfl, rfl, by simp [sortWorldK, putRowK], fun b hb hne => ?_⟩
  have : g ≠ b := fun e => hne (by rw [e])
  unfold sortWorldK
  rw [heap_grow_old _ _ (by simpa [putRowK] using hb)]
  simp [putRowK, putRow, mapBlock, Sort.ahead, Array.getElem?_modify, this]
theorem heap_sortK {β : Type} [Inhabited β] (enc : β → List Value) (k : Nat) {w : World} {g : Nat} (m : Nat) (d : Array β) (os : Array Obj) {cur : Array Value} {e : TypeId} {fr : Nat × Nat} (hb : w.heap[g]? = some (.cells cur e fr)) :
    (sortWorldK enc k w g 0 m d os).heap[g]? = some (.cells (putCells id 0 (flatK enc k d) cur) e fr) := by
  have hg : g < w.heap.size := (Array.getElem?_eq_some_iff.1 hb).1
  unfold sortWorldK
  rw [heap_grow_old _ _ (by simpa [putRowK] using hg)]
  simp [putRowK, putRow, mapBlock, Sort.ahead, Array.getElem?_modify, hb, onCells]
theorem take_putId (cur F : Array Value) (h : F.size ≤ cur.size) : (putCells id 0 F cur).toList.take F.size = F.toList := by
  apply List.ext_getElem?
  intro j
  by_cases hj : j < F.size
  · rw [List.getElem?_take_of_lt hj, Array.getElem?_toList]
    simp [putCells, hj, show j < cur.size by omega]
  · rw [List.getElem?_take_eq_none (by omega), List.getElem?_eq_none (by simp; omega)]
theorem map_finRange {α : Type} (l : List α) : (List.finRange l.length).map (fun i => l[i]) = l := by
  apply List.ext_getElem (by simp)
  intro i h1 h2; simp
section
variable {P : Program} {ρ : Ren} {H : Hp} {O : List Res} {α : Type} {c : Cd α}
theorem Tri.sortFn (Ly : SlLaysF0.n6 P ρ) (aE : ∀ w, (isAgg (ρ.t 24)).run P w = .ok true w) (zE : ∀ w, (Go.sizeOf (ρ.t 24)).run P w = .ok c.sz w) {g : Nat} (eg : ∀ args w, (callFunc g args).run P w = .ok (.enter g args) w) {cmp : α → α → Option Int}
    (hcmp : ∀ (H : Hp) (x y : α) (r : Int) (cs1 cs2 : List Value), c.Lay H x cs1 → c.Lay H y cs2 → cmp x y = some r → ∀ W, Calls P g #[.agg cs1.toArray, .agg cs2.toArray] W fun e w' => e = .returned (.int .i64 r) ∧ ∃ q os', w' = grow (W.drewN q) os')
    {l : List α} {v : Value} {e : TypeId} {xs : List Value} (hL : LayL c H l xs) (hok : CmpOk cmp l) (hn : l.length ≤ capN) :
    Tri P (ρ.f 6) [v, .func (.func g) #[] #[]] H (.row v e c.sz l.length xs :: O) (fun r H' O' => ∃ xs', .tuple #[] = r ∧ LayL c H' (sortF cmp l) xs' ∧ .row v e c.sz (sortF cmp l).length xs' :: O = O') := fun w hs => by
  have hlen := sortF_length cmp l
  have hown := hs.ok 0 _ rfl
  simp only [Res.ok] at hown
  by_cases hnil : l = []
  · subst hnil
    have hv : ∃ p cap, v = .slice p 0 cap := by
      rcases hown.2 with ⟨rfl, _⟩ | ⟨g, cap, cur, rfl, _⟩ <;> exact ⟨_, _, rfl⟩
    obtain ⟨p, cap, rfl⟩ := hv
    refine (AnyF.slices_SortFunc_none Ly p cap _ w).mono fun e' w' ⟨g1, g2⟩ => ?_
    subst g2
    exact ⟨_, H, _, g1, Hp.le.refl H, hs, xs, rfl, by simpa [sortF, isortB] using hL, by simp [sortF, isortB]⟩
  · have hpos : 0 < l.length := List.length_pos_iff.2 hnil
    rcases hown.2 with ⟨rfl, hz⟩ | ⟨b, cap, cur, rfl, _, hg, hnc, hcm, hcs, htake⟩
    · omega
    letI : Inhabited (Fin l.length) := ⟨⟨0, hpos⟩⟩
    let enc : Fin l.length → List Value := fun i => (xs.drop (i * c.sz)).take c.sz
    let cf : Fin l.length → Fin l.length → Int := fun i j => (cmp l[i] l[j]).getD 0
    have hk : ∀ i, (enc i).length = c.sz := fun i => c.len (hL.chunk i)
    have h1c : ∀ i, ∀ u ∈ enc i, u.oneCell' = true := fun i => c.one (hL.chunk i)
    obtain ⟨k1, k2, k3, k4, k5⟩ := hok
    have hO : SWO (ltOf cf) := ⟨k2, k3, k4⟩
    have hflat : (flatK enc c.sz (List.finRange l.length).toArray).toList = xs := by
      rw [flatK_list enc c.sz hk]
      have hx := hL.len
      apply List.ext_getElem?
      intro t
      have key : ∀ (n : Nat) (xs : List Value), xs.length = n * c.sz → ((List.finRange n).map fun i : Fin n => (xs.drop (i * c.sz)).take c.sz).flatten = xs := by
        intro n
        induction n with
        | zero => intro xs hx; simp at hx; subst hx; rfl
        | succ n ih =>
          intro xs hx
          rw [List.finRange_succ, List.map_cons, List.flatten_cons, List.map_map]
          have := ih (xs.drop c.sz) (by rw [List.length_drop, hx, Nat.add_mul]; omega)
          have e : (List.map ((fun i : Fin (n + 1) => (xs.drop (i * c.sz)).take c.sz) ∘ Fin.succ) (List.finRange n)) = (List.finRange n).map fun i : Fin n => ((xs.drop c.sz).drop (i * c.sz)).take c.sz := by
            apply List.map_congr_left
            intro i _
            simp only [Function.comp, Fin.val_succ, List.drop_drop]
            congr 2
            rw [Nat.add_mul]; omega
          rw [e, this]
          simp
      rw [show (List.finRange l.length).toArray.toList = List.finRange l.length from rfl, key l.length xs hx]
    have hsz : (List.finRange l.length).toArray.size = l.length := by simp
    have hbs : b < w.heap.size := (Array.getElem?_eq_some_iff.1 hg).1
    have hxl : xs.length = l.length * c.sz := hL.len
    have hH : HoldsK enc c.sz w b 0 (List.finRange l.length).toArray := by
      intro j hj
      have hF : flatK enc c.sz (List.finRange l.length).toArray = xs.toArray := by rw [← hflat]
      rw [hF] at hj ⊢
      have hj' : j < xs.length := by simpa using hj
      refine ⟨?_, by simp [World.frozen?, hg]⟩
      have := hown.cells (g := b) rfl j xs[j] (by simp [hj'])
      by_cases hj0 : j = 0
      · subst hj0; simpa [Addr.add, hj'] using this
      · simpa [Addr.add, hj', hj0] using this
    have main := AnyQ.slices_SortFunc_total Ly c.sz aE zE enc hk h1c cf hO g #[] b 0 cap (List.finRange l.length).toArray w eg
      (fun m os dk _ x y => by
        have hx := k1 x y
        obtain ⟨r, hr⟩ := Option.isSome_iff_exists.1 hx
        have hcf : cf x y = r := by show (cmp l[x] l[y]).getD 0 = r; rw [hr]; rfl
        rw [hcf]
        exact hcmp H l[x] l[y] r (enc x) (enc y) (hL.chunk x) (hL.chunk y) hr _)
      hH hbs (by simp only [capN] at hn; simp; omega) k5
    rw [hsz] at main
    refine main.mono fun e' w' ⟨g1, m, os, g2⟩ => ?_
    subst g2
    let d' : List (Fin l.length) := (List.finRange l.length).mergeSort fun x y => !(ltOf cf) y x
    have hd' : d'.map (fun i => l[i]) = sortF cmp l := by
      show ((List.finRange l.length).mergeSort _).map _ = _
      have e := isortB_eq (le := fun x y => !(ltOf cf) y x) (fun a b c h k => by
          have h' : ltOf cf b a = false := by simpa using h
          have k' : ltOf cf c b = false := by simpa using k
          have h4 : ltOf cf c a = false := k4 c b a k' h'
          simp [h4])
        (fun a b => by
          by_cases h : ltOf cf b a = true
          · right
            have : ltOf cf a b = false := by
              cases h2 : ltOf cf a b with
              | false => rfl
              | true => exact absurd (k3 b a b h h2) (by rw [k2 b]; simp)
            simp [this]
          · left; simp [Bool.eq_false_iff.2 h])
        (fun a b h k => by
          have h' : ltOf cf b a = false := by simpa using h
          have k' : ltOf cf a b = false := by simpa using k
          exact k5 a b k' h') (List.finRange l.length)
      have e2 := isortB_map (fun i : Fin l.length => l[i]) (fun x y => !ltC cmp y x) (List.finRange l.length)
      rw [map_finRange] at e2
      rw [← e]
      exact e2.symm
    have hd'l : d'.length = l.length := by simp [d']
    have hlay : LayL c H (sortF cmp l) (flatK enc c.sz d'.toArray).toList := by
      rw [flatK_list enc c.sz hk, ← hd']
      exact LayL.of_chunks (fun i => l[i]) enc (fun i => hL.chunk i) d'
    have hFs : (flatK enc c.sz d'.toArray).size = l.length * c.sz := by simp [hd'l]
    refine ⟨_, H, _, g1, Hp.le.refl H, hs.set (i := 0) (r' := .row (.slice (some ⟨b, 0, none⟩) l.length cap) e c.sz (sortF cmp l).length (flatK enc c.sz d'.toArray).toList) rfl (grownBy_sortK enc c.sz w b m d'.toArray os) ?_ ?_, _, rfl, hlay, rfl⟩
    · show World.ownsRow _ 0 e c.sz _ _ _
      rw [hlen]
      refine ⟨by simp [hFs], .inr ⟨b, cap, _, rfl, Nat.zero_le _, heap_sortK enc c.sz m d'.toArray os hg, hnc, hcm, by simp [putCells, hcs], ?_⟩⟩
      have hle : (flatK enc c.sz d'.toArray).size ≤ cur.size := by rw [hFs, hcs]; exact Nat.mul_le_mul_right _ hnc
      rw [← hFs]; exact take_putId cur _ hle
    · intro q hq; exact .inl hq
end
end Go.GK
