/- Parts of slices and of strings. -/
import Derived.Test.YtjmbmodmepdmjaaDoorKitBy
namespace Go.GK
def slV (v : Value) (lo hi sz : Nat) : Value := match v with
  | .slice a _ cap => sliced a lo hi cap sz
  | _ => undef
def slD {α : Type} (l : List α) (lo hi : Int) : List α := (l.take hi.toNat).drop lo.toNat
/- the bounds of a part, as they are given -/
def SBnd (E : Operand → Option Value) (lo hi : Option Operand) (l h : Int) (n : Nat) : Prop :=
  (lo = none ∧ l = 0 ∨ ∃ p k, lo = some p ∧ E p = some (.int k l)) ∧ (hi = none ∧ h = (n : Int) ∨ ∃ p k, hi = some p ∧ E p = some (.int k h))
section
variable {P : Program} {T : TypeId} {E : Operand → Option Value} {H : Hp} {O : List Res} {α : Type} {c : Cd α}
theorem add_zero_addr (a : Addr) : a.add 0 = a := by cases a; simp [Addr.add]
theorem elem_of {t e : TypeId} (ht : P.underlying t = some (.slice e)) : P.underlying t = some (.slice (P.elem t)) := by simp [Program.elem, ht]
theorem elem_eq {t e : TypeId} (ht : P.underlying t = some (.slice e)) : P.elem t = e := by simp [Program.elem, ht]
theorem run_sl {t e : TypeId} {size bytes : Nat} {z : Value} {a : Option Addr} {n cap : Nat} {lo hi : Option Operand} {l h : Int} {ac : Act} (ht : P.underlying t = some (.slice e)) (hz : TI P e size bytes z) (hB : SBnd E lo hi l h n) (he : ∀ x v, E x = some v → ac.eval x = v)
    (h0 : 0 ≤ l) (h1 : l ≤ h) (h2 : h ≤ (n : Nat)) (h3 : n ≤ cap) (w : World) : (Instr.sliceAt t (.slice a n cap) (lo.map ac.eval) (hi.map ac.eval) none).run P w = .ok (sliced a l.toNat h.toNat cap size) w := by
  have ht' := elem_of ht
  have hs : (Go.sizeOf (P.elem t)).run P w = .ok size w := by rw [elem_eq ht]; exact hz.sizeOf
  rw [run_sliceAt_slice (h := ht')]
  obtain ⟨hl, hh⟩ := hB
  rcases hl with ⟨rfl, rfl⟩ | ⟨p, k, rfl, hp⟩ <;> rcases hh with ⟨rfl, rfl⟩ | ⟨q, k', rfl, hq⟩
  · simp only [Option.map_none]; rw [run_slice_all (t := t) (a := a) (len := n) (cap := cap) (ht := ht'), hs]; simp [Result.andThen]
  · simp only [Option.map_none, Option.map_some, he q _ hq]; rw [run_slice_h (t := t) (a := a) (len := n) (cap := cap) (ht := ht') (h0 := h1) (h2 := by omega), hs]; simp [Result.andThen]
  · simp only [Option.map_none, Option.map_some, he p _ hp]; rw [run_slice_l (t := t) (a := a) (len := n) (cap := cap) (ht := ht') (h0 := h0) (h1 := h1), hs]; simp [Result.andThen]
  · simp only [Option.map_some, he p _ hp, he q _ hq]; rw [run_slice_lh (t := t) (a := a) (len := n) (cap := cap) (ht := ht') (h0 := h0) (h1 := h1) (h2 := by omega), hs]; simp [Result.andThen]
theorem ownsRow_take {w : World} {base : Nat} {e : TypeId} {size g cap n h : Nat} {xs : List Value} (hh : h ≤ n)
    (ho : w.ownsRow base e size (.slice (some ⟨g, 0, none⟩) n cap) n xs) : w.ownsRow base e size (.slice (some ⟨g, 0, none⟩) h cap) h (xs.take (h * size)) := by
  obtain ⟨h1, h2⟩ := ho
  rcases h2 with ⟨h0, _⟩ | ⟨g', cap', cur, hv, hg, hh', hn, hcap, hsz, htake⟩
  · cases h0
  · cases hv
    refine ⟨by rw [List.length_take, h1]; exact Nat.min_eq_left (Nat.mul_le_mul_right _ hh), .inr ⟨g, cap, cur, rfl, hg, hh', by omega, hcap, hsz, ?_⟩⟩
    rw [← htake, List.take_take, Nat.min_eq_left (Nat.mul_le_mul_right _ hh)]
theorem OpS.sliceR {x y : Operand} {t e : TypeId} {bytes : Nat} {z v : Value} {l : List α} {xs : List Value} {k : IntKind} {h : Int} {i : Nat} (ht : P.underlying t = some (.slice e)) (hz : TI P e c.sz bytes z) (hx : E x = some v) (hy : E y = some (.int k h))
    (hi : O[i]? = some (.row v e c.sz l.length xs)) (hb : 0 ≤ h ∧ h ≤ (l.length : Nat)) :
    OpS P (.slice t x none (some y) none) T E H O (fun v' H' O' => H' = H ∧ O' = O.set i (.row v' e c.sz h.toNat (xs.take (h.toNat * c.sz)))) := .of_run fun ac w o ho _ he hw => by
  have hown := hw.ok i _ hi
  simp only [Res.ok] at hown
  have hB : SBnd E none (some y) 0 h l.length := ⟨.inl ⟨rfl, rfl⟩, .inr ⟨y, k, rfl, hy⟩⟩
  rcases hown.2 with ⟨rfl, h0⟩ | ⟨g, cap, cur, rfl, _, hg, hnc, hcm, hcs, htake⟩
  · have hz0 : h = 0 := by omega
    subst hz0
    have hr := run_sl (ac := ac) (a := none) (cap := 0) ht hz hB he (Int.le_refl 0) hb.1 hb.2 (by omega) w
    rw [h0] at hr
    refine ⟨.slice none 0 0, w, H, _, ?_, Hp.le.refl H, ⟨rfl, rfl⟩, hw.set hi (w' := w) (r' := .row (.slice none 0 0) e c.sz 0 (xs.take (0 * c.sz))) ⟨rfl, rfl, rfl, Nat.le_refl _, fun _ _ _ => rfl⟩ ?_ ?_⟩
    · have hr' : Sem.run P (Instr.sliceAt t (.slice none 0 0) none (some (ac.eval y)) none) w = .ok (.slice none 0 0) w := by simpa [sliced] using hr
      simp [execOp, ho, he x _ hx, hr', Result.andThen]
    · simpa [Res.ok] using World.ownsRow_nil w _ e c.sz
    · intro b hb; cases hb
  · have hr := run_sl (ac := ac) (a := some ⟨g, 0, none⟩) (cap := cap) ht hz hB he (Int.le_refl 0) hb.1 hb.2 hnc w
    have hv : sliced (some ⟨g, 0, none⟩) (0 : Int).toNat h.toNat cap c.sz = .slice (some ⟨g, 0, none⟩) h.toNat cap := by
      simp [sliced, add_zero_addr]
    rw [hv] at hr
    refine ⟨_, w, H, _, ?_, Hp.le.refl H, ⟨rfl, rfl⟩, hw.set hi (w' := w) (r' := .row (.slice (some ⟨g, 0, none⟩) h.toNat cap) e c.sz h.toNat (xs.take (h.toNat * c.sz))) ⟨rfl, rfl, rfl, Nat.le_refl _, fun _ _ _ => rfl⟩ (ownsRow_take (by omega) hown) ?_⟩
    · have hr' : Sem.run P (Instr.sliceAt t (.slice (some ⟨g, 0, none⟩) l.length cap) none (some (ac.eval y)) none) w = .ok (.slice (some ⟨g, 0, none⟩) h.toNat cap) w := by simpa using hr
      simp [execOp, ho, he x _ hx, hr', Result.andThen]
    · intro b hb; exact .inl hb
end
section
variable {P : Program} {Q : Exit → Act → World → Prop} {n : Nat} {L : List (Nat × Value)} {H : Hp} {O : List Res} {ops : Array Oper} {rest : List Oper} {T : TypeId} {α : Type} {c : Cd α}
theorem Seg.sliceR {d : Tmp} {pos : String} {af : Array Edge} {x y : Operand} {t e : TypeId} {bytes : Nat} {z v : Value} {l : List α} {xs : List Value} {kk : IntKind} {h : Int} (i : Nat) (hL : LayL c H l xs) (ht : P.underlying t = some (.slice e)) (hz : TI P e c.sz bytes z) (hx : ev L x = some v) (hy : ev L y = some (.int kk h))
    (hi : O[i]? = some (.row v e c.sz l.length xs)) (hb : 0 ≤ h ∧ h ≤ (l.length : Nat)) (hd : Nat.blt d n = true)
    (k : ∀ v' xs', LayL c H (l.take h.toNat) xs' → Seg P ops Q rest n ((d, v') :: L) H (O.set i (.row v' e c.sz (l.take h.toNat).length xs'))) :
    Seg P ops Q ({ dst := some d, op := .slice t x none (some y) none, type := T, pos, after := af, guard := none } :: rest) n L H O := by
  refine Seg.opS (OpS.sliceR (c := c) (l := l) ht hz hx hy hi hb) hd ?_
  rintro v' H' O' hl ⟨rfl, rfl⟩
  have := k v' _ (hL.take h.toNat)
  rwa [List.length_take, Nat.min_eq_left (by omega)] at this
end
end Go.GK
