/- Sets of bytes, and slices of them, as arguments. -/
import Derived.Test.YtjmbmodmepdmjaaDoorKitRead
import Derived.Test.YtjmbmodmepdmjaaDoorParts
namespace Go.GK
section
variable {H : Type} {enc : TypeId × Value → H} {P : Program} {w : World} {base : Nat} {spare : Nat → Bool} {held : Bool}
theorem word_of_trod {e : TypeId} {n : Nat} {c : Value} {y : DataW H × List MemPlace} (he : P.underlying e = some (.int .u64)) (h : DataW.trod enc P w base spare held n e [c] = some y) : ∃ a : BitVec 64, c = w64 a := by
  obtain ⟨m, h1, _, h2⟩ := DataW.trod_int he h
  simp only [List.cons.injEq, and_true] at h1
  subst h1
  have hb : 0 ≤ m ∧ m ≤ 18446744073709551615 := by simpa [Lit.wf, IntKind.min, IntKind.max, IntKind.signed, IntKind.bits] using h2
  refine ⟨BitVec.ofInt 64 m, ?_⟩
  unfold w64
  congr 1
  rw [BitVec.toNat_ofInt]
  omega
theorem bcl_of_trod {t e : TypeId} {n : Nat} {cs : List Value} {y : DataW H × List MemPlace} (ht : P.underlying t = some (.array 4 e)) (he : P.underlying e = some (.int .u64)) (h1 : P.cellsOf e = 1) (h4 : P.cellsOf t = 4) (h : DataW.trod enc P w base spare held n t cs = some y) : ∃ p : St, cs = bcl p := by
  obtain ⟨xs, m, _, _, hlen, _, hx⟩ := DataW.trod_array ht h
  rw [h4] at hlen
  have hw : ∀ i, i < 4 → ∃ a : BitVec 64, cs[i]? = some (w64 a) := fun i hi => by
    have := hx i hi
    rw [h1, Nat.mul_one] at this
    have hc : (cs.drop i).take 1 = [cs[i]] := by
      rw [List.drop_eq_getElem_cons (show i < cs.length by omega)]; rfl
    rw [hc] at this
    have hx' : ∃ y, xs[i]? = some y := ⟨xs[i], by simp⟩
    obtain ⟨y', hy'⟩ := hx'
    rw [hy'] at this
    obtain ⟨a, ha⟩ := word_of_trod he this
    exact ⟨a, by rw [← ha]; simp⟩
  obtain ⟨a, ha⟩ := hw 0 (by omega)
  obtain ⟨b, hb⟩ := hw 1 (by omega)
  obtain ⟨c, hc⟩ := hw 2 (by omega)
  obtain ⟨d, hd⟩ := hw 3 (by omega)
  refine ⟨bitsOf a b c d, ?_⟩
  unfold bcl
  rw [← bitsOf_bcs]
  match cs, hlen with
  | [x0, x1, x2, x3], _ => simp at ha hb hc hd; simp [ha, hb, hc, hd]
theorem open_bytes {r : Reach} {b0 : Nat} {t e : TypeId} {v : Value} {d : DataW H} {p : List MemPlace} (ht : P.underlying t = some (.array 4 e)) (he : P.underlying e = some (.int .u64)) (h1 : P.cellsOf e = 1) (h4 : P.cellsOf t = 4)
    (hv : Value.okWide P w r b0 t v) (h : DataW.Trod enc P w base spare held t v d p) : ∃ q : St, v = .agg (bcs q) := by
  simp only [Value.okWide, ht] at hv
  obtain ⟨cs, rfl, _⟩ := hv
  obtain ⟨fuel, hf⟩ := h
  obtain ⟨q, hq⟩ := bcl_of_trod ht he h1 h4 hf
  refine ⟨q, ?_⟩
  simp only [Value.cells, bcl] at hq
  congr 1
  exact Array.toList_inj.1 hq
theorem open_bsl {r : Reach} {b0 : Nat} {t e u : TypeId} {v : Value} {d : DataW H} {p : List MemPlace} (ht : P.underlying t = some (.slice e)) (he : P.underlying e = some (.array 4 u)) (hu : P.underlying u = some (.int .u64)) (h1 : P.cellsOf u = 1) (h4 : P.cellsOf e = 4)
    (hv : Value.okWide P w r b0 t v) (h : DataW.Trod enc P w base spare held t v d p) : ∃ l : List St, Sl (Hp.of w) v 4 l.length (l.flatMap bcl) := by
  obtain ⟨a, len, cap, rfl⟩ := Go.WideShapes.okWide_slice ht hv
  obtain ⟨fuel, hf⟩ := h
  obtain ⟨l, hl, _⟩ := sl_of_trod (en := bcl) ht h4 bcl_len (fun _ => True) (fun n cs y _ hy => by obtain ⟨q, hq⟩ := bcl_of_trod he hu h1 h4 hy; exact ⟨q, hq, trivial⟩) hf
  exact ⟨l, hl⟩
end
theorem nat_of_u8 {a : Int} (h : (Lit.int .u8 a).wf = true) : ∃ n : Nat, a = (n : Int) ∧ n < 256 := by
  have hb : 0 ≤ a ∧ a ≤ 255 := by simpa [Lit.wf, IntKind.min, IntKind.max, IntKind.signed, IntKind.bits] using h
  exact ⟨a.toNat, by omega, by omega⟩
end Go.GK
