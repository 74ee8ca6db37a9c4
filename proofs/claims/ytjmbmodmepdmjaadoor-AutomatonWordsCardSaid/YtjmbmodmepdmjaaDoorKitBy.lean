/- The program's byteset, in the words of plain functions. -/
import Derived.Test.YtjmbmodmepdmjaaDoorKitLib
import Derived.Test.YtjmbmodmepdmjaaDoorRgLaw
import Derived.Test.YtjmbmodmepdmjaaDoorPtLaw
import Derived.Test.YtjmbmodmepdmjaaDoorLaws2
namespace Go.GK
def orS (p q : BSet) : BSet := fun t => p t || q t
def andS (p q : BSet) : BSet := fun t => p t && q t
def notS (p : BSet) : BSet := fun t => !p t
def rgD (p : BSet) : List (Int × Int) := (rgTo p 256).map fun a => ((a.1 : Int), (a.2 : Int))
def partsD (l : List BSet) : List BSet := partsOf l
section
variable {P : Program} {H : Hp} {O : List Res}
theorem layBs {H : Hp} : ∀ {l : List BSet} {xs : List Value}, LayL cBs H l xs ↔ xs = l.flatMap bcl
  | [], xs => Iff.rfl
  | p :: l, xs => by
    constructor
    · rintro ⟨cs, ys, rfl, h1, h2⟩
      rw [show cs = (bcs p).toList from h1, layBs.1 h2]; rfl
    · intro h; exact ⟨bcl p, l.flatMap bcl, h, rfl, layBs.2 rfl⟩
theorem layPr {H : Hp} : ∀ {l : List (Nat × Nat)}, (∀ a ∈ l, a.1 < 256 ∧ a.2 < 256) → LayL (cP cU8 cU8) H (l.map fun a => ((a.1 : Int), (a.2 : Int))) (l.flatMap encB)
  | [], _ => rfl
  | a :: l, h => ⟨encB a, l.flatMap encB, rfl, ⟨[.int .u8 (a.1 : Int)], [.int .u8 (a.2 : Int)], rfl, ⟨rfl, by have := h a (by simp); simp, by have := h a (by simp); simp; omega⟩, ⟨rfl, by simp, by have := h a (by simp); simp; omega⟩⟩, layPr fun b hb => h b (by simp [hb])⟩
theorem rg_bd (p : BSet) : ∀ a ∈ rgTo p 256, a.1 < 256 ∧ a.2 < 256 := fun a ha => by
  obtain ⟨i, hi, rfl⟩ := List.getElem_of_mem ha
  have := rg_pr p i hi
  have e : pr (rgTo p 256) i = (rgTo p 256)[i] := by have := pr_some (rgTo p 256) i hi; rw [List.getElem?_eq_getElem hi] at this; exact (Option.some.inj this).symm
  rw [e] at this; omega
theorem TriV.has_i {f : FuncId} {p : BSet} {b : Int} (hw : ∀ b : Nat, b < 256 → TriV P f [.agg (bcs p), .int .u8 (b : Int)] H O (.bool (p b))) (h0 : 0 ≤ b) (h1 : b ≤ 255) : TriV P f [.agg (bcs p), .int .u8 b] H O (.bool (p b.toNat)) := by
  have := hw b.toNat (by omega)
  rwa [Int.toNat_of_nonneg h0] at this
theorem TriV.of_i {f : FuncId} {lo hi : Int} (hw : ∀ lo hi : Nat, lo < 256 → hi < 256 → TriV P f [.int .u8 (lo : Int), .int .u8 (hi : Int)] H O (bs (ofP lo hi))) (h0 : 0 ≤ lo) (h1 : lo ≤ 255) (h2 : 0 ≤ hi) (h3 : hi ≤ 255) : TriV P f [.int .u8 lo, .int .u8 hi] H O (bs (ofP lo.toNat hi.toNat)) := by
  have := hw lo.toNat hi.toNat (by omega) (by omega)
  rwa [Int.toNat_of_nonneg h0, Int.toNat_of_nonneg h2] at this
theorem Tri.ranges_i {f : FuncId} {p : BSet} (hw : Tri P f [.agg (bcs p)] H O (fun v H' O' => O' = O ∧ Sl H' v 2 (rgTo p 256).length ((rgTo p 256).flatMap encB))) : Tri P f [.agg (bcs p)] H O (fun v H' O' => (∃ v1, v1 = v ∧ SlD (cP cU8 cU8) H' (rgD p) v1) ∧ O = O') :=
  hw.mono fun v H' O' _ ⟨h1, h2⟩ => ⟨⟨v, rfl, SlD.of h2 (by simp [rgD]) (layPr (rg_bd p)) (by have := rg_len p; simp only [rgD, List.length_map]; omega)⟩, h1.symm⟩
theorem Tri.part_i {f : FuncId} {l : List BSet} {v : Value} (hw : ∀ (l : List St) (v : Value), Sl H v 4 l.length (l.flatMap bcl) → l.length ≤ 4294967296 → Tri P f [v] H O (fun v H' O' => O' = O ∧ Sl H' v 4 (partsOf l).length ((partsOf l).flatMap bcl)))
    (hl : SlD cBs H l v) (hn : l.length ≤ 4294967296) : Tri P f [v] H O (fun v H' O' => (∃ v1, v1 = v ∧ SlD cBs H' (partsD l) v1) ∧ O = O') := by
  obtain ⟨⟨xs, h1, h2⟩, h3⟩ := hl
  have e := layBs.1 h2
  subst e
  exact (hw l v h1 hn).mono fun v H' O' _ ⟨h1, h2⟩ => ⟨⟨v, rfl, SlD.of h2 rfl (layBs.2 rfl) (by have := parts_len l; show (partsOf l).length ≤ _; omega)⟩, h1.symm⟩
end
end Go.GK
namespace Go.GK
theorem zw (i : Nat) : w64 (word (fun _ => false) i) = .int .u64 0 := by
  have : word (fun _ => false) i = 0#64 := by
    apply BitVec.eq_of_getLsbD_eq
    intro j hj; rw [word_bit]; simp
  rw [this]; rfl
theorem bs0 : Value.agg #[.int .u64 0, .int .u64 0, .int .u64 0, .int .u64 0] = .agg #[w64 (word (fun _ => false) 0), w64 (word (fun _ => false) 1), w64 (word (fun _ => false) 2), w64 (word (fun _ => false) 3)] := by simp only [zw]
end Go.GK
