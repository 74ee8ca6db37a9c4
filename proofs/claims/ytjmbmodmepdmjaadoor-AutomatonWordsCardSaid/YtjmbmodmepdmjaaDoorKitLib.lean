/- The library's contracts, turned to what is owned: strconv.Itoa, slices.Sort; what is known of a builder. -/
import Derived.Test.YtjmbmodmepdmjaaDoorKitBld
import Derived.Lib.LaidTab
import Derived.Lib.ItoaNum
import Derived.Sort.OwnSortedInts
import Derived.Deep.Draws
namespace Go.GK
open Go.Proofs
/- The table of powers that the library's number printer reads, where it lies for good. -/
def LaidH (P : Program) (H : Hp) : Prop := ∀ w O, SH w H O → Lib.TabIs P w "internal/strconv.uint64pow10" .u64 Lib.pow10Tab
theorem LaidH.mono {P : Program} {H H' : Hp} (h : LaidH P H) (hl : H.le H') : LaidH P H' := fun w O hs => h w O (hs.weaken hl)
theorem grownDrew (w : World) (k : Nat) (os : Array Obj) : w.grownBy (Go.Sort.grow (w.drewN k) os) none :=
  ⟨rfl, rfl, rfl, by simp [Go.Sort.grow, World.drewN], fun b hb _ => by
    simp only [Go.Sort.grow, World.drewN]; rw [Array.getElem?_append_left hb]⟩
structure BldOk (H : Hp) (B : Nat) (a v : Value) (l : Str) (xs : List Value) : Prop where
  a : a = .pointer none ∨ a = ptr B 0
  v : v = .slice none 0 0 ∨ l ≠ []
  L : LayL cBy H l xs
theorem BldOk.mono {H H' : Hp} {B : Nat} {a v : Value} {l : Str} {xs : List Value} (h : BldOk H B a v l xs) (hl : H.le H') : BldOk H' B a v l xs := ⟨h.a, h.v, h.L.mono hl⟩
theorem BldOk.new {H : Hp} {B : Nat} : BldOk H B (.pointer none) (.slice none 0 0) [] [] := ⟨.inl rfl, .inl rfl, rfl⟩
section
variable {P : Program} {H : Hp} {O : List Res}
theorem TriV.itoa {f : FuncId} {n : Int} (hc : ∀ (n : Int), -9223372036854775808 ≤ n → n ≤ 9223372036854775807 → ∀ (w : World), Lib.TabIs P w "internal/strconv.uint64pow10" .u64 Lib.pow10Tab → Calls P f #[.int .i64 n] w fun e w' => e = .returned (.string ⟨(Lib.itoa n).toArray⟩) ∧ ∃ k os, w' = Go.Sort.grow (w.drewN k) os)
    (hG : LaidH P H) (hn : F64 n) : TriV P f [.int .i64 n] H O (sv (Lib.itoa n)) := fun w hs =>
  (hc n hn.1 hn.2 w (hG w O hs)).mono fun e w' ⟨h1, k, os, h2⟩ => ⟨h1, by subst h2; exact hs.grown (grownDrew w k os)⟩
def insB {α : Type} (le : α → α → Bool) (x : α) : List α → List α
  | [] => [x]
  | y :: l => if le x y then x :: y :: l else y :: insB le x l
def isortB {α : Type} (le : α → α → Bool) : List α → List α
  | [] => []
  | x :: l => insB le x (isortB le l)
theorem insB_perm {α : Type} (le : α → α → Bool) (x : α) : ∀ l, (insB le x l).Perm (x :: l)
  | [] => .refl _
  | y :: l => by
    unfold insB; split
    · exact .refl _
    · exact ((insB_perm le x l).cons y).trans (.swap ..)
theorem isortB_perm {α : Type} (le : α → α → Bool) : ∀ l, (isortB le l).Perm l
  | [] => .refl _
  | x :: l => (insB_perm le x _).trans ((isortB_perm le l).cons x)
theorem insB_sorted {α : Type} {le : α → α → Bool} (S : α → Prop) (tr : ∀ a b c, S a → S b → S c → le a b = true → le b c = true → le a c = true) (to : ∀ a b, S a → S b → le a b = true ∨ le b a = true) (x : α) (hx : S x) : ∀ l, (∀ a ∈ l, S a) → l.Pairwise (fun a b => le a b = true) → (insB le x l).Pairwise (fun a b => le a b = true)
  | [], _, _ => by simp [insB]
  | y :: l, hl, h => by
    have hy := hl y (by simp)
    obtain ⟨h1, h2⟩ := List.pairwise_cons.1 h
    unfold insB; split
    · rename_i hle
      refine List.pairwise_cons.2 ⟨fun b hb => ?_, h⟩
      rcases List.mem_cons.1 hb with rfl | hb
      · exact hle
      · exact tr _ _ _ hx hy (hl b (by simp [hb])) hle (h1 b hb)
    · rename_i hle
      refine List.pairwise_cons.2 ⟨fun b hb => ?_, insB_sorted S tr to x hx l (fun a ha => hl a (by simp [ha])) h2⟩
      rcases List.mem_cons.1 ((insB_perm le x l).mem_iff.1 hb) with rfl | hb
      · exact (to _ _ hx hy).resolve_left hle
      · exact h1 b hb
theorem isortB_sorted {α : Type} {le : α → α → Bool} (S : α → Prop) (tr : ∀ a b c, S a → S b → S c → le a b = true → le b c = true → le a c = true) (to : ∀ a b, S a → S b → le a b = true ∨ le b a = true) : ∀ l, (∀ a ∈ l, S a) → (isortB le l).Pairwise (fun a b => le a b = true)
  | [], _ => .nil
  | x :: l, h => insB_sorted S tr to x (h x (by simp)) _ (fun a ha => h a (by simp [(isortB_perm le l).mem_iff.1 ha])) (isortB_sorted S tr to l fun a ha => h a (by simp [ha]))
theorem isortB_eq {α : Type} {le : α → α → Bool} (tr : ∀ a b c, le a b = true → le b c = true → le a c = true) (to : ∀ a b, le a b = true ∨ le b a = true) (an : ∀ a b, le a b = true → le b a = true → a = b) (l : List α) : isortB le l = l.mergeSort le :=
  List.Perm.eq_of_pairwise (le := fun a b => le a b = true) (fun a b _ _ h k => an a b h k) (isortB_sorted (fun _ => True) (fun a b c _ _ _ => tr a b c) (fun a b _ _ => to a b) l (fun _ _ => trivial)) (List.pairwise_mergeSort tr (fun a b => by rcases to a b with h | h <;> simp [h]) l) ((isortB_perm le l).trans (List.mergeSort_perm l le).symm)
theorem insB_map {α β : Type} (f : α → β) (le : β → β → Bool) (x : α) : ∀ l, insB le (f x) (l.map f) = (insB (fun a b => le (f a) (f b)) x l).map f
  | [] => rfl
  | y :: l => by
    simp only [List.map_cons, insB]; split
    · rfl
    · rw [insB_map f le x l]; rfl
theorem isortB_map {α β : Type} (f : α → β) (le : β → β → Bool) : ∀ l, isortB le (l.map f) = (isortB (fun a b => le (f a) (f b)) l).map f
  | [] => rfl
  | x :: l => by simp only [List.map_cons, isortB]; rw [isortB_map f le l, insB_map]
theorem LayL.ints {H : Hp} : ∀ {l : List Int} {xs : List Value}, LayL cI64 H l xs → xs = l.map (Value.int .i64)
  | [], xs, h => h
  | a :: l, _, ⟨cs, ys, e, h1, h2⟩ => by subst e; rw [show cs = [.int .i64 a] from h1, LayL.ints h2]; rfl
theorem ints_LayL {H : Hp} : ∀ (l : List Int), LayL cI64 H l (l.map (Value.int .i64))
  | [] => rfl
  | a :: l => ⟨[.int .i64 a], _, rfl, rfl, ints_LayL l⟩
def sortI (l : List Int) : List Int := isortB (fun x y => decide (x ≤ y)) l
theorem sortI_eq (l : List Int) : l.mergeSort (fun x y => decide (x ≤ y)) = sortI l := (isortB_eq (fun a b c h k => by simp at *; omega) (fun a b => by simp; omega) (fun a b h k => by simp at *; omega) l).symm
theorem Tri.sortI {f : FuncId} {l : List Int} {v : Value} {e : TypeId} {xs : List Value}
    (hc : ∀ (blk off cap : Nat) (zs : List Int) (w : World), Go.Sort.Holds (Value.int .i64) w blk off zs.toArray → blk < w.heap.size → zs.length < 4611686018427387904 → Calls P f #[.slice (some ⟨blk, off, none⟩) zs.length cap] w fun e w' =>
      e = .returned (.tuple #[]) ∧ ∃ n os, w' = Go.Sort.grow (Go.Sort.putRow (Value.int .i64) (Go.Sort.ahead w n) blk off (zs.mergeSort fun x y => decide (x ≤ y)).toArray) os)
    (h0 : ∀ (p : Option Addr) (cap : Nat) (w : World), Calls P f #[.slice p 0 cap] w fun e w' => e = .returned (.tuple #[]) ∧ w' = w)
    (hL : LayL cI64 H l xs) (hn : l.length ≤ capN) :
    Tri P f [v] H (.row v e 1 l.length xs :: O) (fun r H' O' => ∃ xs', .tuple #[] = r ∧ LayL cI64 H' (GK.sortI l) xs' ∧ .row v e 1 (GK.sortI l).length xs' :: O = O') := fun w hs => by
  have hx := LayL.ints hL
  subst hx
  have hlen : (GK.sortI l).length = l.length := by rw [← sortI_eq]; simp
  have hown := hs.ok 0 _ rfl
  simp only [Res.ok] at hown
  rcases hown.2 with ⟨rfl, hz⟩ | ⟨g, cap, cur, rfl, _, hg, hnc, hcm, hcs, htake⟩
  · have hl : l = [] := List.eq_nil_of_length_eq_zero hz
    subst hl
    refine (h0 none 0 w).mono fun e' w' ⟨g1, g2⟩ => ?_
    subst g2
    exact ⟨_, H, _, g1, Hp.le.refl H, hs, [], rfl, by simp [GK.sortI, isortB, LayL], by simp [GK.sortI, isortB]⟩
  · rw [Nat.mul_one] at htake
    have hgs : g < w.heap.size := (Array.getElem?_eq_some_iff.1 hg).1
    refine (hc g 0 cap l w (holds_of_blockI hg htake) hgs (by simp only [capN] at hn; omega)).mono fun e' w' ⟨g1, n, os, g2⟩ => ?_
    rw [sortI_eq] at g2
    subst g2
    refine ⟨_, H, _, g1, Hp.le.refl H, hs.set (i := 0) (r' := .row (.slice (some ⟨g, 0, none⟩) l.length cap) e 1 (GK.sortI l).length ((GK.sortI l).map (Value.int .i64))) rfl (grownBy_sortedI _) ?_ ?_, _, rfl, ints_LayL _, rfl⟩
    · show World.ownsRow _ 0 e 1 _ _ _
      have := ownsRow_sortedI (n := n) (os := os) (ss := l) (ts := GK.sortI l) hlen (Nat.zero_le _) hg hnc hcm hcs
      rw [hlen]; exact this
    · intro b hb; left; exact hb
end
end Go.GK
