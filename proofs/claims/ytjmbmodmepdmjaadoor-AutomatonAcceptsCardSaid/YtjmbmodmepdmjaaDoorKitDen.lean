/- What a function computes, as a plain function; how plain data lie in memory. -/
import Derived.Test.YtjmbmodmepdmjaaDoorKitSegO
import Derived.Test.YtjmbmodmepdmjaaDoorBsOps
namespace Go.GK

/- Plain functions that may have no result (a panic, no end, a number that does not fit). -/
def idx {α : Type} (l : List α) (i : Int) : Option α := if 0 ≤ i then l[i.toNat]? else none
def chk {α : Type} (p : Prop) [Decidable p] (k : Option α) : Option α := if p then k else none
def bnd {α β : Type} (x : Option α) (k : α → Option β) : Option β := match x with
  | some a => k a
  | none => none
def loopK {X R : Type} : Nat → (X → (X → Option R) → Option R) → X → Option R
  | 0, _, _ => none
  | n + 1, b, x => b x (loopK n b)
section
variable {α β X R : Type}
theorem chk_some {p : Prop} [Decidable p] {k : Option α} {r : α} (h : chk p k = some r) : p ∧ k = some r := by
  unfold chk at h; split at h
  · exact ⟨‹p›, h⟩
  · cases h
theorem bnd_some {x : Option α} {k : α → Option β} {r : β} (h : bnd x k = some r) : ∃ a, x = some a ∧ k a = some r := by
  cases x with
  | none => cases h
  | some a => exact ⟨a, rfl, h⟩
theorem brT {b : Bool} {x y : Option α} {r : α} (h : b = true) (hd : (bif b then x else y) = some r) : x = some r := by subst h; exact hd
theorem brF {b : Bool} {x y : Option α} {r : α} (h : b = false) (hd : (bif b then x else y) = some r) : y = some r := by subst h; exact hd
theorem loopK_some {n : Nat} {b : X → (X → Option R) → Option R} {x : X} {r : R} (h : loopK n b x = some r) : ∃ m, n = m + 1 ∧ b x (loopK m b) = some r := by
  cases n with
  | zero => cases h
  | succ m => exact ⟨m, rfl, h⟩
theorem idx_some {l : List α} {i : Int} {x : α} (h : idx l i = some x) : (0 ≤ i ∧ i < (l.length : Nat)) ∧ l[i.toNat]? = some x := by
  unfold idx at h
  split at h
  · have := (List.getElem?_eq_some_iff.1 h).1
    exact ⟨⟨by assumption, by omega⟩, h⟩
  · cases h
theorem idx_bd {l : List α} {i : Int} {x : α} (h : idx l i = some x) : 0 ≤ i ∧ i < (l.length : Nat) := (idx_some h).1
end

/- How a datum lies in cells. -/
structure Cd (α : Type) where
  sz : Nat
  Lay : Hp → α → List Value → Prop
  len : ∀ {H a cs}, Lay H a cs → cs.length = sz
  mono : ∀ {H H' a cs}, H.le H' → Lay H a cs → Lay H' a cs
  one : ∀ {H a cs}, Lay H a cs → ∀ u ∈ cs, u.oneCell' = true

def LayL {α : Type} (c : Cd α) (H : Hp) : List α → List Value → Prop
  | [], xs => xs = []
  | a :: l, xs => ∃ cs ys, xs = cs ++ ys ∧ c.Lay H a cs ∧ LayL c H l ys
structure SlD {α : Type} (c : Cd α) (H : Hp) (l : List α) (v : Value) : Prop where
  ex : ∃ xs, Sl H v c.sz l.length xs ∧ LayL c H l xs
  le : l.length ≤ 9223372036854775807

def cI64 : Cd Int where
  sz := 1
  Lay _ n cs := cs = [.int .i64 n]
  len h := by subst h; rfl
  mono _ h := h
  one h := by subst h; intro u hu; simp at hu; subst hu; rfl
def cU8 : Cd Int where
  sz := 1
  Lay _ n cs := cs = [.int .u8 n] ∧ 0 ≤ n ∧ n ≤ 255
  len h := by rw [h.1]; rfl
  mono _ h := h
  one h := by rw [h.1]; intro u hu; simp at hu; subst hu; rfl
def cB : Cd Bool where
  sz := 1
  Lay _ b cs := cs = [.bool b]
  len h := by subst h; rfl
  mono _ h := h
  one h := by subst h; intro u hu; simp at hu; subst hu; rfl
abbrev Str := List UInt8
def sv (s : Str) : Value := .string ⟨⟨s⟩⟩
def cS : Cd Str where
  sz := 1
  Lay _ s cs := cs = [sv s]
  len h := by subst h; rfl
  mono _ h := h
  one h := by subst h; intro u hu; simp at hu; subst hu; rfl
abbrev BSet := Nat → Bool
def cBs : Cd BSet where
  sz := 4
  Lay _ p cs := cs = (bcs p).toList
  len h := by subst h; rfl
  mono _ h := h
  one h := by subst h; intro u hu; exact bcs_one _ u (by simpa using hu)
def cP {α β : Type} (c : Cd α) (d : Cd β) : Cd (α × β) where
  sz := c.sz + d.sz
  Lay H a cs := ∃ c1 c2, cs = c1 ++ c2 ∧ c.Lay H a.1 c1 ∧ d.Lay H a.2 c2
  len h := by obtain ⟨c1, c2, rfl, h1, h2⟩ := h; simp [c.len h1, d.len h2]
  mono hl h := by obtain ⟨c1, c2, rfl, h1, h2⟩ := h; exact ⟨c1, c2, rfl, c.mono hl h1, d.mono hl h2⟩
  one h := by
    obtain ⟨c1, c2, rfl, h1, h2⟩ := h
    intro u hu; rcases List.mem_append.1 hu with hu | hu
    · exact c.one h1 u hu
    · exact d.one h2 u hu

section
variable {α : Type} {c : Cd α} {H H' : Hp}
theorem LayL.len : ∀ {l : List α} {xs : List Value}, LayL c H l xs → xs.length = l.length * c.sz
  | [], xs, h => by simp only [LayL] at h; subst h; simp
  | a :: l, xs, ⟨cs, ys, e, h1, h2⟩ => by subst e; simp [c.len h1, LayL.len h2, Nat.add_mul, Nat.add_comm]
theorem LayL.mono (hl : H.le H') : ∀ {l : List α} {xs : List Value}, LayL c H l xs → LayL c H' l xs
  | [], _, h => h
  | _ :: _, _, ⟨cs, ys, e, h1, h2⟩ => ⟨cs, ys, e, c.mono hl h1, LayL.mono hl h2⟩
theorem LayL.one : ∀ {l : List α} {xs : List Value}, LayL c H l xs → ∀ u ∈ xs, u.oneCell' = true
  | [], xs, h, u, hu => by simp only [LayL] at h; subst h; cases hu
  | _ :: _, _, ⟨cs, ys, e, h1, h2⟩, u, hu => by
    subst e
    rcases List.mem_append.1 hu with hu | hu
    · exact c.one h1 u hu
    · exact LayL.one h2 u hu
theorem LayL.nil : LayL c H [] [] := rfl
theorem LayL.sing {a : α} {cs : List Value} (h : c.Lay H a cs) : LayL c H [a] cs := ⟨cs, [], by simp, h, rfl⟩
theorem LayL.app : ∀ {l l' : List α} {xs xs' : List Value}, LayL c H l xs → LayL c H l' xs' → LayL c H (l ++ l') (xs ++ xs')
  | [], _, xs, _, h, h' => by simp only [LayL] at h; subst h; simpa using h'
  | _ :: _, _, _, _, ⟨cs, ys, e, h1, h2⟩, h' => by subst e; exact ⟨cs, _, by rw [List.append_assoc], h1, LayL.app h2 h'⟩
theorem LayL.get : ∀ {l : List α} {xs : List Value} {i : Nat} {x : α}, LayL c H l xs → l[i]? = some x → ∃ cs, c.Lay H x cs ∧ (∀ j u, cs[j]? = some u → xs[i * c.sz + j]? = some u) ∧ cs = (xs.drop (i * c.sz)).take c.sz
  | [], _, _, _, _, h => by simp at h
  | a :: l, _, 0, x, ⟨cs, ys, e, h1, h2⟩, h => by
    simp at h; subst h; subst e
    refine ⟨cs, h1, fun j u hj => ?_, ?_⟩
    · have := (List.getElem?_eq_some_iff.1 hj).1
      rw [Nat.zero_mul, Nat.zero_add, List.getElem?_append_left this]; exact hj
    · rw [Nat.zero_mul, List.drop_zero, List.take_append_of_le_length (by rw [c.len h1]; exact Nat.le_refl _), List.take_of_length_le (by rw [c.len h1]; exact Nat.le_refl _)]
  | a :: l, _, i + 1, x, ⟨cs, ys, e, h1, h2⟩, h => by
    subst e
    obtain ⟨cs', g1, g2, g3⟩ := LayL.get h2 (by simpa using h)
    have e : (i + 1) * c.sz = cs.length + i * c.sz := by rw [c.len h1, Nat.add_mul]; omega
    refine ⟨cs', g1, fun j u hj => ?_, ?_⟩
    · rw [e, Nat.add_assoc, List.getElem?_append_right (by omega), Nat.add_sub_cancel_left]; exact g2 j u hj
    · rw [e, List.drop_append, List.drop_of_length_le (by omega), Nat.add_sub_cancel_left, List.nil_append]; exact g3
theorem LayL.set : ∀ {l : List α} {xs : List Value} {i : Nat} {y : α} {vs : List Value}, LayL c H l xs → i < l.length → c.Lay H y vs → LayL c H (l.set i y) (spl xs (i * c.sz) vs)
  | [], _, _, _, _, _, h, _ => by simp at h
  | a :: l, _, 0, y, vs, ⟨cs, ys, e, h1, h2⟩, _, hy => by
    subst e
    refine ⟨vs, ys, ?_, hy, h2⟩
    unfold spl
    rw [Nat.zero_mul, List.take_zero, List.nil_append, Nat.zero_add, List.drop_append, List.drop_of_length_le (by rw [c.len h1, c.len hy]; exact Nat.le_refl _), c.len h1, c.len hy]; simp
  | a :: l, _, i + 1, y, vs, ⟨cs, ys, e, h1, h2⟩, hi, hy => by
    subst e
    refine ⟨cs, spl ys (i * c.sz) vs, ?_, h1, LayL.set h2 (by simpa using hi) hy⟩
    have e : (i + 1) * c.sz = cs.length + i * c.sz := by rw [c.len h1, Nat.add_mul]; omega
    unfold spl
    rw [e, List.take_append, List.take_of_length_le (by omega), Nat.add_sub_cancel_left, Nat.add_assoc, List.drop_append, List.drop_of_length_le (by omega : cs.length ≤ cs.length + (i * c.sz + vs.length)), Nat.add_sub_cancel_left]
    simp
/- a part of an element -/
theorem spl_spl (xs : List Value) (k off s : Nat) (cs vs : List Value) (hcs : cs = (xs.drop k).take s) (hlen : cs.length = s) (hk : off + vs.length ≤ s) : spl xs (k + off) vs = spl xs k (spl cs off vs) := by
  subst hcs
  have hl : s ≤ (xs.drop k).length := by rw [List.length_take] at hlen; omega
  have h3 : (spl ((xs.drop k).take s) off vs).length = s := by rw [spl_length _ _ _ (by rw [hlen]; exact hk)]; exact hlen
  unfold spl at *
  rw [h3]
  have a1 : xs.take (k + off) = xs.take k ++ (xs.drop k).take off := by rw [List.take_add]
  have a2 : ((xs.drop k).take s).take off = (xs.drop k).take off := by rw [List.take_take, Nat.min_eq_left (by omega)]
  have a3 : xs.drop (k + off + vs.length) = ((xs.drop k).take s).drop (off + vs.length) ++ xs.drop (k + s) := by
    have : xs.drop (k + off + vs.length) = (xs.drop k).drop (off + vs.length) := by rw [List.drop_drop]; congr 1; omega
    rw [this]
    have e : xs.drop k = (xs.drop k).take s ++ xs.drop (k + s) := by
      have := (List.take_append_drop s (xs.drop k)).symm
      rw [List.drop_drop] at this; exact this
    conv => lhs; rw [e]
    rw [List.drop_append, hlen]
    have : off + vs.length - s = 0 := by omega
    rw [this, List.drop_zero]
  rw [a1, a2, a3]
  simp
theorem LayL.part {l : List α} {xs : List Value} {i off : Nat} {x y : α} {cs vs : List Value} (h : LayL c H l xs) (hx : l[i]? = some x) (hcs : cs = (xs.drop (i * c.sz)).take c.sz) (hlen : cs.length = c.sz) (hk : off + vs.length ≤ c.sz) (hy : c.Lay H y (spl cs off vs)) :
    LayL c H (l.set i y) (spl xs (i * c.sz + off) vs) := by
  rw [spl_spl xs _ off c.sz cs vs hcs hlen hk]
  exact h.set (List.getElem?_eq_some_iff.1 hx).1 hy
theorem LayL.take : ∀ {l : List α} {xs : List Value} (m : Nat), LayL c H l xs → LayL c H (l.take m) (xs.take (m * c.sz))
  | [], xs, m, h => by simp only [LayL] at h; subst h; simp [LayL]
  | a :: l, xs, 0, h => by simp [LayL]
  | a :: l, _, m + 1, ⟨cs, ys, e, h1, h2⟩ => by
    subst e
    refine ⟨cs, ys.take (m * c.sz), ?_, h1, LayL.take m h2⟩
    rw [show (m + 1) * c.sz = cs.length + m * c.sz by rw [c.len h1, Nat.add_mul]; omega, List.take_append, List.take_of_length_le (by omega), Nat.add_sub_cancel_left]
theorem LayL.rep {z : α} {zs : Array Value} (hz : c.Lay H z zs.toList) (h0 : 0 < c.sz) : ∀ m, LayL c H (List.replicate m z) (madeCells zs (m * c.sz)).toList := by
  have hs : zs.size = c.sz := by rw [← c.len hz]; simp
  have key : ∀ m, (madeCells zs (m * c.sz)).toList = (List.replicate m zs.toList).flatten := by
    intro m
    apply List.ext_getElem
    · simp [madeCells, List.length_flatten, hs]
    · intro i h1 h2
      simp only [madeCells, Array.toList_map, Array.toList_range, List.getElem_map, List.getElem_range]
      have hi : i < m * c.sz := by simpa [madeCells] using h1
      have : ∀ m i (h : i < m * c.sz) (h2 : i < (List.replicate m zs.toList).flatten.length), (List.replicate m zs.toList).flatten[i] = zs[i % zs.size]! := by
        intro m
        induction m with
        | zero => intro i h; simp at h
        | succ m ih =>
          intro i h h2
          simp only [List.replicate_succ, List.flatten_cons]
          by_cases hlt : i < zs.size
          · rw [List.getElem_append_left (by simpa using hlt), Nat.mod_eq_of_lt hlt]
            simp [hlt]
          · rw [List.getElem_append_right (by simpa using hlt)]
            have h3 : i - zs.toList.length < m * c.sz := by simp [hs]; rw [Nat.add_mul] at h; omega
            rw [ih _ h3]
            have h4 : (i - zs.toList.length) % zs.size = i % zs.size := by
              have : zs.size ≤ i := by omega
              simp only [Array.length_toList]
              conv => rhs; rw [← Nat.sub_add_cancel this, Nat.add_mod_right]
            rw [h4]
      exact (this m i hi h2).symm
  intro m
  rw [key]
  induction m with
  | zero => exact rfl
  | succ m ih => exact ⟨zs.toList, (List.replicate m zs.toList).flatten, by simp [List.replicate_succ], hz, ih⟩
theorem SlD.mono {l : List α} {v : Value} (hl : H.le H') (h : SlD c H l v) : SlD c H' l v := by
  obtain ⟨⟨xs, h1, h2⟩, h3⟩ := h
  exact ⟨⟨xs, h1.mono hl, h2.mono hl⟩, h3⟩
theorem SlD.sl {l : List α} {v : Value} (h : SlD c H l v) : SlLen v l.length := by
  obtain ⟨⟨xs, h1, h2⟩, h3⟩ := h
  exact h1.sl
theorem SlD.one {l : List α} {v : Value} (h : SlD c H l v) : v.oneCell' = true := by
  rcases h.sl with ⟨rfl, _⟩ | ⟨a, cap, rfl⟩ <;> rfl
theorem SlD.nil : SlD c H [] (.slice none 0 0) := ⟨⟨[], Sl.nil H _, rfl⟩, by simp⟩
theorem SlD.get {l : List α} {v : Value} {i : Int} {x : α} (h : SlD c H l v) (hi : idx l i = some x) : ∃ cs, c.Lay H x cs ∧ ∀ j u, cs[j]? = some u → HCell H (elemPtr v (i.toNat * c.sz + j)) u := by
  obtain ⟨⟨xs, h1, h2⟩, h3⟩ := h
  obtain ⟨cs, g1, g2, _⟩ := h2.get (idx_some hi).2
  exact ⟨cs, g1, fun j u hj => h1.cells _ u (g2 j u hj)⟩
theorem SlD.of {l : List α} {v : Value} {n : Nat} {xs : List Value} (h : Sl H v c.sz n xs) (hn : n = l.length) (hx : LayL c H l xs) (hle : l.length ≤ 9223372036854775807) : SlD c H l v := by
  subst hn; exact ⟨⟨xs, h, hx⟩, hle⟩
end
/- a slice's own codec -/
def cL {α : Type} (c : Cd α) : Cd (List α) where
  sz := 1
  Lay H l cs := ∃ v, cs = [v] ∧ SlD c H l v
  len h := by obtain ⟨v, rfl, _⟩ := h; rfl
  mono hl h := by obtain ⟨v, e, h⟩ := h; exact ⟨v, e, h.mono hl⟩
  one h := by obtain ⟨v, rfl, h⟩ := h; intro u hu; simp at hu; subst hu; exact h.one
/- an array that is not taken apart -/
def cA {α : Type} (n : Nat) (c : Cd α) : Cd (List α) where
  sz := n * c.sz
  Lay H l cs := l.length = n ∧ LayL c H l cs
  len h := by rw [h.2.len, h.1]
  mono hl h := ⟨h.1, h.2.mono hl⟩
  one h := h.2.one

/- Loads. -/
section
variable {P : Program} {T : TypeId} {E : Operand → Option Value} {H : Hp} {O : List Res} {x : Operand} {t : TypeId} {d : TypeDesc}
theorem OpT.ldH {p u : Value} (ht : P.underlying t = some d) (hd : aggB d = false) (hx : E x = some p) (hc : HCell H p u) : OpT P (.load t x) T E H O u := .of_run fun ac w o ho _ he hs => by
  obtain ⟨a, h1, h2⟩ := hc.cell hs
  rw [h1] at hx
  simp [execOp, ho, he x _ hx, Instr.loadAt, Instr.sureAddr, run_loadVar_one ht hd h2]
theorem OpT.ldHA {v : Value} {k bytes : Nat} {z : Value} {vs : List Value} (ht : P.underlying t = some d) (hd : aggB d = true) (hsz : TI P t vs.length bytes z) (h0 : vs.isEmpty = false) (hx : E x = some (elemPtr v k)) (hc : ∀ j u, vs[j]? = some u → HCell H (elemPtr v (k + j)) u) :
    OpT P (.load t x) T E H O (.agg vs.toArray) := .of_run fun ac w o ho _ he hs => by
  obtain ⟨a, h1, h2⟩ := HCells.cells hs (v := v) (k := k) (by intro e; subst e; simp at h0) hc
  rw [h1] at hx
  simp [execOp, ho, he x _ hx, Instr.loadAt, Instr.sureAddr, run_loadVar_agg (w := w) ht hd hsz h2]
end

/- Loops and places where ways meet, with what varies as something that exists. -/
section
variable {P : Program} {Q : Exit → Act → World → Prop} {n : Nat} {L L' : List (Nat × Value)} {H : Hp} {O : List Res}
def NextE (I : Nat → List (Nat × Value) → Hp → List Res → Prop) (n m : Nat) (H' : Hp) (a : Act) (w : World) : Prop :=
  ∃ m' L H'' O, m' < m ∧ H'.le H'' ∧ I m' L H'' O ∧ Fr a n L ∧ SH w H'' O
theorem Wp.loopE {c : Code} (I : Nat → List (Nat × Value) → Hp → List Res → Prop) (m : Nat) (hI : I m L H O)
    (round : ∀ m L' H' O', H.le H' → I m L' H' O' → Wp P c (Exit.then (NextE I n m H') Q) n L' H' O') : Wp P (.loop c) Q n L H O := by
  intro a w hf hs
  refine wp_loopG (X := Nat × List (Nat × Value) × Hp × List Res) (fun y a w => H.le y.2.2.1 ∧ I y.1 y.2.1 y.2.2.1 y.2.2.2 ∧ Fr a n y.2.1 ∧ SH w y.2.2.1 y.2.2.2) (fun y => y.1) (x := (m, L, H, O)) ⟨Hp.le.refl H, hI, hf, hs⟩ ?_
  rintro ⟨m, L', H', O'⟩ a w ⟨h1, h2, h3, h4⟩
  refine wp_mono (round m L' H' O' h1 h2 a w h3 h4) fun e a' w' q => ?_
  cases e with
  | normal =>
    obtain ⟨m', L, H'', O, g1, g2, g3, g4, g5⟩ := q
    exact ⟨(m', L, H'', O), ⟨h1.trans g2, g3, g4, g5⟩, g1⟩
  | _ => exact q
theorem At.nextE {I : Nat → List (Nat × Value) → Hp → List Res → Prop} {m : Nat} {H' : Hp} (m' : Nat) (hm : m' < m) (hH : H'.le H) (hL : Sub L' L) (hI : I m' L' H O) : At (Exit.then (NextE I n m H') Q) .normal n L H O :=
  fun _ _ hf hs => ⟨m', L', H, O, hm, hH, hI, hf.sub hL, hs⟩
def JoinE (J : List (Nat × Value) → Hp → List Res → Prop) (n : Nat) (H : Hp) (a : Act) (w : World) : Prop := ∃ L H' O, H.le H' ∧ J L H' O ∧ Fr a n L ∧ SH w H' O
theorem Wp.joinE {x y : Code} (J : List (Nat × Value) → Hp → List Res → Prop) (hx : Wp P x (Exit.then (JoinE J n H) Q) n L H O) (hy : ∀ L' H' O', H.le H' → J L' H' O' → Wp P y Q n L' H' O') : Wp P (.seq x y) Q n L H O := fun a w hf hs =>
  wp_seq (wp_mono (hx a w hf hs) fun e a' w' q => by
    cases e with
    | normal =>
      obtain ⟨L', H', O', g1, g2, g3, g4⟩ := q
      exact hy L' H' O' g1 g2 a' w' g3 g4
    | _ => exact q)
theorem At.joinE {J : List (Nat × Value) → Hp → List Res → Prop} {H' : Hp} (hH : H'.le H) (hL : Sub L' L) (hJ : J L' H O) : At (Exit.then (JoinE J n H') Q) .normal n L H O :=
  fun _ _ hf hs => ⟨L', H, O, hH, hJ, hf.sub hL, hs⟩

/- Owned things in another order, some of them given up. -/
def permO (ks : List Nat) (k : Nat) (O : List Res) : List Res := ks.filterMap (O[·]?) ++ O.drop k
def nodupB : List Nat → Bool
  | [] => true
  | k :: ks => !memB ks k && nodupB ks
theorem nodupB_spec : ∀ {ks : List Nat}, nodupB ks = true → ∀ (i j a : Nat), ks[i]? = some a → ks[j]? = some a → i = j
  | [], _, i, _, a, h, _ => by simp at h
  | k :: ks, hn, i, j, a, hi, hj => by
    simp only [nodupB, Bool.and_eq_true, Bool.not_eq_true'] at hn
    have hk : ∀ q, ks[q]? = some k → False := fun q hq => by
      have := memB_iff.2 (List.mem_of_getElem? hq)
      rw [hn.1] at this; cases this
    cases i with
    | zero =>
      cases j with
      | zero => rfl
      | succ j => simp at hi hj; subst hi; exact (hk j hj).elim
    | succ i =>
      cases j with
      | zero => simp at hi hj; subst hj; exact (hk i hi).elim
      | succ j => rw [nodupB_spec hn.2 i j a (by simpa using hi) (by simpa using hj)]
theorem SH.permO {w : World} (ks : List Nat) (k : Nat) (hk : (ks.all fun q => Nat.blt q k) = true) (hn : nodupB ks = true) (hl : k ≤ O.length) (h : SH w H O) : SH w H (permO ks k O) := by
  have hlt : ∀ q ∈ ks, q < O.length := fun q hq => by have := List.all_eq_true.1 hk q hq; simp at this; omega
  have hlt2 : ∀ q ∈ ks, q < k := fun q hq => by have := List.all_eq_true.1 hk q hq; simpa using this
  have hfm : ∀ ks : List Nat, (∀ q ∈ ks, q < O.length) → ks.filterMap (O[·]?) = ks.map (fun q => O.getD q .emp) := by
    intro ks
    induction ks with
    | nil => intro _; rfl
    | cons q ks ih =>
      intro h
      have hq := h q (by simp)
      rw [List.filterMap_cons, List.getElem?_eq_getElem hq, List.map_cons, ih fun q' h' => h q' (by simp [h'])]
      simp [hq]
  have hf := hfm ks hlt
  refine h.pick (fun i => if i < ks.length then ks.getD i 0 else k + (i - ks.length)) (fun i r hr => ?_) (fun i j hi hj he => ?_)
  · unfold GK.permO at hr
    rw [hf] at hr
    by_cases hi : i < ks.length
    · rw [List.getElem?_append_left (by simpa using hi)] at hr
      have hq : ks[i] < O.length := hlt _ (List.getElem_mem hi)
      simp only [List.getElem?_map, List.getElem?_eq_getElem hi, Option.map_some] at hr
      simp only [hi, if_true, List.getD_eq_getElem?_getD, List.getElem?_eq_getElem hi, Option.getD_some]
      rw [List.getD_eq_getElem?_getD, List.getElem?_eq_getElem hq] at hr
      rw [List.getElem?_eq_getElem hq]; exact hr
    · rw [List.getElem?_append_right (by simpa using hi)] at hr
      simp only [hi, if_false]
      simpa using hr
  · by_cases h1 : i < ks.length <;> by_cases h2 : j < ks.length
    · rw [if_pos h1, if_pos h2] at he
      refine nodupB_spec hn i j ks[i] (by simp [h1]) ?_
      simp only [List.getD_eq_getElem?_getD, List.getElem?_eq_getElem h1, List.getElem?_eq_getElem h2, Option.getD_some] at he
      rw [List.getElem?_eq_getElem h2, he]
    · rw [if_pos h1, if_neg h2] at he
      have := hlt2 _ (List.getElem_mem h1)
      simp only [List.getD_eq_getElem?_getD, List.getElem?_eq_getElem h1, Option.getD_some] at he
      omega
    · rw [if_neg h1, if_pos h2] at he
      have := hlt2 _ (List.getElem_mem h2)
      simp only [List.getD_eq_getElem?_getD, List.getElem?_eq_getElem h2, Option.getD_some] at he
      omega
    · rw [if_neg h1, if_neg h2] at he
      omega
theorem At.perm {e : Exit} (ks : List Nat) {R : List Res} (O' : List Res) (hk : (ks.all fun q => Nat.blt q R.length) = true) (hn : nodupB ks = true) (hO : O = R ++ O') (k : At Q e n L H (ks.filterMap (R[·]?) ++ O')) : At Q e n L H O := fun a w hf hs => by
  subst hO
  have := SH.permO ks R.length hk hn (by simp) hs
  refine k a w hf ?_
  have e : GK.permO ks R.length (R ++ O') = ks.filterMap (R[·]?) ++ O' := by
    unfold GK.permO
    rw [List.drop_append_of_le_length (Nat.le_refl _), List.drop_length, List.nil_append]
    congr 1
    have key : ∀ ks : List Nat, (∀ q ∈ ks, q < R.length) → ks.filterMap ((R ++ O')[·]?) = ks.filterMap (R[·]?) := by
      intro ks
      induction ks with
      | nil => intro _; rfl
      | cons q ks ih =>
        intro h
        rw [List.filterMap_cons, List.filterMap_cons, ih fun q' h' => h q' (by simp [h']), List.getElem?_append_left (h q (by simp))]
    exact key ks fun q hq => by have := List.all_eq_true.1 hk q hq; simpa using this
  rw [← e]; exact this
theorem Seg.perm {ops : Array Oper} {rest : List Oper} (ks : List Nat) {R : List Res} (O' : List Res) (hk : (ks.all fun q => Nat.blt q R.length) = true) (hn : nodupB ks = true) (hO : O = R ++ O') (k : Seg P ops Q rest n L H (ks.filterMap (R[·]?) ++ O')) : Seg P ops Q rest n L H O :=
  At.perm (Q := fun _ a w => wpList P ops Q rest a w) (e := .normal) ks O' hk hn hO k
theorem Wp.perm {c : Code} (ks : List Nat) {R : List Res} (O' : List Res) (hk : (ks.all fun q => Nat.blt q R.length) = true) (hn : nodupB ks = true) (hO : O = R ++ O') (k : Wp P c Q n L H (ks.filterMap (R[·]?) ++ O')) : Wp P c Q n L H O :=
  At.perm (Q := fun _ a w => c.wp P Q a w) (e := .normal) ks O' hk hn hO k
/- the length of a row -/
theorem SH.rowLe {w : World} (hs : SH w H O) {i size m : Nat} {v : Value} {e : TypeId} {xs : List Value} (hi : O[i]? = some (.row v e size m xs)) : m ≤ 9223372036854775807 := by
  have h := hs.ok i _ hi
  simp only [Res.ok] at h
  rcases h.2 with ⟨rfl, rfl⟩ | ⟨g, cap, cur, rfl, _, _, h1, h2, _⟩
  · omega
  · simp only [maxLen] at h2; omega
theorem Seg.rowLe {ops : Array Oper} {rest : List Oper} {i size m : Nat} {v : Value} {e : TypeId} {xs : List Value} (hi : O[i]? = some (.row v e size m xs)) (k : m ≤ 9223372036854775807 → Seg P ops Q rest n L H O) : Seg P ops Q rest n L H O := fun a w hf hs => k (hs.rowLe hi) a w hf hs
theorem Wp.rowLe {c : Code} {i size m : Nat} {v : Value} {e : TypeId} {xs : List Value} (hi : O[i]? = some (.row v e size m xs)) (k : m ≤ 9223372036854775807 → Wp P c Q n L H O) : Wp P c Q n L H O := fun a w hf hs => k (hs.rowLe hi) a w hf hs
theorem At.rowLe {e' : Exit} {i size m : Nat} {v : Value} {e : TypeId} {xs : List Value} (hi : O[i]? = some (.row v e size m xs)) (k : m ≤ 9223372036854775807 → At Q e' n L H O) : At Q e' n L H O := fun a w hf hs => k (hs.rowLe hi) a w hf hs
theorem Wp.emp {c : Code} (k : Wp P c Q n L H (.emp :: O)) : Wp P c Q n L H O := fun a w hf hs =>
  k a w hf (hs.push (World.grownBy.refl w none) trivial (fun b hb => by cases hb))
end
end Go.GK
