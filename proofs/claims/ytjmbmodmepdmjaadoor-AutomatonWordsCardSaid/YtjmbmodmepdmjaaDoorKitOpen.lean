/- Arguments that can be read as data: how they lie, by the codecs. -/
import Derived.Test.YtjmbmodmepdmjaaDoorKitWord
import Derived.Test.YtjmbmodmepdmjaaDoorBsRead
import Derived.WalkSmall
import Derived.ChangeMaps5
import Derived.Lib.LaidTab
namespace Go.GK
open Go.RowKit Go.Deep
section
variable {H : Type} {enc : TypeId × Value → H} {P : Program} {w : World} {base : Nat} {spare : Nat → Bool} {held : Bool} {α β : Type}
def RdB (enc : TypeId × Value → H) (P : Program) (w : World) (base : Nat) (spare : Nat → Bool) (held : Bool) (N : Nat) (c : Cd α) (t : TypeId) : Prop :=
  ∀ n, n < N → ∀ cs y, cs.length = c.sz → DataW.trod enc P w base spare held n t cs = some y → ∃ a, c.Lay (Hp.of w) a cs
theorem RdB.le {N M : Nat} {c : Cd α} {t : TypeId} (h : RdB enc P w base spare held N c t) (hm : M ≤ N) : RdB enc P w base spare held M c t :=
  fun n hn cs y hl hy => h n (by omega) cs y hl hy
theorem RdB.i64 {N : Nat} {t : TypeId} (ht : P.underlying t = some (.int .i64)) : RdB enc P w base spare held N cI64 t := fun n _ cs y _ hy => by
  obtain ⟨m, h1, _, _⟩ := DataW.trod_int ht hy
  exact ⟨m, h1⟩
theorem RdB.u8 {N : Nat} {t : TypeId} (ht : P.underlying t = some (.int .u8)) : RdB enc P w base spare held N cU8 t := fun n _ cs y _ hy => by
  obtain ⟨m, h1, _, h2⟩ := DataW.trod_int ht hy
  have hb : 0 ≤ m ∧ m ≤ 255 := by simpa [Lit.wf, IntKind.min, IntKind.max, IntKind.signed, IntKind.bits] using h2
  exact ⟨m, h1, hb⟩
theorem RdB.b {N : Nat} {t : TypeId} (ht : P.underlying t = some .bool) : RdB enc P w base spare held N cB t := fun n _ cs y _ hy => by
  obtain ⟨b, h1, _⟩ := DataW.trod_bool ht hy
  exact ⟨b, h1⟩
theorem RdB.s {N : Nat} {t : TypeId} (ht : P.underlying t = some .string) : RdB enc P w base spare held N cS t := fun n _ cs y _ hy => by
  obtain ⟨s, h1, _⟩ := DataW.trod_string ht hy
  exact ⟨s.data.toList, h1⟩
theorem RdB.bs {N : Nat} {t e : TypeId} (ht : P.underlying t = some (.array 4 e)) (he : P.underlying e = some (.int .u64)) (h1 : P.cellsOf e = 1) (h4 : P.cellsOf t = 4) : RdB enc P w base spare held N cBs t := fun n _ cs y _ hy => by
  obtain ⟨p, hp⟩ := bcl_of_trod ht he h1 h4 hy
  exact ⟨p, hp⟩
theorem LayL_mk {c : Cd α} {Hh : Hp} : ∀ {l : List (α × List Value)}, (∀ x ∈ l, c.Lay Hh x.1 x.2) → LayL c Hh (l.map (·.1)) (l.flatMap (·.2))
  | [], _ => rfl
  | x :: l, h => ⟨x.2, l.flatMap (·.2), rfl, h x (by simp), LayL_mk fun y hy => h y (by simp [hy])⟩
theorem flat_len' {sz : Nat} : ∀ {l : List (α × List Value)}, (∀ x ∈ l, x.2.length = sz) → (l.flatMap (·.2)).length = l.length * sz
  | [], _ => by simp
  | x :: l, h => by
    rw [List.flatMap_cons, List.length_append, h x (by simp), flat_len' fun y hy => h y (by simp [hy]), List.length_cons, Nat.add_mul]; omega
theorem flat_get' {sz : Nat} : ∀ {l : List (α × List Value)} (_ : ∀ x ∈ l, x.2.length = sz) (i j : Nat) (x : α × List Value), l[i]? = some x → j < sz → (l.flatMap (·.2))[i * sz + j]? = x.2[j]?
  | [], _, i, j, x, h, _ => by simp at h
  | y :: l, hl, 0, j, x, h, hj => by
    simp at h; subst h
    rw [List.flatMap_cons, Nat.zero_mul, Nat.zero_add, List.getElem?_append_left (by rw [hl y (by simp)]; exact hj)]
  | y :: l, hl, i + 1, j, x, h, hj => by
    rw [List.flatMap_cons, List.getElem?_append_right (by rw [hl y (by simp), Nat.add_mul]; omega), hl y (by simp)]
    rw [show (i + 1) * sz + j - sz = i * sz + j by rw [Nat.add_mul]; omega]
    exact flat_get' (fun z hz => hl z (by simp [hz])) i j x (by simpa using h) hj
theorem RdB.sl {N : Nat} {c : Cd α} {t e : TypeId} (ht : P.underlying t = some (.slice e)) (hc : P.cellsOf e = c.sz) (h : RdB enc P w base spare held N c e) : RdB enc P w base spare held (N + 1) (cL c) t := fun n hn cs y _ hy => by
  have hfin : ∃ v, cs = [v] ∧ ∃ l : List α, SlD c (Hp.of w) l v := by
    rcases DataW.trod_slice ht hy with ⟨h0, _⟩ | ⟨a, len, cap, elems, rest, n', hfu, h0, _, hb, hl, hm, hlen, hel, _, _⟩
    · exact ⟨_, h0, [], SlD.nil⟩
    · obtain ⟨l, h1, h2⟩ := choose_list (Q := fun i (b : α × List Value) => c.Lay (Hp.of w) b.1 b.2 ∧ ∀ j u, b.2[j]? = some u → w.cell? (a.add (i * c.sz + j)) = some u) len fun i hi => by
        have he := hel i hi
        rw [show elems[i]? = some elems[i] by simp] at he
        simp only [Option.bind_eq_some_iff] at he
        obtain ⟨cs', hcs, htr⟩ := he
        obtain ⟨hbl, hlen', hcell⟩ := World.cells?_some hcs
        rw [hc] at hlen'
        obtain ⟨b, hR⟩ := h n' (by omega) cs' _ hlen' htr
        refine ⟨(b, cs'), hR, fun j u hj => ?_⟩
        have hj' : j < c.sz := by rw [← hlen']; exact (List.getElem?_eq_some_iff.1 hj).1
        have := hcell j (by rw [hc]; exact hj')
        rw [addr_add_add, hc, hj] at this
        exact this
      have hQ : ∀ x ∈ l, c.Lay (Hp.of w) x.1 x.2 := fun x hx => by
        obtain ⟨i, hi, rfl⟩ := List.getElem_of_mem hx
        exact (h2 i _ (List.getElem?_eq_getElem hi)).1
      have hsz : ∀ x ∈ l, x.2.length = c.sz := fun x hx => c.len (hQ x hx)
      refine ⟨_, h0, l.map (·.1), ⟨⟨l.flatMap (·.2), ⟨by rw [flat_len' hsz]; simp, .inr ⟨a, cap, by rw [List.length_map, h1]⟩, fun k u hk => ?_⟩, LayL_mk hQ⟩, by rw [List.length_map, h1]; unfold maxLen at hm; omega⟩⟩
      have hlt : k < l.length * c.sz := by rw [← flat_len' hsz]; exact (List.getElem?_eq_some_iff.1 hk).1
      have hs0 : 0 < c.sz := Nat.pos_of_ne_zero fun h => by rw [h] at hlt; simp at hlt
      have hi : k / c.sz < l.length := Nat.div_lt_of_lt_mul (by rw [Nat.mul_comm]; exact hlt)
      have hk2 : k = k / c.sz * c.sz + k % c.sz := by rw [Nat.mul_comm]; exact (Nat.div_add_mod k c.sz).symm
      have hg := flat_get' hsz (k / c.sz) (k % c.sz) l[k / c.sz] (List.getElem?_eq_getElem hi) (Nat.mod_lt _ hs0)
      rw [← hk2, hk] at hg
      have := (h2 (k / c.sz) l[k / c.sz] (List.getElem?_eq_getElem hi)).2 (k % c.sz) u hg.symm
      rw [← hk2] at this
      exact HCell.of_cell this
  obtain ⟨v, h1, l, h2⟩ := hfin
  exact ⟨l, v, h1, h2⟩
/- consecutive fields -/
def RdF (enc : TypeId × Value → H) (P : Program) (w : World) (base : Nat) (spare : Nat → Bool) (held : Bool) (N : Nat) (c : Cd α) (off : Nat) (fs : List Field) : Prop :=
  ∀ n, n < N → ∀ cs : List Value, (∀ f ∈ fs, ∃ y, DataW.trod enc P w base spare held n f.type ((cs.drop f.offset).take (P.cellsOf f.type)) = some y) → off + c.sz ≤ cs.length → ∃ a, c.Lay (Hp.of w) a ((cs.drop off).take c.sz)
theorem RdF.one {N : Nat} {c : Cd α} {off : Nat} {f : Field} (h : RdB enc P w base spare held N c f.type) (hc : P.cellsOf f.type = c.sz) (ho : f.offset = off) : RdF enc P w base spare held N c off [f] := fun n hn cs hf hl => by
  obtain ⟨y, hy⟩ := hf f (by simp)
  rw [hc, ho] at hy
  exact h n hn _ y (by simp; omega) hy
theorem RdF.cons {N : Nat} {c : Cd α} {d : Cd β} {off : Nat} {f : Field} {fs : List Field} (h : RdB enc P w base spare held N c f.type) (hc : P.cellsOf f.type = c.sz) (ho : f.offset = off) (hr : RdF enc P w base spare held N d (off + c.sz) fs) :
    RdF enc P w base spare held N (cP c d) off (f :: fs) := fun n hn cs hf hl => by
  have hl : off + (c.sz + d.sz) ≤ cs.length := hl
  obtain ⟨a, ha⟩ := RdF.one h hc ho n hn cs (fun g hg => hf g (by simp at hg; simp [hg])) (by omega)
  obtain ⟨b, hb⟩ := hr n hn cs (fun g hg => hf g (by simp [hg])) (by omega)
  refine ⟨(a, b), _, _, ?_, ha, hb⟩
  show (cs.drop off).take (c.sz + d.sz) = _
  rw [List.take_add, List.drop_drop]
theorem RdB.st {N : Nat} {c : Cd α} {t : TypeId} {fs : Array Field} (ht : P.underlying t = some (.struct fs)) (h : RdF enc P w base spare held N c 0 fs.toList) : RdB enc P w base spare held (N + 1) c t := fun n hn cs y hl hy => by
  obtain ⟨xs, n', hfu, _, hlen, hxs, hx⟩ := DataW.trod_struct ht hy
  obtain ⟨a, ha⟩ := h n' (by omega) cs (fun f hf => by
    obtain ⟨i, hi, rfl⟩ := List.getElem_of_mem hf
    have := hx i fs.toList[i] (by simp at hi ⊢)
    rw [this]
    have hi' : i < xs.length := by rw [hxs]; simpa using hi
    exact ⟨xs[i], List.getElem?_eq_getElem hi'⟩) (by omega)
  refine ⟨a, ?_⟩
  rw [List.drop_zero, List.take_of_length_le (by omega)] at ha
  exact ha
/- an argument -/
theorem RdB.slArg {r : Reach} {b0 : Nat} {c : Cd α} {t e : TypeId} {v : Value} {d : DataW H} {p : List MemPlace} (ht : P.underlying t = some (.slice e)) (hc : P.cellsOf e = c.sz) (h : ∀ N, RdB enc P w base spare held N c e)
    (hv : Value.okWide P w r b0 t v) (hd : DataW.Trod enc P w base spare held t v d p) : ∃ l, SlD c (Hp.of w) l v := by
  obtain ⟨a, len, cap, rfl⟩ := Go.WideShapes.okWide_slice ht hv
  obtain ⟨fuel, hf⟩ := hd
  obtain ⟨l, v', h1, h2⟩ := RdB.sl ht hc (h fuel) fuel (by omega) _ _ rfl hf
  have h1 : [Value.slice a len cap] = [v'] := h1
  simp at h1; subst h1
  exact ⟨l, h2⟩
end
section
variable {α : Type} {c : Cd α} {H : Hp}
theorem LayL.mem : ∀ {l : List α} {xs : List Value}, LayL c H l xs → ∀ a ∈ l, ∃ cs, c.Lay H a cs
  | [], _, _, a, ha => by cases ha
  | b :: l, _, ⟨cs, ys, _, h1, h2⟩, a, ha => by
    rcases List.mem_cons.1 ha with rfl | ha
    · exact ⟨cs, h1⟩
    · exact LayL.mem h2 a ha
theorem SlD.mem {l : List α} {v : Value} (h : SlD c H l v) : ∀ a ∈ l, ∃ cs, c.Lay H a cs := by
  obtain ⟨⟨xs, _, h2⟩, _⟩ := h
  exact h2.mem
end
end Go.GK
namespace Go.GK
open Go.RowKit Go.Deep
section
variable {H : Type} {enc : TypeId × Value → H} {P : Program} {w : World} {base : Nat} {spare : Nat → Bool} {held : Bool}
theorem strArg {r : Reach} {b0 : Nat} {t : TypeId} {v : Value} {d : DataW H} {p : List MemPlace} (ht : P.underlying t = some .string) (hv : Value.okWide P w r b0 t v) (hd : DataW.Trod enc P w base spare held t v d p) : ∃ l : Str, v = sv l := by
  obtain ⟨s, rfl, _⟩ := Go.ChangeMaps.open_string ht hv hd
  exact ⟨s.data.toList, rfl⟩
theorem u8Arg {r : Reach} {b0 : Nat} {t : TypeId} {v : Value} {d : DataW H} {p : List MemPlace} (ht : P.underlying t = some (.int .u8)) (hv : Value.okWide P w r b0 t v) (hd : DataW.Trod enc P w base spare held t v d p) : ∃ l : Int, (0 ≤ l ∧ l ≤ 255) ∧ v = .int .u8 l := by
  obtain ⟨n, rfl, _, _, h⟩ := Go.ChangeShapes.open_int ht hv hd
  exact ⟨n, by simpa [Lit.wf, IntKind.min, IntKind.max, IntKind.signed, IntKind.bits] using h, rfl⟩
theorem LaidH.of {W : World} {g : Nat} (hg : P.globalNamed "internal/strconv.uint64pow10" = some g) (h : Lib.TabIs P W "internal/strconv.uint64pow10" .u64 Lib.pow10Tab) : LaidH P (Hp.of W) := fun w O hs => by
  have hb := hs.below
  have hlt : g < W.heap.size := by
    unfold Lib.TabIs World.var? at h
    rw [hg] at h
    simp only [Option.bind_some] at h
    split at h
    · rename_i he
      exact (Array.getElem?_eq_some_iff.1 he).1
    · cases h
  exact Go.var?_below hb hg hlt h
end
end Go.GK
