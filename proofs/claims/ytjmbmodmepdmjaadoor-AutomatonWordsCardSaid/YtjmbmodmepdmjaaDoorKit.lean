/- A small logic for walks: symbolic frames (association lists of slots), a heap in two parts (what stays as it is, and what the call owns), and one rule for each construct of the code. No program in sight. -/
import Derived.WalkKit
import Derived.Deep.Quiet
import Derived.StillTail
namespace Go.GK

/- The frame: the slots that are known, the newest first. -/
def lk : List (Nat × Value) → Nat → Option Value
  | [], _ => none
  | (k, v) :: l, t => match Nat.beq k t with
    | true => some v
    | false => lk l t

structure Fr (a : Act) (n : Nat) (L : List (Nat × Value)) : Prop where
  defers : a.defers = []
  size : a.tmps.size = n
  get : ∀ t v, lk L t = some v → a.tmps.getD t undef = v

theorem Fr.put {a : Act} {n : Nat} {L : List (Nat × Value)} (h : Fr a n L) {d : Nat} (hd : Nat.blt d n = true) (v : Value) : Fr (a.put (some d) v) n ((d, v) :: L) := by
  have hd' : d < n := by simpa using hd
  refine ⟨h.defers, by simp [Act.put, h.size], fun t u hu => ?_⟩
  simp only [lk] at hu
  simp only [Act.put]
  cases hb : Nat.beq d t with
  | true =>
    have e : d = t := Nat.eq_of_beq_eq_true hb
    subst e
    rw [hb] at hu
    have e2 : v = u := by simpa using hu
    subst e2
    simp [h.size, hd']
  | false =>
    rw [hb] at hu
    have ne : d ≠ t := Nat.ne_of_beq_eq_false hb
    have := h.get t u hu
    simp only [Array.getD_eq_getD_getElem?] at this ⊢
    rw [Array.getElem?_setIfInBounds_ne ne]
    exact this

def ev (L : List (Nat × Value)) : Operand → Option Value
  | .tmp t => lk L t
  | .const v => some v
  | .global g => some (.pointer (some ⟨g, 0, none⟩))
  | .func f => some (.func (.func f) #[] #[])

theorem Fr.eval {a : Act} {n : Nat} {L : List (Nat × Value)} (h : Fr a n L) {x : Operand} {v : Value} (hx : ev L x = some v) : a.eval x = v := by
  cases x with
  | tmp t => exact h.get t v hx
  | const u => simpa [ev, Act.eval] using hx
  | global g => simpa [ev, Act.eval] using hx
  | func f => simpa [ev, Act.eval] using hx

def evl (L : List (Nat × Value)) : List Operand → Option (List Value)
  | [] => some []
  | x :: xs => match ev L x, evl L xs with
    | some v, some vs => some (v :: vs)
    | _, _ => none

theorem Fr.evals {a : Act} {n : Nat} {L : List (Nat × Value)} (h : Fr a n L) : ∀ {xs : List Operand} {vs : List Value}, evl L xs = some vs → xs.map a.eval = vs
  | [], vs, hx => by simpa [evl] using hx
  | x :: xs, vs, hx => by
    simp only [evl] at hx
    cases h1 : ev L x with
    | none => simp [h1] at hx
    | some v =>
      cases h2 : evl L xs with
      | none => simp [h1, h2] at hx
      | some us =>
        simp [h1, h2] at hx
        subst hx
        simp [h.eval h1, h.evals h2]

/- Forgetting slots. -/
def Sub (L' L : List (Nat × Value)) : Prop := ∀ t v, lk L' t = some v → lk L t = some v
theorem Sub.nil {L : List (Nat × Value)} : Sub [] L := fun _ _ h => by simp [lk] at h
theorem Sub.cons {L L' : List (Nat × Value)} {t : Nat} {v : Value} (h : lk L t = some v) (k : Sub L' L) : Sub ((t, v) :: L') L := fun t' v' h' => by
  simp only [lk] at h'
  cases hb : Nat.beq t t' with
  | true =>
    rw [hb] at h'
    have e : t = t' := Nat.eq_of_beq_eq_true hb
    subst e
    rw [h]; exact h'
  | false => rw [hb] at h'; exact k _ _ h'
theorem Sub.refl {L : List (Nat × Value)} : Sub L L := fun _ _ h => h
theorem Sub.trans {L1 L2 L3 : List (Nat × Value)} (h : Sub L1 L2) (k : Sub L2 L3) : Sub L1 L3 := fun _ _ x => k _ _ (h _ _ x)
theorem Fr.sub {a : Act} {n : Nat} {L L' : List (Nat × Value)} (h : Fr a n L) (s : Sub L' L) : Fr a n L' := ⟨h.defers, h.size, fun t v hv => h.get t v (s t v hv)⟩

/- The heap. What stays (a map of some blocks from blocks to what they hold, with the streams); what is owned (a list). -/
structure Hp where
  at_ : Nat → Option Obj
  os : Os
  output : Array (Nat × ByteArray)
  tape : Nat → Question → Nat

def Hp.le (H H' : Hp) : Prop := (∀ b o, H.at_ b = some o → H'.at_ b = some o) ∧ H'.os = H.os ∧ H'.output = H.output ∧ H'.tape = H.tape
theorem Hp.le.refl (H : Hp) : H.le H := ⟨fun _ _ h => h, rfl, rfl, rfl⟩
theorem Hp.le.trans {A B C : Hp} (h : A.le B) (k : B.le C) : A.le C := ⟨fun b o x => k.1 b o (h.1 b o x), k.2.1.trans h.2.1, k.2.2.1.trans h.2.2.1, k.2.2.2.trans h.2.2.2⟩

inductive Res where
  | blk (b : Nat) (o : Obj)
  | row (v : Value) (e : TypeId) (size n : Nat) (xs : List Value)
  | emp
  | own (b : Nat) (C : World → Prop) (lt : ∀ w, C w → b < w.heap.size) (kept : ∀ w w' row, C w → w.grownBy w' row → row ≠ some b → C w')

def Res.block : Res → Option Nat
  | .blk b _ => some b
  | .row v .. => v.ownBlock
  | .emp => none
  | .own b .. => some b

def Res.ok (w : World) : Res → Prop
  | .blk b o => w.heap[b]? = some o
  | .row v e size n xs => w.ownsRow 0 e size v n xs
  | .emp => True
  | .own _ C _ _ => C w

structure SH (w : World) (H : Hp) (O : List Res) : Prop where
  imm : ∀ b o, H.at_ b = some o → w.heap[b]? = some o
  os : w.os = H.os
  output : w.output = H.output
  tape : w.tape = H.tape
  ok : ∀ (i : Nat) (r : Res), O[i]? = some r → r.ok w
  dis : ∀ (i : Nat) (r : Res) (b : Nat), O[i]? = some r → r.block = some b → H.at_ b = none
  nd : ∀ (i j : Nat) (r r' : Res) (b : Nat), O[i]? = some r → O[j]? = some r' → r.block = some b → r'.block = some b → i = j

theorem Res.ok.lt {w : World} {r : Res} (h : r.ok w) {b : Nat} (hb : r.block = some b) : b < w.heap.size := by
  cases r with
  | blk b' o =>
    simp only [Res.block, Option.some.injEq] at hb
    subst hb
    exact (Array.getElem?_eq_some_iff.1 h).1
  | row v e size n xs => exact (World.ownsRow.lt h b hb).2
  | emp => cases hb
  | own b' C lt kept =>
    simp only [Res.block, Option.some.injEq] at hb
    subst hb
    exact lt w h

theorem Res.ok.grown {w w' : World} {row : Option Nat} {r : Res} (h : r.ok w) (hg : w.grownBy w' row) (hne : ∀ b, r.block = some b → row ≠ some b) : r.ok w' := by
  cases r with
  | blk b o =>
    have hlt := Res.ok.lt h (b := b) rfl
    show w'.heap[b]? = some o
    rw [hg.block b hlt (fun e => hne b rfl e.symm)]
    exact h
  | row v e size n xs =>
    refine World.ownsRow.kept h hg ?_
    cases hv : v.ownBlock with
    | none => exact .inl rfl
    | some b => exact .inr (fun e => hne b hv e.symm)
  | emp => trivial
  | own b C lt kept => exact kept w w' row h hg (hne b rfl)

theorem SH.lt {w : World} {H : Hp} {O : List Res} (h : SH w H O) {b : Nat} {o : Obj} (hb : H.at_ b = some o) : b < w.heap.size := (Array.getElem?_eq_some_iff.1 (h.imm b o hb)).1

/- A world that has grown, and in which only unowned things that do not stay have changed. -/
theorem SH.grown {w w' : World} {H : Hp} {O : List Res} (h : SH w H O) (hg : w.grownBy w' none) : SH w' H O where
  imm b o hb := by rw [hg.block b (h.lt hb) (by simp)]; exact h.imm b o hb
  os := hg.os.trans h.os
  output := hg.output.trans h.output
  tape := hg.tape.trans h.tape
  ok i r hr := (h.ok i r hr).grown hg (by simp)
  dis := h.dis
  nd := h.nd

theorem SH.drew {w : World} {H : Hp} {O : List Res} (h : SH w H O) : SH { w with drawn := w.drawn + 1 } H O where
  imm := h.imm
  os := h.os
  output := h.output
  tape := h.tape
  ok i r hr := by
    have := h.ok i r hr
    cases r with
    | own b C lt kept => exact kept w _ none this ⟨rfl, rfl, rfl, Nat.le_refl _, fun _ _ _ => rfl⟩ (by simp)
    | _ => exact this
  dis := h.dis
  nd := h.nd

theorem getElem?_cons_cases {α : Type} {x y : α} {l : List α} {i : Nat} (h : (x :: l)[i]? = some y) : (i = 0 ∧ y = x) ∨ ∃ j, i = j + 1 ∧ l[j]? = some y := by
  cases i with
  | zero => left; simp at h; exact ⟨rfl, h.symm⟩
  | succ j => right; exact ⟨j, rfl, by simpa using h⟩

/- A new resource. -/
theorem SH.push {w w' : World} {H : Hp} {O : List Res} (h : SH w H O) (hg : w.grownBy w' none) {r : Res} (hr : r.ok w') (hnew : ∀ b, r.block = some b → w.heap.size ≤ b) : SH w' H (r :: O) where
  imm b o hb := by rw [hg.block b (h.lt hb) (by simp)]; exact h.imm b o hb
  os := hg.os.trans h.os
  output := hg.output.trans h.output
  tape := hg.tape.trans h.tape
  ok i s hs := by
    rcases getElem?_cons_cases hs with ⟨rfl, rfl⟩ | ⟨j, rfl, hj⟩
    · exact hr
    · exact (h.ok j s hj).grown hg (by simp)
  dis i s b hs hb := by
    rcases getElem?_cons_cases hs with ⟨rfl, rfl⟩ | ⟨j, rfl, hj⟩
    · cases he : H.at_ b with
      | none => rfl
      | some o => have := h.lt he; have := hnew b hb; omega
    · exact h.dis j s b hj hb
  nd i j s s' b hi hj hb hb' := by
    rcases getElem?_cons_cases hi with ⟨rfl, rfl⟩ | ⟨i', rfl, hi'⟩
    · rcases getElem?_cons_cases hj with ⟨rfl, rfl⟩ | ⟨j', rfl, hj'⟩
      · rfl
      · have := (h.ok j' s' hj').lt hb'; have := hnew b hb; omega
    · rcases getElem?_cons_cases hj with ⟨rfl, rfl⟩ | ⟨j', rfl, hj'⟩
      · have := (h.ok i' s hi').lt hb; have := hnew b hb'; omega
      · rw [h.nd i' j' s s' b hi' hj' hb hb']

theorem SH.alloc {w : World} {H : Hp} {O : List Res} (h : SH w H O) (o : Obj) : SH (w.alloc o) H (.blk w.heap.size o :: O) :=
  h.push (World.grownBy_alloc w o none) (heap_alloc_new w o) (fun b hb => by simp only [Res.block, Option.some.injEq] at hb; omega)

/- One resource turns into another one. -/
theorem SH.set {w w' : World} {H : Hp} {O : List Res} (h : SH w H O) {i : Nat} {r r' : Res} (hi : O[i]? = some r) (hg : w.grownBy w' r.block)
    (hr : r'.ok w') (hb : ∀ b, r'.block = some b → r.block = some b ∨ w.heap.size ≤ b) : SH w' H (O.set i r') := by
  have hlen : i < O.length := (List.getElem?_eq_some_iff.1 hi).1
  have key : ∀ j s, (O.set i r')[j]? = some s → (j = i ∧ s = r') ∨ (j ≠ i ∧ O[j]? = some s) := fun j s hs => by
    rw [List.getElem?_set] at hs
    by_cases e : i = j
    · subst e; simp [hlen] at hs; exact .inl ⟨rfl, hs.symm⟩
    · simp [e] at hs; exact .inr ⟨fun x => e x.symm, hs⟩
  have hnone : ∀ b, r'.block = some b → H.at_ b = none := fun b hb' => by
    rcases hb b hb' with hb' | hb'
    · exact h.dis i r b hi hb'
    · cases he : H.at_ b with
      | none => rfl
      | some o => have := h.lt he; omega
  refine ⟨fun b o hbo => ?_, hg.os.trans h.os, hg.output.trans h.output, hg.tape.trans h.tape, fun j s hs => ?_, fun j s b hs hsb => ?_, fun j k s s' b hs hs' hsb hsb' => ?_⟩
  · rw [hg.block b (h.lt hbo) (fun e => by rw [h.dis i r b hi e.symm] at hbo; cases hbo)]
    exact h.imm b o hbo
  · rcases key j s hs with ⟨rfl, rfl⟩ | ⟨hj, hs'⟩
    · exact hr
    · exact (h.ok j s hs').grown hg (fun b hb e => hj (h.nd j i s r b hs' hi hb e))
  · rcases key j s hs with ⟨rfl, rfl⟩ | ⟨hj, hs'⟩
    · exact hnone b hsb
    · exact h.dis j s b hs' hsb
  · rcases key j s hs with ⟨rfl, rfl⟩ | ⟨hj, h1⟩
    · rcases key k s' hs' with ⟨rfl, rfl⟩ | ⟨hk, h2⟩
      · rfl
      · exfalso
        rcases hb b hsb with e | e
        · exact hk (h.nd k j s' r b h2 hi hsb' e)
        · have := (h.ok k s' h2).lt hsb'; omega
    · rcases key k s' hs' with ⟨rfl, rfl⟩ | ⟨hk, h2⟩
      · exfalso
        rcases hb b hsb' with e | e
        · exact hj (h.nd j k s r b h1 hi hsb e)
        · have := (h.ok j s h1).lt hsb; omega
      · exact h.nd j k s s' b h1 h2 hsb hsb'

/- A resource is given up: it stays as it is from now on. -/
def Hp.put (H : Hp) (b : Nat) (o : Obj) : Hp := { H with at_ := fun c => if c = b then some o else H.at_ c }

theorem SH.drop {w : World} {H : Hp} {O : List Res} (h : SH w H O) (i : Nat) : SH w H (O.eraseIdx i) where
  imm := h.imm
  os := h.os
  output := h.output
  tape := h.tape
  ok j r hr := by
    rw [List.getElem?_eraseIdx] at hr
    split at hr
    · exact h.ok _ _ hr
    · exact h.ok _ _ hr
  dis j r b hr hb := by
    rw [List.getElem?_eraseIdx] at hr
    split at hr
    · exact h.dis _ _ b hr hb
    · exact h.dis _ _ b hr hb
  nd j k r r' b hr hr' hb hb' := by
    rw [List.getElem?_eraseIdx] at hr hr'
    split at hr <;> split at hr'
    · exact h.nd _ _ _ _ b hr hr' hb hb'
    · have := h.nd _ _ _ _ b hr hr' hb hb'; omega
    · have := h.nd _ _ _ _ b hr hr' hb hb'; omega
    · have := h.nd _ _ _ _ b hr hr' hb hb'; omega

theorem SH.publish {w : World} {H : Hp} {O : List Res} (h : SH w H O) {i : Nat} {r : Res} (hi : O[i]? = some r) {b : Nat} (hb : r.block = some b) {o : Obj} (ho : w.heap[b]? = some o) :
    H.le (H.put b o) ∧ SH w (H.put b o) (O.eraseIdx i) := by
  have hnone := h.dis i r b hi hb
  have hd := h.drop i
  refine ⟨⟨fun c o' hc => ?_, rfl, rfl, rfl⟩, ⟨fun c o' hc => ?_, h.os, h.output, h.tape, hd.ok, fun j s c hs hc => ?_, hd.nd⟩⟩
  · simp only [Hp.put]
    by_cases e : c = b
    · subst e; rw [hnone] at hc; cases hc
    · simp [e, hc]
  · simp only [Hp.put] at hc
    by_cases e : c = b
    · subst e; simp at hc; subst hc; exact ho
    · simp [e] at hc; exact h.imm c o' hc
  · simp only [Hp.put]
    have : c ≠ b := fun e => by
      subst e
      rw [List.getElem?_eraseIdx] at hs
      split at hs
      · have := h.nd _ _ _ _ c hs hi hc hb; omega
      · have := h.nd _ _ _ _ c hs hi hc hb; omega
    simp [this, hd.dis j s c hs hc]

/- The same owned things in another order, or fewer of them. -/
theorem SH.pick {w : World} {H : Hp} {O O' : List Res} (h : SH w H O) (f : Nat → Nat) (hf : ∀ i r, O'[i]? = some r → O[f i]? = some r)
    (hinj : ∀ i j, i < O'.length → j < O'.length → f i = f j → i = j) : SH w H O' where
  imm := h.imm
  os := h.os
  output := h.output
  tape := h.tape
  ok i r hr := h.ok _ _ (hf i r hr)
  dis i r b hr hb := h.dis _ _ b (hf i r hr) hb
  nd i j r r' b hr hr' hb hb' := hinj i j (List.getElem?_eq_some_iff.1 hr).1 (List.getElem?_eq_some_iff.1 hr').1 (h.nd _ _ _ _ b (hf i r hr) (hf j r' hr') hb hb')

/- Judgements. -/
def At (Q : Exit → Act → World → Prop) (e : Exit) (n : Nat) (L : List (Nat × Value)) (H : Hp) (O : List Res) : Prop :=
  ∀ a w, Fr a n L → SH w H O → Q e a w
def Wp (P : Program) (c : Code) (Q : Exit → Act → World → Prop) (n : Nat) (L : List (Nat × Value)) (H : Hp) (O : List Res) : Prop :=
  ∀ a w, Fr a n L → SH w H O → c.wp P Q a w
def Seg (P : Program) (ops : Array Oper) (Q : Exit → Act → World → Prop) (rest : List Oper) (n : Nat) (L : List (Nat × Value)) (H : Hp) (O : List Res) : Prop :=
  ∀ a w, Fr a n L → SH w H O → wpList P ops Q rest a w

section
variable {P : Program} {Q Q2 : Exit → Act → World → Prop} {n : Nat} {L L' : List (Nat × Value)} {H : Hp} {O : List Res}

theorem At.sub {e : Exit} (s : Sub L' L) (h : At Q e n L' H O) : At Q e n L H O := fun a w hf hs => h a w (hf.sub s) hs
theorem Wp.sub {c : Code} (s : Sub L' L) (h : Wp P c Q n L' H O) : Wp P c Q n L H O := fun a w hf hs => h a w (hf.sub s) hs
theorem At.then_n {y : Code} (h : Wp P y Q n L H O) : At (Exit.then (y.wp P Q) Q2) .normal n L H O := h
theorem At.then_x {nx : Act → World → Prop} {id : Nat} (h : At Q (.exit id) n L H O) : At (Exit.then nx Q) (.exit id) n L H O := h
theorem At.then_r {nx : Act → World → Prop} (h : At Q .ret n L H O) : At (Exit.then nx Q) .ret n L H O := h
theorem At.blk_n {id : Nat} (h : At Q .normal n L H O) : At (Exit.inBlock id Q) .normal n L H O := h
theorem At.blk_r {id : Nat} (h : At Q .ret n L H O) : At (Exit.inBlock id Q) .ret n L H O := h
theorem At.blk_hit {id : Nat} (h : At Q .normal n L H O) : At (Exit.inBlock id Q) (.exit id) n L H O := fun a w hf hs => by
  simp only [Exit.inBlock, if_true]; exact h a w hf hs
theorem At.blk_miss {id id' : Nat} (hne : Nat.beq id' id = false) (h : At Q (.exit id') n L H O) : At (Exit.inBlock id Q) (.exit id') n L H O := fun a w hf hs => by
  have : id' ≠ id := Nat.ne_of_beq_eq_false hne
  simp only [Exit.inBlock, this, if_false]; exact h a w hf hs

theorem Wp.seq {x y : Code} (h : Wp P x (Exit.then (y.wp P Q) Q) n L H O) : Wp P (.seq x y) Q n L H O := fun a w hf hs => wp_seq (h a w hf hs)
theorem Wp.skip (h : At Q .normal n L H O) : Wp P .skip Q n L H O := fun a w hf hs => wp_skip (h a w hf hs)
theorem Wp.exit {id : Nat} (h : At Q (.exit id) n L H O) : Wp P (.exit id) Q n L H O := fun a w hf hs => wp_exit (h a w hf hs)
theorem Wp.ret (h : At Q .ret n L H O) : Wp P .ret Q n L H O := fun a w hf hs => wp_ret (h a w hf hs)
theorem Wp.label {l : Nat} (h : At Q .normal n L H O) : Wp P (.label l) Q n L H O := fun a w hf hs => wp_label (h a w hf hs)
theorem Wp.block {id : Nat} {c : Code} (h : Wp P c (Exit.inBlock id Q) n L H O) : Wp P (.block id c) Q n L H O := fun a w hf hs => wp_block (h a w hf hs)
theorem Wp.cond {c : Operand} {x y : Code} {b : Bool} (hv : ev L c = some (.bool b)) (ht : b = true → Wp P x Q n L H O) (hf : b = false → Wp P y Q n L H O) : Wp P (.cond c x y) Q n L H O :=
  fun a w hfr hs => wp_cond_split (hfr.eval hv) (fun e => ht e a w hfr hs) (fun e => hf e a w hfr hs)
theorem Wp.condT {c : Operand} {x y : Code} (hv : ev L c = some (.bool true)) (ht : Wp P x Q n L H O) : Wp P (.cond c x y) Q n L H O :=
  fun a w hfr hs => wp_cond_true (hfr.eval hv) (ht a w hfr hs)
theorem Wp.condF {c : Operand} {x y : Code} (hv : ev L c = some (.bool false)) (ht : Wp P y Q n L H O) : Wp P (.cond c x y) Q n L H O :=
  fun a w hfr hs => wp_cond_false (hfr.eval hv) (ht a w hfr hs)
theorem Wp.region {id : Nat} {l : List Oper} (h : Seg P l.toArray Q l n L H O) : Wp P (.region id l.toArray false) Q n L H O :=
  fun a w hf hs => wp_region_lit (h a w hf hs)

theorem wp_loopG {X : Type} {c : Code} (I : X → Act → World → Prop) (μ : X → Nat) {x : X} {a : Act} {w : World} (h₀ : I x a w)
    (round : ∀ x a w, I x a w → c.wp P (Exit.then (fun a' w' => ∃ x', I x' a' w' ∧ μ x' < μ x) Q) a w) : (Code.loop c).wp P Q a w := by
  intro b k cs
  have key : ∀ n x a w, μ x = n → I x a w →
      ∃ e a' w', Q e a' w' ∧ Arrives P (lone (b.at a (.code c :: .inLoop c :: k)) cs w) b k cs e a' w' := by
    intro n
    induction n using Nat.strongRecOn with
    | _ n ih =>
      intro x a w hn hI
      obtain ⟨e, a₁, w₁, hq, harr⟩ := round x a w hI b (.inLoop c :: k) cs
      cases e with
      | normal =>
        obtain ⟨x₁, hI₁, hlt⟩ := hq
        obtain ⟨e₂, a₂, w₂, hq₂, harr₂⟩ := ih (μ x₁) (hn ▸ hlt) x₁ a₁ w₁ rfl hI₁
        exact ⟨e₂, a₂, w₂, hq₂, .of_steps (Steps.trans harr (.one step_inLoop)) harr₂⟩
      | exit id => exact ⟨_, a₁, w₁, hq, .pass (x := .inLoop c) rfl (fun _ _ => .inl (by simp)) harr⟩
      | goto l => exact ⟨_, a₁, w₁, hq, .pass (x := .inLoop c) rfl (fun _ _ => .inl (by simp)) harr⟩
      | ret => exact ⟨_, a₁, w₁, hq, .pass (x := .inLoop c) rfl (fun _ _ => .inl (by simp)) harr⟩
      | panic ch => exact ⟨_, a₁, w₁, hq, .pass (x := .inLoop c) rfl (fun _ _ => .inl (by simp)) harr⟩
      | outgrown => exact ⟨_, a₁, w₁, hq, .pass (x := .inLoop c) rfl (fun _ _ => .inl (by simp)) harr⟩
  obtain ⟨e, a', w', hq, harr⟩ := key _ x a w rfl h₀
  exact ⟨e, a', w', hq, .of_steps (.one step_loop) harr⟩

/- A loop: 'X' what varies; the frame, what is owned, and what is known, as functions of it. -/
def Next {X : Type} (n : Nat) (Lx : X → List (Nat × Value)) (Ox : X → List Res) (I : X → Hp → Prop) (μ : X → Nat) (x : X) (H' : Hp) (a : Act) (w : World) : Prop :=
  ∃ y : X × Hp, (H'.le y.2 ∧ I y.1 y.2 ∧ Fr a n (Lx y.1) ∧ SH w y.2 (Ox y.1)) ∧ μ y.1 < μ x

theorem Wp.loop {c : Code} {X : Type} (Lx : X → List (Nat × Value)) (Ox : X → List Res) (I : X → Hp → Prop) (μ : X → Nat) (x₀ : X)
    (hI : I x₀ H) (hL : Sub (Lx x₀) L) (hO : O = Ox x₀)
    (round : ∀ x H', H.le H' → I x H' → Wp P c (Exit.then (Next n Lx Ox I μ x H') Q) n (Lx x) H' (Ox x)) :
    Wp P (.loop c) Q n L H O := by
  intro a w hf hs
  subst hO
  refine wp_loopG (X := X × Hp) (fun y a w => H.le y.2 ∧ I y.1 y.2 ∧ Fr a n (Lx y.1) ∧ SH w y.2 (Ox y.1)) (fun y => μ y.1) (x := (x₀, H)) ⟨Hp.le.refl H, hI, hf.sub hL, hs⟩ ?_
  rintro ⟨x, H'⟩ a w ⟨h1, h2, h3, h4⟩
  refine wp_mono (round x H' h1 h2 a w h3 h4) fun e a' w' q => ?_
  cases e with
  | normal =>
    obtain ⟨y, ⟨g1, g2, g3, g4⟩, hlt⟩ := q
    exact ⟨y, ⟨h1.trans g1, g2, g3, g4⟩, hlt⟩
  | _ => exact q

theorem At.next {X : Type} {Lx : X → List (Nat × Value)} {Ox : X → List Res} {I : X → Hp → Prop} {μ : X → Nat} {x : X} {H' : Hp} (y : X) (hH : H'.le H) (hI : I y H) (hL : Sub (Lx y) L) (hO : O = Ox y)
    (hμ : μ y < μ x) : At (Exit.then (Next n Lx Ox I μ x H') Q) .normal n L H O :=
  fun _ _ hf hs => ⟨(y, H), ⟨hH, hI, hf.sub hL, hO ▸ hs⟩, hμ⟩
theorem At.next' {X : Type} {Lx : X → List (Nat × Value)} {Ox : X → List Res} {I : X → Hp → Prop} {μ : X → Nat} {x : X} {H' : Hp} (y : X) (hH : H'.le H) (hI : I y H) (hL : Sub (Lx y) L) (hO : O = Ox y)
    (hμ : μ y < μ x) : At (Exit.then (Next n Lx Ox I μ x H') Q) .normal n L H O := At.next y hH hI hL hO hμ

/- Operations in the order of the text. -/
theorem Seg.nil {ops : Array Oper} (h : At Q .normal n L H O) : Seg P ops Q [] n L H O := h

/- An operation that yields one value and leaves what is owned and what stays. -/
def OpT (P : Program) (op : Op) (T : TypeId) (E : Operand → Option Value) (H : Hp) (O : List Res) (v : Value) : Prop :=
  ∀ (a : Act) (w : World) (o : Oper), o.op = op → o.type = T → (∀ x u, E x = some u → a.eval x = u) → SH w H O → o.quietAt P a (fun w' => SH w' H O) w v

theorem Oper.wp_of_quietAt {o : Oper} {a : Act} {w : World} {C : World → Prop} {v : Value} {next : Act → World → Prop} {Q : Exit → Act → World → Prop}
    (hq : o.quietAt P a C w v) (hC : C w) (h : ∀ w', C w' → next (a.put o.dst v) w') : o.wp P a w next Q := by
  unfold Oper.quietAt Oper.quietUpon at hq
  unfold Oper.wp
  split at hq <;> rename_i heq <;> (try rw [heq])
  · obtain ⟨rfl, rfl⟩ := hq
    exact h _ hC
  · obtain ⟨rfl, rfl⟩ := hq
    exact h _ hC
  · obtain ⟨rfl, hq⟩ := hq
    refine hq.mono ?_
    rintro e w' ⟨rfl, hw⟩
    exact h _ hw
  · exact hq.elim

/- An operation that makes or changes memory, or whose value is one of many. -/
def OpS (P : Program) (op : Op) (T : TypeId) (E : Operand → Option Value) (H : Hp) (O : List Res) (R : Value → Hp → List Res → Prop) : Prop :=
  ∀ (a : Act) (w : World) (o : Oper) (next : Act → World → Prop) (Q : Exit → Act → World → Prop), o.op = op → o.type = T → (∀ x u, E x = some u → a.eval x = u) → SH w H O →
    (∀ v w' H' O', H.le H' → R v H' O' → SH w' H' O' → next (a.put o.dst v) w') → o.wp P a w next Q

theorem Seg.op {ops : Array Oper} {rest : List Oper} {d : Tmp} {op : Op} {T : TypeId} {pos : String} {af : Array Edge} {v : Value}
    (h : OpT P op T (ev L) H O v) (hd : Nat.blt d n = true) (k : Seg P ops Q rest n ((d, v) :: L) H O) :
    Seg P ops Q ({ dst := some d, op, type := T, pos, after := af, guard := none } :: rest) n L H O := fun a w hf hs =>
  wpList_plain rfl fun K hK => Oper.wp_of_quietAt (h a w _ rfl rfl (fun _ _ hx => hf.eval hx) hs) hs fun w' hw' => hK _ _ (k _ _ (hf.put hd v) hw')

theorem Seg.op0 {ops : Array Oper} {rest : List Oper} {op : Op} {T : TypeId} {pos : String} {af : Array Edge} {v : Value}
    (h : OpT P op T (ev L) H O v) (k : Seg P ops Q rest n L H O) :
    Seg P ops Q ({ dst := none, op, type := T, pos, after := af, guard := none } :: rest) n L H O := fun a w hf hs =>
  wpList_plain rfl fun K hK => Oper.wp_of_quietAt (h a w _ rfl rfl (fun _ _ hx => hf.eval hx) hs) hs fun w' hw' => hK _ _ (k _ _ hf hw')

theorem Seg.opS {ops : Array Oper} {rest : List Oper} {d : Tmp} {op : Op} {T : TypeId} {pos : String} {af : Array Edge} {R : Value → Hp → List Res → Prop}
    (h : OpS P op T (ev L) H O R) (hd : Nat.blt d n = true) (k : ∀ v H' O', H.le H' → R v H' O' → Seg P ops Q rest n ((d, v) :: L) H' O') :
    Seg P ops Q ({ dst := some d, op, type := T, pos, after := af, guard := none } :: rest) n L H O := fun a w hf hs =>
  wpList_plain rfl fun K hK => h a w _ K Q rfl rfl (fun _ _ hx => hf.eval hx) hs fun v w' H' O' hle hr hw' => hK _ _ (k v H' O' hle hr _ _ (hf.put hd v) hw')

theorem Seg.opS0 {ops : Array Oper} {rest : List Oper} {op : Op} {T : TypeId} {pos : String} {af : Array Edge} {R : Value → Hp → List Res → Prop}
    (h : OpS P op T (ev L) H O R) (k : ∀ v H' O', H.le H' → R v H' O' → Seg P ops Q rest n L H' O') :
    Seg P ops Q ({ dst := none, op, type := T, pos, after := af, guard := none } :: rest) n L H O := fun a w hf hs =>
  wpList_plain rfl fun K hK => h a w _ K Q rfl rfl (fun _ _ hx => hf.eval hx) hs fun v w' H' O' hle hr hw' => hK _ _ (k v H' O' hle hr _ _ hf hw')

/- A guard that has come out: the operation runs, or is passed by. -/
def guardSlot (ops : Array Oper) (j : Nat) : Option Tmp := (ops[j]?).bind (·.dst)

theorem yielded_of {ops : Array Oper} {a : Act} {j : Nat} {t : Tmp} {b : Bool} (hj : guardSlot ops j = some t) (hv : a.tmps.getD t undef = .bool b) : yielded ops a.tmps j = some b := by
  unfold guardSlot at hj
  unfold yielded
  rw [hj]
  have : a.tmps[t]? = some (.bool b) := by
    rw [Array.getD_eq_getD_getElem?] at hv
    cases h : a.tmps[t]? with
    | none => rw [h] at hv; simp [undef] at hv
    | some u => rw [h] at hv; simp at hv; rw [hv]
  simp [this]

theorem Seg.opG {ops : Array Oper} {rest : List Oper} {d t : Tmp} {op : Op} {T : TypeId} {pos : String} {af : Array Edge} {v : Value} {j : Nat} {b : Bool}
    (hj : guardSlot ops j = some t) (hb : lk L t = some (.bool b))
    (h : OpT P op T (ev L) H O v) (hd : Nat.blt d n = true) (k : Seg P ops Q rest n ((d, v) :: L) H O) :
    Seg P ops Q ({ dst := some d, op, type := T, pos, after := af, guard := some (j, b) } :: rest) n L H O := fun a w hf hs =>
  wpList_step fun K hK => by
    rw [if_pos (by simp [Region.wanted, yielded_of hj (hf.get t _ hb)])]
    exact Oper.wp_of_quietAt (h a w _ rfl rfl (fun _ _ hx => hf.eval hx) hs) hs fun w' hw' => hK _ _ (k _ _ (hf.put hd v) hw')

theorem Seg.skipG {ops : Array Oper} {rest : List Oper} {d t : Tmp} {op : Op} {T : TypeId} {pos : String} {af : Array Edge} {j : Nat} {b c : Bool}
    (hj : guardSlot ops j = some t) (hb : lk L t = some (.bool c)) (hne : (c == b) = false) (hd : Nat.blt d n = true) (k : Seg P ops Q rest n ((d, undef) :: L) H O) :
    Seg P ops Q ({ dst := some d, op, type := T, pos, after := af, guard := some (j, b) } :: rest) n L H O := fun a w hf hs =>
  wpList_step fun K hK => by
    rw [if_neg (by simp only [Region.wanted, yielded_of hj (hf.get t _ hb)]; simpa using hne)]
    exact hK _ _ (k _ _ (hf.put hd undef) hs)

theorem Seg.skipG0 {ops : Array Oper} {rest : List Oper} {t : Tmp} {op : Op} {T : TypeId} {pos : String} {af : Array Edge} {j : Nat} {b c : Bool}
    (hj : guardSlot ops j = some t) (hb : lk L t = some (.bool c)) (hne : (c == b) = false) (k : Seg P ops Q rest n L H O) :
    Seg P ops Q ({ dst := none, op, type := T, pos, after := af, guard := some (j, b) } :: rest) n L H O := fun a w hf hs =>
  wpList_step fun K hK => by
    rw [if_neg (by simp only [Region.wanted, yielded_of hj (hf.get t _ hb)]; simpa using hne)]
    exact hK _ _ (k _ _ hf hs)
end

end Go.GK
