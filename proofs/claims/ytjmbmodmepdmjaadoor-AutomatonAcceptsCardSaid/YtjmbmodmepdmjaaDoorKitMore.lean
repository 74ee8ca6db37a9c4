/- More operations: fields, scopes, bytes of strings, equality of structs. -/
import Derived.Test.YtjmbmodmepdmjaaDoorKitMem
import Derived.Scope
import Derived.Laws.StructEq
namespace Go.GK
section
variable {P : Program} {Q : Exit → Act → World → Prop} {n : Nat} {L : List (Nat × Value)} {H : Hp} {O : List Res}
theorem Seg.nilT {ops : Array Oper} {y : Code} {Q2 : Exit → Act → World → Prop} (h : Wp P y Q n L H O) : Seg P ops (Exit.then (y.wp P Q) Q2) [] n L H O := h
theorem Wp.sr {y : Code} {id : Nat} {l : List Oper} (h : Seg P l.toArray (Exit.then (y.wp P Q) Q) l n L H O) : Wp P (.seq (.region id l.toArray false) y) Q n L H O := Wp.seq (Wp.region h)
theorem At.ng_n (h : At Q .normal n L H O) : At (Exit.noGoto Q) .normal n L H O := h
theorem At.ng_x {id : Nat} (h : At Q (.exit id) n L H O) : At (Exit.noGoto Q) (.exit id) n L H O := h
theorem At.ng_r (h : At Q .ret n L H O) : At (Exit.noGoto Q) .ret n L H O := h
theorem Wp.scope {c : Code} (h : Wp P c (Exit.noGoto Q) n L H O) : Wp P (.scope c) Q n L H O := fun a w hf hs => wp_scope_straight (h a w hf hs)
end
/- a field of a struct: where it lies -/
structure Fld (P : Program) (s i off ft : Nat) : Prop where
  ex : ∃ fs f, P.underlying s = some (.struct fs) ∧ fs[i]? = some f ∧ f.offset = off ∧ f.type = ft ∧ ∃ inf, P.info? ft = some inf ∧ inf.size ≠ 0
def fldB (P : Program) (s i : Nat) : Option (Nat × Nat × Nat) :=
  match P.underlying s with
  | some (.struct fs) => match fs[i]? with
    | some f => match P.info? f.type with
      | some inf => some (f.offset, f.type, inf.size)
      | none => none
    | none => none
  | _ => none
theorem Fld.of {P : Program} {s i off ft k : Nat} (h : fldB P s i = some (off, ft, k + 1)) : Fld P s i off ft := by
  unfold fldB at h
  split at h
  · rename_i fs hs
    split at h
    · rename_i f hf
      split at h
      · rename_i inf hi
        simp only [Option.some.injEq, Prod.mk.injEq] at h
        obtain ⟨h1, h2, h3⟩ := h
        exact ⟨fs, f, hs, hf, h1, h2, inf, by rw [← h2]; exact hi, by omega⟩
      · cases h
    · cases h
  · cases h
section
variable {P : Program} {T : TypeId} {E : Operand → Option Value} {H : Hp} {O : List Res} {x y : Operand}
theorem run_fieldAt {w : World} {s i off ft : Nat} {a : Addr} (hf : Fld P s i off ft) : (Instr.fieldAt s (.pointer (some a)) i).run P w = .ok (.pointer (some (a.add off))) w := by
  obtain ⟨fs, f, hs, hfi, ho, ht, inf, hi, h0⟩ := hf.ex
  subst ho ht
  have hsz : (Go.sizeOf f.type).run P w = .ok inf.size w := by simp [Go.sizeOf, typeInfo, hi]
  simp [Instr.fieldAt, sem_under hs, hfi, Instr.sureAddr, fieldPlace, hsz, h0]
theorem OpT.fld {s i off ft B o o' : Nat} (hf : Fld P s i off ft) (hx : E x = some (ptr B o)) (ho' : o + off = o') : OpT P (.fieldAddr s x i) T E H O (ptr B o') := .of_run fun ac w oo ho _ he _ => by
  subst ho'
  simp only [ptr] at *
  have := run_fieldAt (w := w) (a := ⟨B, o, none⟩) hf
  simp [execOp, ho, he x _ hx, this, Addr.add]
theorem OpT.fldE {s i off ft n k : Nat} {v : Value} (hf : Fld P s i off ft) (hx : E x = some (elemPtr v k)) (hl : SlLen v n) (h0 : 0 < n) : OpT P (.fieldAddr s x i) T E H O (elemPtr v (k + off)) := .of_run fun ac w oo ho _ he _ => by
  obtain ⟨a, cap, rfl⟩ := hl.some h0
  simp only [elemPtr] at *
  have := run_fieldAt (w := w) (a := a.add k) hf
  simp [execOp, ho, he x _ hx, this, addr_add_add]
theorem OpT.fldImm {s i off ft n k size : Nat} {v : Value} {xs : List Value} (hf : Fld P s i off ft) (hx : E x = some (elemPtr v k)) (hl : Sl H v size n xs) (h0 : 0 < n) : OpT P (.fieldAddr s x i) T E H O (elemPtr v (k + off)) := OpT.fldE hf hx hl.sl h0
theorem OpT.fldRow {s i off ft n k size e q : Nat} {v : Value} {xs : List Value} (hf : Fld P s i off ft) (hx : E x = some (elemPtr v k)) (hq : O[q]? = some (.row v e size n xs)) (h0 : 0 < n) : OpT P (.fieldAddr s x i) T E H O (elemPtr v (k + off)) :=
  fun a w o ho hT he hs => OpT.fldE (H := H) (O := O) hf hx (hs.rowLen hq).1 h0 a w o ho hT he hs
/- a byte of a string -/
theorem OpT.byteOf {t : TypeId} {s : ByteArray} {k : IntKind} {i : Int} {b : UInt8} (ht : P.underlying t = some .string) (hx : E x = some (.string s)) (hy : E y = some (.int k i)) (h0 : 0 ≤ i) (hb : s[i.toNat]? = some b) : OpT P (.index t x y) T E H O (.int .u8 (b.toNat : Nat)) := .of_run fun ac w oo ho _ he _ => by
  simp [execOp, ho, he x _ hx, he y _ hy, Instr.index, asIntOf, sem_under ht, h0, hb]
end
/- '==' on structs of whole numbers -/
def fldsB (P : Program) : List Field → List IntKind → Nat → Bool
  | f :: fs, k :: ks, j => f.name != "_" && f.offset == j && (match P.underlying f.type with | some (.int k') => k' == k | _ => false) && fldsB P fs ks (j + 1)
  | [], [], _ => true
  | _, _, _ => false
def intsB (P : Program) (t : TypeId) (ks : List IntKind) : Bool :=
  match P.underlying t with
  | some (.struct fs) => fldsB P fs.toList ks 0 && !P.stoodInHeld t && !P.eqGuardType P.depth t
  | _ => false
def zipI (ks : List IntKind) (as : List Int) : List Value := List.zipWith Value.int ks as
theorem run_eqFields_ints {P : Program} {d : Nat} (w : World) : ∀ (fs : List Field) (ks : List IntKind) (as bs : List Int) (px py : List Value), fldsB P fs ks px.length = true → as.length = ks.length → bs.length = ks.length → px.length = py.length →
    (Op.eqFields (d + 1) (px ++ zipI ks as).toArray (py ++ zipI ks bs).toArray fs).run P w = .ok (decide (as = bs)) w
  | [], ks, as, bs, px, py, hf, h1, h2, hp => by
    cases ks with
    | nil => simp at h1 h2; subst h1 h2; simp [Op.eqFields]
    | cons => simp [fldsB] at hf
  | f :: fs, ks, as, bs, px, py, hf, h1, h2, hp => by
    cases ks with
    | nil => simp [fldsB] at hf
    | cons k ks =>
      cases as with
      | nil => simp at h1
      | cons a as =>
        cases bs with
        | nil => simp at h2
        | cons b bs =>
          simp only [fldsB, Bool.and_eq_true, bne_iff_ne, ne_eq, beq_iff_eq] at hf
          obtain ⟨⟨⟨hn, ho⟩, hk⟩, hr⟩ := hf
          have hu : P.underlying f.type = some (.int k) := by
            split at hk
            · rename_i k' hu; rw [hu]; simp at hk; rw [hk]
            · cases hk
          have ih := run_eqFields_ints (P := P) (d := d) w fs ks as bs (px ++ [.int k a]) (py ++ [.int k b]) (by simpa using hr) (by simpa using h1) (by simpa using h2) (by simp [hp])
          have e1 : px ++ zipI (k :: ks) (a :: as) = (px ++ [.int k a]) ++ zipI ks as := by simp [zipI]
          have e2 : py ++ zipI (k :: ks) (b :: bs) = (py ++ [.int k b]) ++ zipI ks bs := by simp [zipI]
          rw [← e1, ← e2] at ih
          have p1 : (part f.type (px ++ zipI (k :: ks) (a :: as)).toArray f.offset).run P w = .ok (.int k a) w := by
            simp [part, run_isAgg hu, aggB, ho, e1]
          have p2 : (part f.type (py ++ zipI (k :: ks) (b :: bs)).toArray f.offset).run P w = .ok (.int k b) w := by
            simp [part, run_isAgg hu, aggB, ho, e2, hp]
          have p3 : (Op.equalIn (d + 1) f.type (.int k a) (.int k b)).run P w = .ok (a == b) w := by simp [Op.equalIn, sem_under hu]
          simp only [Op.eqFields, hn, not_false_eq_true, ne_eq, if_true, Sem.run_bind, p1, p2, p3, Result.andThen_ok]
          by_cases e : a = b
          · subst e
            simp only [beq_self_eq_true, Bool.not_true, Bool.false_eq_true, if_false, ih, List.cons.injEq, true_and]
          · simp [e]
section
variable {P : Program} {T : TypeId} {E : Operand → Option Value} {H : Hp} {O : List Res} {x y : Operand} {Tx Ty : TypeId} {ks : List IntKind} {xs ys : List Int}
theorem run_eqInts {d : Nat} (hs : intsB P Tx ks = true) (w : World) (h1 : xs.length = ks.length) (h2 : ys.length = ks.length) : (Op.equalIn (d + 1 + 1) Tx (.agg (zipI ks xs).toArray) (.agg (zipI ks ys).toArray)).run P w = .ok (decide (xs = ys)) w ∧ P.eqGuardType P.depth Tx = false := by
  unfold intsB at hs
  split at hs
  · rename_i fs hu
    simp only [Bool.and_eq_true, Bool.not_eq_true'] at hs
    have hfs : P.fieldsOf Tx = fs := by simp [Program.fieldsOf, hu]
    refine ⟨?_, hs.2⟩
    rw [run_equalIn_agg w (d + 1) Tx _ _ (by rw [hfs, hu]) hs.1.2, hfs]
    have := run_eqFields_ints (P := P) (d := d) w fs.toList ks xs ys [] [] hs.1.1 h1 h2 rfl
    simpa using this
  · cases hs
theorem OpT.eqInts (hs : intsB P Tx ks = true) (hx : E x = some (.agg (zipI ks xs).toArray)) (hy : E y = some (.agg (zipI ks ys).toArray)) (h1 : xs.length = ks.length) (h2 : ys.length = ks.length) : OpT P (.binOp .eql Tx x y Ty) T E H O (.bool (decide (xs = ys))) := .of_run fun a w o ho _ he _ => by
  have h := run_eqInts (d := 9998) hs w h1 h2
  have h4 := run_eqGuard_agg w .eql Tx x y (zipI ks xs).toArray (zipI ks ys).toArray h.2
  have h5 := run_eql_struct (P := P) w Tx (zipI ks xs).toArray (zipI ks ys).toArray
  rw [h.1] at h5
  simp only [execOp, ho, Sem.run_bind, he x _ hx, he y _ hy, h4, Result.andThen_ok, h5, Sem.run_pure]
theorem OpT.neInts (hs : intsB P Tx ks = true) (hx : E x = some (.agg (zipI ks xs).toArray)) (hy : E y = some (.agg (zipI ks ys).toArray)) (h1 : xs.length = ks.length) (h2 : ys.length = ks.length) : OpT P (.binOp .neq Tx x y Ty) T E H O (.bool (!decide (xs = ys))) := .of_run fun a w o ho _ he _ => by
  have h := run_eqInts (d := 9998) hs w h1 h2
  have h4 := run_eqGuard_agg w .neq Tx x y (zipI ks xs).toArray (zipI ks ys).toArray h.2
  have h5 := run_neq_struct (P := P) w Tx (zipI ks xs).toArray (zipI ks ys).toArray
  rw [h.1] at h5
  simp only [execOp, ho, Sem.run_bind, he x _ hx, he y _ hy, h4, Result.andThen_ok, h5, Sem.run_pure]
end
/- a call of a function value -/
section
variable {P : Program} {T : TypeId} {E : Operand → Option Value} {H : Hp} {O : List Res}
theorem OpT.callF {x : Operand} {f : FuncId} {args : List Operand} {vs : List Value} {tys : Array TypeId} {v : Value} (hent : Ent P f) (hx : E x = some (.func (.func f) #[] #[])) (ha : evlE E args = some vs) (ht : TriV P f vs H O v) : OpT P (.call { callee := .value x, args := args.toArray, argTypes := tys }) T E H O v := fun a w o ho _ he hs => by
  have hr : (execOp a.eval o).run P w = .ok (.enter f vs.toArray) w := by
    simp [execOp, ho, resolve, Deferred.ofValue, he x _ hx, invoke, evlE_spec he ha, hent.run]
  simp only [Oper.quietAt, hr, Oper.quietUpon, true_and]
  exact ht w hs
theorem OpS.callF {x : Operand} {f : FuncId} {args : List Operand} {vs : List Value} {tys : Array TypeId} {R : Value → Hp → List Res → Prop} (hent : Ent P f) (hx : E x = some (.func (.func f) #[] #[])) (ha : evlE E args = some vs) (ht : Tri P f vs H O R) : OpS P (.call { callee := .value x, args := args.toArray, argTypes := tys }) T E H O R := fun a w o next Q ho _ he hs k => by
  have hr : (execOp a.eval o).run P w = .ok (.enter f vs.toArray) w := by
    simp [execOp, ho, resolve, Deferred.ofValue, he x _ hx, invoke, evlE_spec he ha, hent.run]
  unfold Oper.wp
  rw [hr]
  refine (ht w hs).mono ?_
  rintro e w' ⟨v, H', O', rfl, h2, h3, h4⟩
  exact k v w' H' O' h2 h4 h3
/- a byte of a string, by its place -/
def sb (s : ByteArray) (i : Nat) : Nat := (s.data.getD i 0).toNat
theorem sb_lt (s : ByteArray) (i : Nat) : sb s i < 256 := (s.data.getD i 0).toNat_lt
theorem OpT.byteAt {x y : Operand} {t : TypeId} {s : ByteArray} {k : IntKind} {i : Nat} (ht : P.underlying t = some .string) (hx : E x = some (.string s)) (hy : E y = some (.int k (i : Int))) (h : i < s.size) : OpT P (.index t x y) T E H O (.int .u8 ((sb s i : Nat) : Int)) := by
  have hb : s[i]? = some s[i] := getElem?_pos s i h
  have e : sb s i = (s[i]).toNat := by
    have h' : i < s.data.size := h
    unfold sb
    rw [Array.getD_eq_getD_getElem?, Array.getElem?_eq_getElem h']
    rfl
  rw [e]
  exact OpT.byteOf ht hx hy (by omega) (by simp [hb])
end
/- an operation that waits for one that was passed by: it is passed by too -/
theorem yielded_undef {ops : Array Oper} {a : Act} {j : Nat} {t : Tmp} (hj : guardSlot ops j = some t) (hv : a.tmps.getD t undef = undef) : yielded ops a.tmps j = none := by
  unfold guardSlot at hj
  unfold yielded
  rw [hj]
  rw [Array.getD_eq_getD_getElem?] at hv
  cases h : a.tmps[t]? with
  | none => simp [h]
  | some u => rw [h] at hv; simp at hv; subst hv; simp [h, undef]
section
variable {P : Program} {Q : Exit → Act → World → Prop} {n : Nat} {L : List (Nat × Value)} {H : Hp} {O : List Res}
theorem Seg.skipU {ops : Array Oper} {rest : List Oper} {d t : Tmp} {op : Op} {T : TypeId} {pos : String} {af : Array Edge} {j : Nat} {b : Bool}
    (hj : guardSlot ops j = some t) (hb : lk L t = some undef) (hd : Nat.blt d n = true) (k : Seg P ops Q rest n ((d, undef) :: L) H O) :
    Seg P ops Q ({ dst := some d, op, type := T, pos, after := af, guard := some (j, b) } :: rest) n L H O := fun a w hf hs =>
  wpList_step fun K hK => by
    rw [if_neg (by simp [Region.wanted, yielded_undef hj (hf.get t _ hb)])]
    exact hK _ _ (k _ _ (hf.put hd undef) hs)
theorem SegL.skipU {G : Hp → Hp → Prop} {ops : Array Oper} {Z : Act → World → Prop} {rest : List Oper} {LL : List (Nat × SV)} {d t : Tmp} {op : Op} {T : TypeId} {pos : String} {af : Array Edge} {j : Nat} {b : Bool} (hrefl : ∀ H, G H H)
    (hj : guardSlot ops j = some t) (hb : lks LL t = some (.is undef)) (hd : Nat.blt d n = true) (k : SegL P G ops Z rest n ((d, .is undef) :: LL) H O) :
    SegL P G ops Z ({ dst := some d, op, type := T, pos, after := af, guard := some (j, b) } :: rest) n LL H O := by
  refine SegL.of_loc (s := .is undef) rfl ⟨fun _ _ _ _ h => h, fun d' hd' => ?_, fun H' a w g1 g2 g3 g4 g5 K Q hK => ?_⟩ k
  · simp at hd'; subst hd'; simpa using hd
  · have hjt := hj
    unfold guardSlot at hjt
    have ht : a.tmps.getD t undef = undef := by
      have := g5 t (by simp [Oper.looksAt, hjt])
      simp only [phi, hb, SV.sp] at this
      exact this
    rw [if_neg (by simp [Region.wanted, yielded_undef hj ht])]
    exact hK _ _ H' (hrefl H') g2 (fun _ => rfl)
theorem SegL.skipUE {ops : Array Oper} {Z : Act → World → Prop} {rest : List Oper} {LL : List (Nat × SV)} {d t : Tmp} {op : Op} {T : TypeId} {pos : String} {af : Array Edge} {j : Nat} {b : Bool}
    (hj : guardSlot ops j = some t) (hb : lks LL t = some (.is undef)) (hd : Nat.blt d n = true) (k : SegL P Eq ops Z rest n ((d, .is undef) :: LL) H O) :
    SegL P Eq ops Z ({ dst := some d, op, type := T, pos, after := af, guard := some (j, b) } :: rest) n LL H O := SegL.skipU (fun _ => rfl) hj hb hd k
end
end Go.GK
