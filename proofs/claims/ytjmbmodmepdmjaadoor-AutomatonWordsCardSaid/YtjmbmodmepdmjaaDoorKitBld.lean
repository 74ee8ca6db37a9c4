/- A builder of a string: the block of its two cells, and the row of its bytes. -/
import Derived.Test.YtjmbmodmepdmjaaDoorKitMap
import Derived.Lib.AppendStr
import Derived.Lib.UnsafeStr
import Derived.Lib.Builder
import Derived.Laws.Externs
import Derived.LaidEqlPtr
namespace Go.GK
def cBy : Cd UInt8 where
  sz := 1
  Lay _ b cs := cs = [.int .u8 (b.toNat : Nat)]
  len h := by subst h; rfl
  mono _ h := h
  one h := by subst h; intro u hu; simp at hu; subst hu; rfl
theorem layBy {H : Hp} : ∀ {l : Str} {xs : List Value}, LayL cBy H l xs ↔ xs = Lib.byteCells l
  | [], xs => Iff.rfl
  | b :: l, xs => by
    constructor
    · rintro ⟨cs, ys, rfl, h1, h2⟩
      rw [show cs = [.int .u8 (b.toNat : Nat)] from h1, layBy.1 h2]; rfl
    · intro h; exact ⟨[.int .u8 (b.toNat : Nat)], Lib.byteCells l, h, rfl, layBy.2 rfl⟩
section
variable {P : Program} {T : TypeId} {E : Operand → Option Value} {H : Hp} {O : List Res}
theorem OpS.appStr {s x : Operand} {t u e : TypeId} {v : Value} {i : Nat} {l str : Str} {xs : List Value} (ht : P.underlying t = some (.slice e)) (hu : P.underlying u = some .string) (hz : TI P e 1 1 (.int .u8 0)) (hs : E s = some v) (hx : E x = some (sv str))
    (hi : O[i]? = some (.row v e 1 l.length xs)) (hL : LayL cBy H l xs) (hv : v = .slice none 0 0 ∨ l ≠ []) (hb : l.length + str.length ≤ capN) :
    OpS P (.call { callee := .builtin .append, args := #[s, x], argTypes := #[t, u] }) T E H O (fun v' H' O' => H' = H ∧ (v' = .slice none 0 0 ∨ l ++ str ≠ []) ∧ LayL cBy H (l ++ str) (xs ++ Lib.byteCells str) ∧ O' = O.set i (.row v' e 1 (l ++ str).length (xs ++ Lib.byteCells str))) := by
  intro a w o next Q ho hT he hw k
  have hown := hw.ok i _ hi
  simp only [Res.ok] at hown
  obtain ⟨ii, hii, g1, g2, g3⟩ := hz.ex
  have hsz : (ByteArray.mk (Array.mk str)).size = str.length := rfl
  have hsc : Lib.strCells (ByteArray.mk (Array.mk str)) = Lib.byteCells str := rfl
  obtain ⟨v', w', hr, k1, k2, k3⟩ := Lib.run_append_own_string (P := P) w 0 t u o.type e ii ht hu hii g3 g1 g2 v l.length xs hown ⟨⟨str⟩⟩ (by rw [hsz]; simp only [maxLen, capN] at *; omega) (by rw [hsz]; simp only [capN] at *; omega) (Nat.zero_le _)
  rw [hsz, hsc] at k1
  rw [hsz] at k3
  have hL' : LayL cBy H (l ++ str) (xs ++ Lib.byteCells str) := hL.app (layBy.2 rfl)
  unfold Oper.wp
  simp only [sv] at hx
  simp [execOp, ho, resolve, invoke, builtin, he s _ hs, he x _ hx, hr, Result.andThen]
  refine k v' w' H _ (Hp.le.refl H) ⟨rfl, ?_, hL', rfl⟩ (hw.set hi k2 (by rw [List.length_append]; exact k1) (fun b hb' => ?_))
  · by_cases h : l ++ str = []
    · left
      simp at h
      obtain ⟨rfl, rfl⟩ := h
      rcases hv with hv | hv
      · exact k3.2 ⟨hv, rfl⟩
      · exact absurd rfl hv
    · exact .inr h
  · rcases hown.2 with ⟨rfl, hl0⟩ | ⟨g, cap, cur, rfl, _, hg, hnc, hcm, hcs, htake⟩
    · right
      have hx0 : xs = [] := List.eq_nil_of_length_eq_zero (by rw [hown.1, hl0, Nat.zero_mul])
      subst hx0
      obtain ⟨v2, w2, hr2, q1, _, _⟩ := Lib.run_append_own_string (P := P) w w.heap.size t u o.type e ii ht hu hii g3 g1 g2 (.slice none 0 0) 0 [] (World.ownsRow_nil w _ e _) ⟨⟨str⟩⟩ (by rw [hsz]; simp only [maxLen, capN] at *; omega) (by rw [hsz]; simp only [capN] at *; omega) (Nat.le_refl _)
      rw [hr] at hr2
      injection hr2 with e1 e2
      subst e1; subst e2
      exact (World.ownsRow.lt q1 b hb').1
    · by_cases hroom : l.length + str.length ≤ cap
      · left
        have hr2 := Lib.run_append_room_string (P := P) w t u o.type e ii ht hu hii g1 g l.length cap cur hg ⟨⟨str⟩⟩ hroom (by rw [hsz]; simp at hcs; omega)
        rw [hr] at hr2
        injection hr2 with e1 e2
        rw [e1] at hb'
        exact hb'
      · right
        have hcc : capN = 1099511627776 := rfl
        have hr2 := Lib.run_append_grow_string (P := P) w t u o.type e ii (.int .u8 0) ht hu hii g3 ⟨g, 0, none⟩ l.length cap xs (by rw [hown.1, g1]) (hown.cells (g := g) rfl) ⟨⟨str⟩⟩ (by rw [hsz]; omega) (by rw [hsz]; simp only [capN] at *; omega) (by rw [g2, hsz]; exact growslice_fits (by simp only [capN] at *; omega) (by simp only [capN] at *; omega))
        rw [hr] at hr2
        injection hr2 with e1 e2
        rw [e1] at hb'
        simp [Res.block, Value.ownBlock] at hb'
        omega
/- pointers -/
theorem OpT.eqNil {x y : Operand} {t Ty : TypeId} {te : TypeId} {j : TypeInfo} (hp : P.underlying t = some (.pointer te)) (hj : P.info? te = some j) (hx : E x = some (.pointer none)) (hy : E y = some (.pointer none)) : OpT P (.binOp .eql t x y Ty) T E H O (.bool true) := .of_run fun a w o ho _ he _ => by
  have h : (binOp .eql t (.pointer none) (.pointer none)).run P w = .ok (.bool true) w := by
    have h : ∀ d : Nat, (Op.equalIn (d + 1) t (.pointer none) (.pointer none)).run P w = .ok true w := fun d => by
      simp [Op.equalIn, sem_under hp, sizeOf, typeInfo, hj, sameAddr]
    simp only [binOp]
    show (do pure (.bool (← Op.equal t _ _)) : Sem Value).run P w = _
    unfold Op.equal Op.maxDepth
    simp [h 9999]
  simp [execOp, ho, he x _ hx, he y _ hy, eqGuard, h]
theorem OpT.eqNilS {x y : Operand} {t Ty : TypeId} {te : TypeId} {j : TypeInfo} {a : Addr} (hp : P.underlying t = some (.pointer te)) (hj : P.info? te = some j) (hx : E x = some (.pointer (some a))) (hy : E y = some (.pointer none)) : OpT P (.binOp .eql t x y Ty) T E H O (.bool false) := .of_run fun ac w o ho _ he _ => by
  have h : (binOp .eql t (.pointer (some a)) (.pointer none)).run P w = .ok (.bool false) w := by
    have h : ∀ d : Nat, (Op.equalIn (d + 1) t (.pointer (some a)) (.pointer none)).run P w = .ok false w := fun d => by
      simp [Op.equalIn, sem_under hp, sizeOf, typeInfo, hj, sameAddr]
    simp only [binOp]
    show (do pure (.bool (← Op.equal t _ _)) : Sem Value).run P w = _
    unfold Op.equal Op.maxDepth
    simp [h 9999]
  simp [execOp, ho, he x _ hx, he y _ hy, eqGuard, h]
theorem OpT.neSame {x y : Operand} {t Ty : TypeId} {te : TypeId} {j : TypeInfo} {b off : Nat} (hp : P.underlying t = some (.pointer te)) (hj : P.info? te = some j) (hx : E x = some (ptr b off)) (hy : E y = some (ptr b off)) : OpT P (.binOp .neq t x y Ty) T E H O (.bool false) := .of_run fun ac w o ho _ he _ => by
  have h := Lib.run_neq_ptr_same (P := P) w (tp := t) ⟨b, off, none⟩ hp hj
  simp only [ptr] at hx hy
  simp [execOp, ho, he x _ hx, he y _ hy, eqGuard, h]
theorem OpT.toUnsafe {x : Operand} {src dst t e : TypeId} {j : TypeInfo} {b i : Nat} {cs : Array Value} (hs : P.underlying src = some (.pointer t)) (hd : P.underlying dst = some .unsafePointer) (ht : P.info? t = some j) (hj : j.size ≠ 0) (hx : E x = some (ptr b 0)) (hi : O[i]? = some (.blk b (.cells cs e (0, 0)))) (h0 : 0 < cs.size) : OpT P (.convert src dst x) T E H O (ptr b 0) := .of_run fun ac w o ho _ he hw => by
  have hg := hw.ok i _ hi
  simp only [Res.ok] at hg
  have h := Lib.run_to_unsafe (P := P) w (src := src) (dst := dst) (cells := cs.size) (e := e) ⟨b, 0, none⟩ hs hd ht hj (by simp [World.shape?, hg]) h0
  simp only [ptr] at hx
  simp [execOp, ho, he x _ hx, h, ptr]
theorem OpT.ofUnsafe {x : Operand} {src dst u e : TypeId} {j : TypeInfo} {b i : Nat} {cs : Array Value} (hs : P.underlying src = some .unsafePointer) (hd : P.underlying dst = some (.pointer u)) (hu : P.info? u = some j) (hx : E x = some (ptr b 0)) (hi : O[i]? = some (.blk b (.cells cs e (0, 0)))) (hl : liesAt P P.depth e (cs.size / P.cellsOf e) 0 u 1 = true) : OpT P (.convert src dst x) T E H O (ptr b 0) := .of_run fun ac w o ho _ he hw => by
  have hg := hw.ok i _ hi
  simp only [Res.ok] at hg
  have h := Lib.run_from_unsafe (P := P) w (src := src) (dst := dst) (cells := cs.size) (e := e) ⟨b, 0, none⟩ hs hd hu (by simp [World.shape?, hg]) hl
  simp only [ptr] at hx
  simp [execOp, ho, he x _ hx, h, ptr]
theorem OpT.noEscape {x : Operand} {f : FuncId} {fn : Func} {v : Value} {tys : Array TypeId} (hf : P.funcs[f]? = some fn) (hname : (fn.name == "runtime.NumGoroutine") = false) (hb : fn.body.isNone = true) (hn : Extern.findNext fn = none) (he' : Extern.find fn = some Extern.AbiNoEscape.same) (hx : E x = some v) :
    OpT P (.call { callee := .value (.func f), args := #[x], argTypes := tys }) T E H O v := .of_run fun ac w o ho _ he hw => by
  have h := run_callFunc_extern hf hname hb hn he' #[v] w
  rw [Lib.run_noEscape] at h
  have hev : ac.eval (.func f) = .func (.func f) #[] #[] := rfl
  simp [execOp, ho, resolve, Deferred.ofValue, hev, invoke, he x _ hx, h]
/- the bytes, read as a string: the row is given up -/
theorem OpT.sliceDataNil {x : Operand} {t : TypeId} (hx : E x = some (.slice none 0 0)) : OpT P (.call { callee := .builtin .unsafeSliceData, args := #[x], argTypes := #[t] }) T E H O (.pointer none) := .of_run fun ac w o ho _ he hw => by
  have h := Lib.run_unsafeSliceData_nil (P := P) w #[t] o.type 0 0
  simp [execOp, ho, resolve, invoke, builtin, he x _ hx, h]
theorem OpT.sliceData {x : Operand} {t e : TypeId} {v : Value} {i n : Nat} {xs : List Value} (hx : E x = some v) (hi : O[i]? = some (.row v e 1 n xs)) (h0 : 0 < n) : OpT P (.call { callee := .builtin .unsafeSliceData, args := #[x], argTypes := #[t] }) T E H O (elemPtr v 0) := .of_run fun ac w o ho _ he hw => by
  have hown := hw.ok i _ hi
  simp only [Res.ok] at hown
  rcases hown.2 with ⟨_, hz⟩ | ⟨g, cap, cur, rfl, _, hg, hnc, hcm, hcs, htake⟩
  · omega
  · have h := Lib.run_unsafeSliceData_row (P := P) w #[t] o.type ⟨g, 0, none⟩ n cap (by omega)
    simp [execOp, ho, resolve, invoke, builtin, he x _ hx, h, elemPtr, Addr.add]
theorem OpT.unsafeStringNil {x y : Operand} {pt it : TypeId} {p : Option Addr} (hx : E x = some (.pointer p)) (hy : E y = some (.int .i64 0)) : OpT P (.call { callee := .builtin .unsafeString, args := #[x, y], argTypes := #[pt, it] }) T E H O (sv []) := .of_run fun ac w o ho _ he hw => by
  have h := Lib.run_unsafeString_none (P := P) w pt it o.type p
  simp [execOp, ho, resolve, invoke, builtin, he x _ hx, he y _ hy, h]
  rfl
theorem OpS.unsafeString {x y : Operand} {pt it e : TypeId} {v : Value} {i : Nat} {l : Str} {xs : List Value} (hp : P.underlying pt = some (.pointer e)) (hc : P.cellsOf e = 1) (hx : E x = some (elemPtr v 0)) (hy : E y = some (.int .i64 (l.length : Nat))) (hi : O[i]? = some (.row v e 1 l.length xs)) (hL : LayL cBy H l xs) (h0 : l ≠ []) :
    OpS P (.call { callee := .builtin .unsafeString, args := #[x, y], argTypes := #[pt, it] }) T E H O (fun u H' O' => H' = H ∧ O' = O.set i .emp ∧ u = sv l) := .of_run fun ac w o ho _ he hw => by
  have hown := hw.ok i _ hi
  simp only [Res.ok] at hown
  rcases hown.2 with ⟨_, hz⟩ | ⟨g, cap, cur, rfl, _, hg, hnc, hcm, hcs, htake⟩
  · exact absurd (List.length_eq_zero_iff.1 hz) h0
  · have hxs := layBy.1 hL
    have h := Lib.run_unsafeString_row (P := P) w pt it o.type e hp hc g cur.size (by simp [World.shape?, hg]) l h0 (by simp at hcs; omega) (by simp only [maxLen] at hcm; omega) (fun j x hj => hown.cells (g := g) rfl j _ (by rw [hxs]; simp [Lib.byteCells, hj]))
    refine ⟨sv l, w.freeze ⟨g, 0, none⟩ l.length, H, O.set i .emp, ?_, Hp.le.refl H, ⟨rfl, rfl, rfl⟩, hw.set hi (r' := .emp) ?_ trivial (fun b hb => by cases hb)⟩
    · simp only [elemPtr, Addr.add] at hx
      simp [execOp, ho, resolve, invoke, builtin, he x _ hx, he y _ hy, h]
      rfl
    · have hn0 : ¬ l.length = 0 := fun h => h0 (List.length_eq_zero_iff.1 h)
      unfold World.freeze
      rw [if_neg hn0]
      refine ⟨rfl, rfl, rfl, by simp, fun k hk hne => ?_⟩
      have : ¬ g = k := fun e => hne (by subst e; rfl)
      simp [Array.getElem?_modify, this]
end
section
variable {P : Program} {Q : Exit → Act → World → Prop} {n : Nat} {L : List (Nat × Value)} {H : Hp} {O : List Res} {ops : Array Oper} {rest : List Oper} {T : TypeId}
theorem Seg.appStr {d : Tmp} {pos : String} {af : Array Edge} {s x : Operand} {t u e : TypeId} {v : Value} {l str : Str} {xs : List Value} (i : Nat) (ht : P.underlying t = some (.slice e)) (hu : P.underlying u = some .string) (hz : TI P e 1 1 (.int .u8 0)) (hs : ev L s = some v) (hx : ev L x = some (sv str))
    (hi : O[i]? = some (.row v e 1 l.length xs)) (hL : LayL cBy H l xs) (hv : v = .slice none 0 0 ∨ l ≠ []) (hb : l.length + str.length ≤ capN) (hd : Nat.blt d n = true)
    (k : ∀ v' xs', (v' = .slice none 0 0 ∨ l ++ str ≠ []) → LayL cBy H (l ++ str) xs' → Seg P ops Q rest n ((d, v') :: L) H (O.set i (.row v' e 1 (l ++ str).length xs'))) :
    Seg P ops Q ({ dst := some d, op := .call { callee := .builtin .append, args := #[s, x], argTypes := #[t, u] }, type := T, pos, after := af, guard := none } :: rest) n L H O :=
  Seg.opS (OpS.appStr ht hu hz hs hx hi hL hv hb) hd (by rintro v' H' O' _ ⟨rfl, h1, h2, rfl⟩; exact k v' _ h1 h2)
end
end Go.GK
