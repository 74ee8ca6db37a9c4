/- The net, whose rows of rows are all owned. -/
import Derived.Test.YtjmbmodmepdmjaaDoorX1
import Derived.Test.YtjmbmodmepdmjaaDoorKitNet
namespace Go.Proofs.YtjmbmodmepdmjaaDoor
open Go.GK
variable {H : Hp} {O : List Res}

abbrev cAr : Cd (BSet × Int × Int) := cP cBs (cP cI64 cI64)
abbrev netB (B : Nat) (v1 v2 : Value) (m : Int) : Res := .blk B (.cells #[v1, v2, .int .i64 m] 62 (0, 0))
abbrev netA (v1 : Value) (F : Fam Int) : Res := .row v1 67 1 (famV F).length (famV F)
abbrev netC (v2 : Value) (G : Fam (BSet × Int × Int)) : Res := .row v2 79 1 (famV G).length (famV G)
abbrev netF (F : Fam Int) (G : Fam (BSet × Int × Int)) (O : List Res) : List Res := famR 3 1 F ++ (famR 81 6 G ++ O)
abbrev net (B : Nat) (v1 v2 : Value) (m : Int) (F : Fam Int) (G : Fam (BSet × Int × Int)) (O : List Res) : List Res := netB B v1 v2 m :: netA v1 F :: netC v2 G :: netF F G O
section
variable {P : Program} {Q : Exit → Act → World → Prop} {n : Nat} {L : List (Nat × Value)} {ops : Array Oper} {rest : List Oper} {B : Nat} {v1 v2 : Value} {m : Int} {F : Fam Int} {G : Fam (BSet × Int × Int)}
theorem SH.netOut {w : World} {A : List Res} (h : SH w H (A ++ net B v1 v2 m F G O)) : SH w H (net B v1 v2 m F G (A ++ O)) := by
  have h' : SH w H (A ++ (([netB B v1 v2 m, netA v1 F, netC v2 G] ++ (famR 3 1 F ++ famR 81 6 G)) ++ O)) := by simpa [net, netF] using h
  simpa [net, netF] using h'.rot
theorem SH.netIn {w : World} {A : List Res} (h : SH w H (net B v1 v2 m F G (A ++ O))) : SH w H (A ++ net B v1 v2 m F G O) := by
  have h' : SH w H (([netB B v1 v2 m, netA v1 F, netC v2 G] ++ (famR 3 1 F ++ famR 81 6 G)) ++ (A ++ O)) := by simpa [net, netF] using h
  simpa [net, netF] using h'.rot
theorem Seg.netOut (A : List Res) (k : Seg P ops Q rest n L H (net B v1 v2 m F G (A ++ O))) : Seg P ops Q rest n L H (A ++ net B v1 v2 m F G O) := fun a w hf hs => k a w hf (SH.netOut hs)
theorem Seg.netIn (A : List Res) (k : Seg P ops Q rest n L H (A ++ net B v1 v2 m F G O)) : Seg P ops Q rest n L H (net B v1 v2 m F G (A ++ O)) := fun a w hf hs => k a w hf (SH.netIn hs)
end
abbrev nilF {α : Type} : Value × List α × List Value := (.slice none 0 0, [], [])
set_option maxRecDepth 100000 in
theorem state_w {B : Nat} {v1 v2 : Value} {m : Int} {F : Fam Int} {G : Fam (BSet × Int × Int)} {D : List (List Int)} {E : List (List (BSet × Int × Int))} (hF : FamOk cI64 H D F) (hG : FamOk cAr H E G) (h1 : D.length + 1 ≤ capN) (h2 : E.length + 1 ≤ capN) :
    Tri Tryd.prog 29 [ptr B 0] H (net B v1 v2 m F G O) (fun r H' O' => ∃ v1' v2', .int .i64 ((E.length : Nat) : Int) = r ∧ net B v1' v2' m (F ++ [nilF]) (G ++ [nilF]) O = O') := by
 have l1 := famV_len hF
 have l2 := famV_len hG
 intro w hs
 refine wp_of Tryd.func29 rfl rfl rfl ?_ hs
 clear hs w
 refine Wp.seq ?_
 refine Wp.region ?_
 refine Seg.op (OpT.assign rfl) rfl ?_
 refine Seg.nil ?_
 refine At.then_n ?_
 refine Wp.seq ?_
 refine Wp.region ?_
 refine Seg.op (OpT.move rfl) rfl ?_
 refine Seg.op (OpT.move rfl) rfl ?_
 refine Seg.op (OpT.nilCheck rfl) rfl ?_
 refine Seg.op (OpT.fld (o' := 0) fl62_0 rfl rfl) rfl ?_
 refine Seg.op (OpT.ldBlk (i := 0) (v := v1) Tryd.underlying59 rfl rfl rfl rfl) rfl ?_
 refine Seg.buildD1 (c := cV) (y := .slice none 0 0) (cs := [.slice none 0 0]) Tryd.underlying59 ti67 rfl rfl rfl rfl ⟨rfl, rfl⟩ rfl fun v8 xs8 hq8 => ?_
 refine Seg.appD (c := cV) (i := 2) (j := 0) hF.row hq8 Tryd.underlying59 ti67 rfl (by decide) rfl rfl rfl rfl (by decide) (by rw [l1]; exact h1) rfl fun v9 xs9 hq9 => ?_
 refine Seg.op (OpT.nilCheck rfl) rfl ?_
 refine Seg.op (OpT.fld (o' := 0) fl62_0 rfl rfl) rfl ?_
 refine Seg.rowOne (i := 2) rfl fun h3 => ?_
 refine Seg.stBlk1 (i := 1) rfl rfl h3 ti59 rfl (Nat.le_of_ble_eq_true rfl) ?_
 refine Seg.nil ?_
 refine At.then_n ?_
 refine Wp.seq ?_
 refine Wp.region ?_
 refine Seg.op (OpT.move rfl) rfl ?_
 refine Seg.op (OpT.move rfl) rfl ?_
 refine Seg.op (OpT.nilCheck rfl) rfl ?_
 refine Seg.op (OpT.fld (o' := 1) fl62_1 rfl rfl) rfl ?_
 refine Seg.op (OpT.ldBlk (i := 1) (v := v2) Tryd.underlying60 rfl rfl rfl rfl) rfl ?_
 refine Seg.buildD1 (c := cV) (y := .slice none 0 0) (cs := [.slice none 0 0]) Tryd.underlying60 ti79 rfl rfl rfl rfl ⟨rfl, rfl⟩ rfl fun v17 xs17 hq17 => ?_
 refine Seg.appD (c := cV) (i := 4) (j := 0) hG.row hq17 Tryd.underlying60 ti79 rfl (by decide) rfl rfl rfl rfl (by decide) (by rw [l2]; exact h2) rfl fun v18 xs18 hq18 => ?_
 refine Seg.op (OpT.nilCheck rfl) rfl ?_
 refine Seg.op (OpT.fld (o' := 1) fl62_1 rfl rfl) rfl ?_
 refine Seg.rowOne (i := 4) rfl fun h4 => ?_
 refine Seg.stBlk1 (i := 2) rfl rfl h4 ti60 rfl (Nat.le_of_ble_eq_true rfl) ?_
 refine Seg.nil ?_
 refine At.then_n ?_
 refine Wp.seq ?_
 refine Wp.region ?_
 refine Seg.op (OpT.move rfl) rfl ?_
 refine Seg.op (OpT.nilCheck rfl) rfl ?_
 refine Seg.op (OpT.fld (o' := 1) fl62_1 rfl rfl) rfl ?_
 refine Seg.op (OpT.ldBlk (i := 2) (v := v18) Tryd.underlying60 rfl rfl rfl rfl) rfl ?_
 refine Seg.op (OpT.lenRow (i := 4) Tryd.underlying60 rfl rfl) rfl ?_
 refine Seg.op (OpT.sub rfl rfl (fits64 (by simp only [List.length_append, List.length_cons, List.length_nil, l2, capN] at *; omega))) rfl ?_
 refine Seg.op (OpT.assign rfl) rfl ?_
 refine Seg.nil ?_
 refine At.then_n ?_
 refine Wp.ret ?_
 obtain rfl := layV hq9
 obtain rfl := layV hq18
 refine At.res1 rfl (RV.tmp rfl) (fun w hs => ⟨_, _, _, rfl, Hp.le.refl _, ?_, v9, v18, ?_, rfl⟩)
 · have e1 : famV (F ++ [nilF]) = famV F ++ [Value.slice none 0 0] := by simp [famV]
   have e2 : famV (G ++ [nilF]) = famV G ++ [Value.slice none 0 0] := by simp [famV]
   have hs' := hs.permK [2, 3, 4] 5 rfl rfl rfl
   have k1 := SH.grow (A := [netB B v9 v18 m, .row v9 67 1 (famV F ++ [Value.slice none 0 0]).length (famV F ++ [Value.slice none 0 0]), .row v18 79 1 (famV G ++ [Value.slice none 0 0]).length (famV G ++ [Value.slice none 0 0])]) (F := F) (e := 3) (sz := 1) (R := famR 81 6 G ++ O) hs'
   have k2 := SH.grow2 k1
   show SH w H _
   simp only [net, netA, netC, netF, e1, e2]
   exact k2
 · rw [List.length_append, l2]; simp
end Go.Proofs.YtjmbmodmepdmjaaDoor
