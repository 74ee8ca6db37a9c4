/- Part 14 of the texts of this claim: what its theorem leans on. -/
import Derived.Test.YtlijhnfnceidjaaGreatDoorZConflictSizes13
import Derived.KernelRfl
namespace Go.GV
open Go Go.GK Go.Proofs
def isT : List VV → Bool
  | [] => true
  | x :: r => match k2 x with
    | some n => Nat.beq n 22 && isT r
    | none => false
theorem isT_ok : ∀ {r : List VV}, isT r = true → r = List.replicate r.length (d2 22)
  | [], _ => rfl
  | x :: r, h => by
    unfold isT at h
    split at h
    · rename_i n hn
      obtain ⟨h1, h2⟩ := bAnd h
      obtain ⟨_, e⟩ := k2_ok hn
      rw [Nat.eq_of_beq_eq_true h1] at e
      subst e
      exact congrArg (d2 22 :: ·) (isT_ok h2)
    · cases h
def dL (n : Nat) : List VV := bif Nat.beq n 100 then [d2 11, d2 22, d2 33] else lN n
theorem dLn (n : Nat) (h : Nat.beq n 100 = false) : dL n = lN n := by unfold dL; rw [h]; rfl
def kL1 (r : List VV) : Option Nat := bif isT r && Nat.blt r.length 20 then some r.length else match r with
  | [y, z] => match k2 y, k2 z with
    | some a, some b => bif Nat.beq a 22 && Nat.beq b 33 then some 100 else none
    | _, _ => none
  | _ => none
def kL : List VV → Option Nat
  | [] => none
  | x :: r => match k2 x with
    | some a => bif Nat.beq a 11 then kL1 r else none
    | none => none
theorem kL_ok {l : List VV} {n : Nat} (h : kL l = some n) : l = dL n := by
  unfold kL at h
  split at h
  · cases h
  · rename_i x r
    split at h
    · rename_i a ha
      obtain ⟨_, e⟩ := k2_ok ha
      cases h1 : Nat.beq a 11 with
      | false => rw [h1] at h; cases h
      | true =>
        rw [h1, cond_true] at h
        rw [Nat.eq_of_beq_eq_true h1] at e
        subst e
        unfold kL1 at h
        cases h2 : isT r && Nat.blt r.length 20 with
        | true =>
          rw [h2, cond_true] at h
          obtain ⟨h3, h4⟩ := bAnd h2
          have h5 := isT_ok h3
          have h6 := Nat.le_of_ble_eq_true h4
          cases h
          rw [dLn _ (by cases h7 : Nat.beq r.length 100 with
            | false => rfl
            | true => have := Nat.eq_of_beq_eq_true h7; omega)]
          exact congrArg (d2 11 :: ·) h5
        | false =>
          rw [h2, cond_false] at h
          split at h
          · split at h
            · rename_i a b ha hb
              cases h3 : Nat.beq a 22 && Nat.beq b 33 with
              | false => rw [h3] at h; cases h
              | true =>
                rw [h3, cond_true] at h
                obtain ⟨h4, h5⟩ := bAnd h3
                obtain ⟨_, e1⟩ := k2_ok ha
                obtain ⟨_, e2⟩ := k2_ok hb
                rw [Nat.eq_of_beq_eq_true h4] at e1
                rw [Nat.eq_of_beq_eq_true h5] at e2
                cases h
                subst e1; subst e2
                rfl
            · cases h
          · cases h
    · cases h
theorem tb270_0 : (Q270 6000).F (dL 0) = some (show List Int from (ints [])) := (congrArg (Q270 6000).F (dLn 0 rfl)).trans (conf_ok (n := 0) (by decide) ck0 mn0)
theorem tb270_1 : (Q270 6000).F (dL 1) = some (show List Int from (ints [3])) := (congrArg (Q270 6000).F (dLn 1 rfl)).trans (conf_ok (n := 1) (by decide) ck1 mn1)
theorem tb270_2 : (Q270 6000).F (dL 2) = some (show List Int from (ints [3, 5])) := (congrArg (Q270 6000).F (dLn 2 rfl)).trans (conf_ok (n := 2) (by decide) ck2 mn2)
theorem tb270_3 : (Q270 6000).F (dL 3) = some (show List Int from (ints [3, 5, 9])) := (congrArg (Q270 6000).F (dLn 3 rfl)).trans (conf_ok (n := 3) (by decide) ck3 mn3)
theorem tb270_4 : (Q270 6000).F (dL 4) = some (show List Int from (ints [3, 5, 9, 17])) := (congrArg (Q270 6000).F (dLn 4 rfl)).trans (conf_ok (n := 4) (by decide) ck4 mn4)
theorem tb270_5 : (Q270 6000).F (dL 5) = some (show List Int from (ints [3, 5, 9, 17, 33])) := (congrArg (Q270 6000).F (dLn 5 rfl)).trans (conf_ok (n := 5) (by decide) ck5 mn5)
theorem tb270_6 : (Q270 6000).F (dL 6) = some (show List Int from (ints [3, 5, 9, 17, 33, 65])) := (congrArg (Q270 6000).F (dLn 6 rfl)).trans (conf_ok (n := 6) (by decide) ck6 mn6)
theorem tb270_7 : (Q270 6000).F (dL 7) = some (show List Int from (ints [3, 5, 9, 17, 33, 65, 129])) := (congrArg (Q270 6000).F (dLn 7 rfl)).trans (conf_ok (n := 7) (by decide) ck7 mn7)
theorem tb270_8 : (Q270 6000).F (dL 8) = some (show List Int from (ints [3, 5, 9, 17, 33, 65, 129, 257])) := (congrArg (Q270 6000).F (dLn 8 rfl)).trans (conf_ok (n := 8) (by decide) ck8 mn8)
theorem tb270_9 : (Q270 6000).F (dL 9) = some (show List Int from (ints [3, 5, 9, 17, 33, 65, 129, 257, 513])) := (congrArg (Q270 6000).F (dLn 9 rfl)).trans (conf_ok (n := 9) (by decide) ck9 mn9)
theorem tb270_10 : (Q270 6000).F (dL 10) = some (show List Int from (ints [3, 5, 9, 17, 33, 65, 129, 257, 513, 1025])) := (congrArg (Q270 6000).F (dLn 10 rfl)).trans (conf_ok (n := 10) (by decide) ck10 mn10)
theorem tb270_11 : (Q270 6000).F (dL 11) = some (show List Int from (ints [3, 5, 9, 17, 33, 65, 129, 257, 513, 1025, 2049])) := (congrArg (Q270 6000).F (dLn 11 rfl)).trans (conf_ok (n := 11) (by decide) ck11 mn11)
theorem tb270_12 : (Q270 6000).F (dL 100) = some (show List Int from [3]) := by kernel_rfl
theorem ta270 : AllT (β := List Int) (Q270 6000).F dL [(0, (ints [])), (1, (ints [3])), (2, (ints [3, 5])), (3, (ints [3, 5, 9])), (4, (ints [3, 5, 9, 17])), (5, (ints [3, 5, 9, 17, 33])), (6, (ints [3, 5, 9, 17, 33, 65])), (7, (ints [3, 5, 9, 17, 33, 65, 129])), (8, (ints [3, 5, 9, 17, 33, 65, 129, 257])), (9, (ints [3, 5, 9, 17, 33, 65, 129, 257, 513])), (10, (ints [3, 5, 9, 17, 33, 65, 129, 257, 513, 1025])), (11, (ints [3, 5, 9, 17, 33, 65, 129, 257, 513, 1025, 2049])), (100, [3])] := (.cons tb270_0 (.cons tb270_1 (.cons tb270_2 (.cons tb270_3 (.cons tb270_4 (.cons tb270_5 (.cons tb270_6 (.cons tb270_7 (.cons tb270_8 (.cons tb270_9 (.cons tb270_10 (.cons tb270_11 (.cons tb270_12 .nil)))))))))))))
theorem tg270 : ∀ (x : List VV) (y : List Int), tabK kL [(0, (ints [])), (1, (ints [3])), (2, (ints [3, 5])), (3, (ints [3, 5, 9])), (4, (ints [3, 5, 9, 17])), (5, (ints [3, 5, 9, 17, 33])), (6, (ints [3, 5, 9, 17, 33, 65])), (7, (ints [3, 5, 9, 17, 33, 65, 129])), (8, (ints [3, 5, 9, 17, 33, 65, 129, 257])), (9, (ints [3, 5, 9, 17, 33, 65, 129, 257, 513])), (10, (ints [3, 5, 9, 17, 33, 65, 129, 257, 513, 1025])), (11, (ints [3, 5, 9, 17, 33, 65, 129, 257, 513, 1025, 2049])), (100, [3])] x = some y → @Eq (Option (List Int)) ((Q270 6000).F x) (some y) := tabG (fun h => kL_ok h) ta270
noncomputable def T270 (_ : Nat) : FQ (nEs [(80, 0), (81, 0), (88, 1), (89, 1), (110, 2), (111, 2)] [2, 2, 5]) := ⟨(Q270 6000).ps, (Q270 6000).rs, fun x => tabK (α := List VV) (β := List Int) kL [(0, (ints [])), (1, (ints [3])), (2, (ints [3, 5])), (3, (ints [3, 5, 9])), (4, (ints [3, 5, 9, 17])), (5, (ints [3, 5, 9, 17, 33])), (6, (ints [3, 5, 9, 17, 33, 65])), (7, (ints [3, 5, 9, 17, 33, 65, 129])), (8, (ints [3, 5, 9, 17, 33, 65, 129, 257])), (9, (ints [3, 5, 9, 17, 33, 65, 129, 257, 513])), (10, (ints [3, 5, 9, 17, 33, 65, 129, 257, 513, 1025])), (11, (ints [3, 5, 9, 17, 33, 65, 129, 257, 513, 1025, 2049])), (100, [3])] x⟩
theorem zt270 (fu : Nat) : SoundQ Tryz.prog 16 (T270 fu) := tabQ (zs270 6000) _ tg270
theorem tb291_0 : (Q291 6000).F (dL 0) = some (show List Int from (ints [0])) := (congrArg (Q291 6000).F (dLn 0 rfl)).trans (repq_ok (n := 0) (by decide) (conf_ok (by decide) ck0 mn0) (by decide) (by decide) rn0)
theorem tb291_1 : (Q291 6000).F (dL 1) = some (show List Int from (ints [1, 2])) := (congrArg (Q291 6000).F (dLn 1 rfl)).trans (repq_ok (n := 1) (by decide) (conf_ok (by decide) ck1 mn1) (by decide) (by decide) rn1)
theorem tb291_2 : (Q291 6000).F (dL 2) = some (show List Int from (ints [1, 6])) := (congrArg (Q291 6000).F (dLn 2 rfl)).trans (repq_ok (n := 2) (by decide) (conf_ok (by decide) ck2 mn2) (by decide) (by decide) rn2)
theorem tb291_3 : (Q291 6000).F (dL 3) = some (show List Int from (ints [1, 14])) := (congrArg (Q291 6000).F (dLn 3 rfl)).trans (repq_ok (n := 3) (by decide) (conf_ok (by decide) ck3 mn3) (by decide) (by decide) rn3)
theorem tb291_4 : (Q291 6000).F (dL 4) = some (show List Int from (ints [1, 30])) := (congrArg (Q291 6000).F (dLn 4 rfl)).trans (repq_ok (n := 4) (by decide) (conf_ok (by decide) ck4 mn4) (by decide) (by decide) rn4)
theorem tb291_5 : (Q291 6000).F (dL 5) = some (show List Int from (ints [1, 62])) := (congrArg (Q291 6000).F (dLn 5 rfl)).trans (repq_ok (n := 5) (by decide) (conf_ok (by decide) ck5 mn5) (by decide) (by decide) rn5)
theorem tb291_6 : (Q291 6000).F (dL 6) = some (show List Int from (ints [1, 126])) := (congrArg (Q291 6000).F (dLn 6 rfl)).trans (repq_ok (n := 6) (by decide) (conf_ok (by decide) ck6 mn6) (by decide) (by decide) rn6)
theorem tb291_7 : (Q291 6000).F (dL 7) = some (show List Int from (ints [1, 254])) := (congrArg (Q291 6000).F (dLn 7 rfl)).trans (repq_ok (n := 7) (by decide) (conf_ok (by decide) ck7 mn7) (by decide) (by decide) rn7)
theorem tb291_8 : (Q291 6000).F (dL 8) = some (show List Int from (ints [1, 510])) := (congrArg (Q291 6000).F (dLn 8 rfl)).trans (repq_ok (n := 8) (by decide) (conf_ok (by decide) ck8 mn8) (by decide) (by decide) rn8)
theorem tb291_9 : (Q291 6000).F (dL 9) = some (show List Int from (ints [1, 1022])) := (congrArg (Q291 6000).F (dLn 9 rfl)).trans (repq_ok (n := 9) (by decide) (conf_ok (by decide) ck9 mn9) (by decide) (by decide) rn9)
theorem tb291_10 : (Q291 6000).F (dL 10) = some (show List Int from (ints [1, 2046])) := (congrArg (Q291 6000).F (dLn 10 rfl)).trans (repq_ok (n := 10) (by decide) (conf_ok (by decide) ck10 mn10) (by decide) (by decide) rn10)
theorem tb291_11 : (Q291 6000).F (dL 11) = some (show List Int from (ints [1, 4094])) := (congrArg (Q291 6000).F (dLn 11 rfl)).trans (repq_ok (n := 11) (by decide) (conf_ok (by decide) ck11 mn11) (by decide) (by decide) rn11)
theorem tb291_12 : (Q291 6000).F (dL 100) = some (show List Int from [1, 2]) := by kernel_rfl
theorem ta291 : AllT (β := List Int) (Q291 6000).F dL [(0, (ints [0])), (1, (ints [1, 2])), (2, (ints [1, 6])), (3, (ints [1, 14])), (4, (ints [1, 30])), (5, (ints [1, 62])), (6, (ints [1, 126])), (7, (ints [1, 254])), (8, (ints [1, 510])), (9, (ints [1, 1022])), (10, (ints [1, 2046])), (11, (ints [1, 4094])), (100, [1, 2])] := (.cons tb291_0 (.cons tb291_1 (.cons tb291_2 (.cons tb291_3 (.cons tb291_4 (.cons tb291_5 (.cons tb291_6 (.cons tb291_7 (.cons tb291_8 (.cons tb291_9 (.cons tb291_10 (.cons tb291_11 (.cons tb291_12 .nil)))))))))))))
theorem tg291 : ∀ (x : List VV) (y : List Int), tabK kL [(0, (ints [0])), (1, (ints [1, 2])), (2, (ints [1, 6])), (3, (ints [1, 14])), (4, (ints [1, 30])), (5, (ints [1, 62])), (6, (ints [1, 126])), (7, (ints [1, 254])), (8, (ints [1, 510])), (9, (ints [1, 1022])), (10, (ints [1, 2046])), (11, (ints [1, 4094])), (100, [1, 2])] x = some y → @Eq (Option (List Int)) ((Q291 6000).F x) (some y) := tabG (fun h => kL_ok h) ta291
noncomputable def T291 (_ : Nat) : FQ (nEs [(80, 0), (81, 0), (88, 1), (89, 1), (110, 2), (111, 2)] [2, 2, 5]) := ⟨(Q291 6000).ps, (Q291 6000).rs, fun x => tabK (α := List VV) (β := List Int) kL [(0, (ints [0])), (1, (ints [1, 2])), (2, (ints [1, 6])), (3, (ints [1, 14])), (4, (ints [1, 30])), (5, (ints [1, 62])), (6, (ints [1, 126])), (7, (ints [1, 254])), (8, (ints [1, 510])), (9, (ints [1, 1022])), (10, (ints [1, 2046])), (11, (ints [1, 4094])), (100, [1, 2])] x⟩
theorem zt291 (fu : Nat) : SoundQ Tryz.prog 17 (T291 fu) := tabQ (zs291 6000) _ tg291
end Go.GV
