/- Part 22 of the texts of this claim: what its theorem leans on. -/
import Derived.Test.YtlijhnfnceidjaaGreatDoorZConflictSizes16
import Derived.Test.YtlijhnfnceidjaaGreatDoorZConflictSizes17
import Derived.Test.YtlijhnfnceidjaaGreatDoorZConflictSizes18
import Derived.Test.YtlijhnfnceidjaaGreatDoorZConflictSizes19
import Derived.Test.YtlijhnfnceidjaaGreatDoorZConflictSizes20
import Derived.Test.YtlijhnfnceidjaaGreatDoorZConflictSizes21
import Derived.KernelRfl
import Derived.Test.YtlijhnfnceidjaaGreatDoorRows
import GoSem.ClaimGoes
namespace Go.GV
open Go Go.GK Go.Proofs
noncomputable def LW : FQ (nEs [(80, 0), (81, 0), (88, 1), (89, 1), (110, 2), (111, 2)] [2, 2, 5]) := ⟨(Q299 100).ps, (Q299 100).rs, fun _ => some (show Bool from true)⟩
theorem law_all : SoundQ Tryz.prog 3 LW := by
  refine ⟨(zs299 100).ent, fun x y h => ?_⟩
  cases h
  obtain ⟨n, b⟩ := (show Int × Bool from x)
  by_cases h1 : n < 0
  · refine (zs300 0).ok (n, b) _ ?_
    rw [law_far, decide_eq_true h1]
    rfl
  · by_cases h2 : 14 < n
    · refine (zs300 0).ok (n, b) _ ?_
      rw [law_far, decide_eq_true h2, decide_eq_false h1]
      rfl
    · obtain ⟨m, rfl⟩ : ∃ m : Nat, n = (m : Int) := ⟨n.toNat, by omega⟩
      refine (zs299 100).ok ((m : Int), b) _ ?_
      have hm : m < 15 := by omega
      clear h1 h2
      rcases Nat.lt_or_ge m 1 with h | h
      · obtain rfl : m = 0 := by omega
        cases b with
        | false => exact lw0_0
        | true => exact lw0_1
      rcases Nat.lt_or_ge m 2 with h | h
      · obtain rfl : m = 1 := by omega
        cases b with
        | false => exact lw1_0
        | true => exact lw1_1
      rcases Nat.lt_or_ge m 3 with h | h
      · obtain rfl : m = 2 := by omega
        cases b with
        | false => exact lw2_0
        | true => exact lw2_1
      rcases Nat.lt_or_ge m 4 with h | h
      · obtain rfl : m = 3 := by omega
        cases b with
        | false => exact lw3_0
        | true => exact lw3_1
      rcases Nat.lt_or_ge m 5 with h | h
      · obtain rfl : m = 4 := by omega
        cases b with
        | false => exact lw4_0
        | true => exact lw4_1
      rcases Nat.lt_or_ge m 6 with h | h
      · obtain rfl : m = 5 := by omega
        cases b with
        | false => exact lw5_0
        | true => exact lw5_1
      rcases Nat.lt_or_ge m 7 with h | h
      · obtain rfl : m = 6 := by omega
        cases b with
        | false => exact lw6_0
        | true => exact lw6_1
      rcases Nat.lt_or_ge m 8 with h | h
      · obtain rfl : m = 7 := by omega
        cases b with
        | false => exact lw7_0
        | true => exact lw7_1
      rcases Nat.lt_or_ge m 9 with h | h
      · obtain rfl : m = 8 := by omega
        cases b with
        | false => exact lw8_0
        | true => exact lw8_1
      rcases Nat.lt_or_ge m 10 with h | h
      · obtain rfl : m = 9 := by omega
        cases b with
        | false => exact lw9_0
        | true => exact lw9_1
      rcases Nat.lt_or_ge m 11 with h | h
      · obtain rfl : m = 10 := by omega
        cases b with
        | false => exact lw10_0
        | true => exact lw10_1
      rcases Nat.lt_or_ge m 12 with h | h
      · obtain rfl : m = 11 := by omega
        cases b with
        | false => exact lw11_0
        | true => exact lw11_1
      rcases Nat.lt_or_ge m 13 with h | h
      · obtain rfl : m = 12 := by omega
        cases b with
        | false => exact lw12_0
        | true => exact lw12_1
      rcases Nat.lt_or_ge m 14 with h | h
      · obtain rfl : m = 13 := by omega
        cases b with
        | false => exact lw13_0
        | true => exact lw13_1
      rcases Nat.lt_or_ge m 15 with h | h
      · obtain rfl : m = 14 := by omega
        cases b with
        | false => exact lw14_0
        | true => exact lw14_1
      omega
end Go.GV
namespace Go.Proofs.YtlijhnfnceidjaaGreatDoor
open Go
theorem noGo : (Tryz.prog.funcs.toList.all fun f => !f.goes) = true := by kernel_rfl
theorem noGo_at (g : Nat) : (Tryz.prog.funcs[g]?).any Func.goes = false := by
  cases h : Tryz.prog.funcs[g]? with
  | none => rfl
  | some fn =>
    have := List.all_eq_true.1 noGo fn (Array.mem_toList_iff.2 (Array.mem_of_getElem? h))
    simpa using this
theorem noGo_any : Tryz.prog.funcs.any Func.goes = false := by
  rw [← Array.any_toList]
  cases h : Tryz.prog.funcs.toList.any Func.goes with
  | false => rfl
  | true =>
    obtain ⟨fn, h1, h2⟩ := List.any_eq_true.1 h
    have := List.all_eq_true.1 noGo fn h1
    rw [h2] at this
    cases this
theorem noGoes (f : FuncId) : Tryz.prog.goes f = false := by
  unfold Program.goes
  rw [noGo_any, Bool.and_false, Bool.or_false]
  cases h : ((Tryz.prog.closure f).any fun g => (Tryz.prog.funcs[g]?).any Func.goes) with
  | false => rfl
  | true =>
    simp only [noGo_at] at h
    simp at h
theorem noGoBy : false = Rows.conflictSizesRow.goesBy Tryz.pinned.checked.prog := by
  have e : Rows.conflictSizesRow.goesBy Tryz.prog = ((Tryz.prog.funcNamed Rows.conflictSizesRow.func).any Tryz.prog.goes || false) := rfl
  refine Eq.trans ?_ e.symm
  generalize Tryz.prog.funcNamed Rows.conflictSizesRow.func = o
  cases o with
  | none => rfl
  | some f => rw [Option.any_some, noGoes]; rfl
end Go.Proofs.YtlijhnfnceidjaaGreatDoor
