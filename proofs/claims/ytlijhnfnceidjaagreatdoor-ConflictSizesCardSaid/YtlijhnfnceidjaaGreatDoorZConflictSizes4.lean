/- Part 4 of the texts of this claim: what its theorem leans on. -/
import Derived.Test.YtlijhnfnceidjaaGreatDoorZConflictSizes3
import Derived.KernelRfl
namespace Go.GV
open Go Go.GK
def allN (f : Nat → Bool) : Nat → Bool
  | 0 => true
  | n + 1 => f n && allN f n
theorem allN_ok {f : Nat → Bool} : ∀ {n : Nat}, allN f n = true → ∀ s, s < n → f s = true
  | 0, _, s, h => by omega
  | n + 1, h, s, hs => by
    obtain ⟨h1, h2⟩ := bAnd h
    rcases Nat.lt_or_ge s n with h3 | h3
    · exact allN_ok h2 s h3
    · obtain rfl : s = n := by omega
      exact h1
theorem ck0 : allN (fun s => Nat.beq s 0 || ckC 0 s) 2 = true := by kernel_rfl
theorem mn0 : eqL (minN (cN 2)) [] = true := by kernel_rfl
theorem rn0 : eqL (minN (rN [] 1)) [0] = true := by kernel_rfl
theorem ck1 : allN (fun s => Nat.beq s 0 || ckC 1 s) 4 = true := by kernel_rfl
theorem mn1 : eqL (minN (cN 4)) [3] = true := by kernel_rfl
theorem rn1 : eqL (minN (rN [3] 2)) [1, 2] = true := by kernel_rfl
theorem ck2 : allN (fun s => Nat.beq s 0 || ckC 2 s) 8 = true := by kernel_rfl
theorem mn2 : eqL (minN (cN 8)) [3, 5] = true := by kernel_rfl
theorem rn2 : eqL (minN (rN [3, 5] 3)) [1, 6] = true := by kernel_rfl
theorem ck3 : allN (fun s => Nat.beq s 0 || ckC 3 s) 16 = true := by kernel_rfl
theorem mn3 : eqL (minN (cN 16)) [3, 5, 9] = true := by kernel_rfl
theorem rn3 : eqL (minN (rN [3, 5, 9] 4)) [1, 14] = true := by kernel_rfl
theorem ck4 : allN (fun s => Nat.beq s 0 || ckC 4 s) 32 = true := by kernel_rfl
theorem mn4 : eqL (minN (cN 32)) [3, 5, 9, 17] = true := by kernel_rfl
theorem rn4 : eqL (minN (rN [3, 5, 9, 17] 5)) [1, 30] = true := by kernel_rfl
theorem ck5 : allN (fun s => Nat.beq s 0 || ckC 5 s) 64 = true := by kernel_rfl
theorem mn5 : eqL (minN (cN 64)) [3, 5, 9, 17, 33] = true := by kernel_rfl
theorem rn5 : eqL (minN (rN [3, 5, 9, 17, 33] 6)) [1, 62] = true := by kernel_rfl
theorem ck6 : allN (fun s => Nat.beq s 0 || ckC 6 s) 128 = true := by kernel_rfl
theorem mn6 : eqL (minN (cN 128)) [3, 5, 9, 17, 33, 65] = true := by kernel_rfl
theorem rn6 : eqL (minN (rN [3, 5, 9, 17, 33, 65] 7)) [1, 126] = true := by kernel_rfl
theorem ck7 : allN (fun s => Nat.beq s 0 || ckC 7 s) 256 = true := by kernel_rfl
theorem mn7 : eqL (minN (cN 256)) [3, 5, 9, 17, 33, 65, 129] = true := by kernel_rfl
theorem rn7 : eqL (minN (rN [3, 5, 9, 17, 33, 65, 129] 8)) [1, 254] = true := by kernel_rfl
theorem ck8 : allN (fun s => Nat.beq s 0 || ckC 8 s) 512 = true := by kernel_rfl
theorem mn8 : eqL (minN (cN 512)) [3, 5, 9, 17, 33, 65, 129, 257] = true := by kernel_rfl
theorem rn8 : eqL (minN (rN [3, 5, 9, 17, 33, 65, 129, 257] 9)) [1, 510] = true := by kernel_rfl
theorem ck9 : allN (fun s => Nat.beq s 0 || ckC 9 s) 1024 = true := by kernel_rfl
theorem mn9 : eqL (minN (cN 1024)) [3, 5, 9, 17, 33, 65, 129, 257, 513] = true := by kernel_rfl
theorem rn9 : eqL (minN (rN [3, 5, 9, 17, 33, 65, 129, 257, 513] 10)) [1, 1022] = true := by kernel_rfl
theorem ck10 : allN (fun s => Nat.beq s 0 || ckC 10 s) 2048 = true := by kernel_rfl
theorem mn10 : eqL (minN (cN 2048)) [3, 5, 9, 17, 33, 65, 129, 257, 513, 1025] = true := by kernel_rfl
theorem rn10 : eqL (minN (rN [3, 5, 9, 17, 33, 65, 129, 257, 513, 1025] 11)) [1, 2046] = true := by kernel_rfl
theorem ck11 : allN (fun s => Nat.beq s 0 || ckC 11 s) 4096 = true := by kernel_rfl
theorem mn11 : eqL (minN (cN 4096)) [3, 5, 9, 17, 33, 65, 129, 257, 513, 1025, 2049] = true := by kernel_rfl
theorem rn11 : eqL (minN (rN [3, 5, 9, 17, 33, 65, 129, 257, 513, 1025, 2049] 12)) [1, 4094] = true := by kernel_rfl
end Go.GV
