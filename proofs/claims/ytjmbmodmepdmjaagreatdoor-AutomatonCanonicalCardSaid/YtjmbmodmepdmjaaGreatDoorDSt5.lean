/- What the functions compute, written by a program. -/
import Derived.Test.YtjmbmodmepdmjaaGreatDoorD1
namespace Go.GK
def r05_Starts_b2 (fu : Nat) (k190 : Nat) (nx186 : ((List Bool) × Nat) → Option (List Int)) (x200 : Bool × (List (Int × Int × Int))) (l258 : List Bool) (k261 : Nat) (nx257 : ((List Bool) × Nat) → Option (List Int)) : Option (List Int) :=
  bif decide (((k261 : Nat) : Int) < ((x200.2.length : Nat) : Int)) then (bnd (idx x200.2 ((k261 : Nat) : Int)) (fun x271 => bnd (idx l258 x271.1) (fun x279 => chk (F64 (x271.2.1 + 1)) (bnd (idx (l258.set x271.1.toNat true) (x271.2.1 + 1)) (fun x286 => nx257 ((l258.set x271.1.toNat true).set ((x271.2.1 + 1).toNat) true, k261 + 1)))))) else (nx186 (l258, k190 + 1))
def r05_Starts_b3 (fu : Nat) (l187 : List Bool) (l327 : List Int) (k331 : Nat) (nx326 : ((List Int) × Nat) → Option (List Int)) : Option (List Int) :=
  bif decide (((k331 : Nat) : Int) < 256) then (bnd (idx l187 ((k331 : Nat) : Int)) (fun x341 => bif x341 then (chk (l327.length + ([((k331 : Nat) : Int)] : List Int).length ≤ capN) (nx326 (l327 ++ ([((k331 : Nat) : Int)] : List Int), k331 + 1))) else (nx326 (l327, k331 + 1)))) else (some l327)
def r05_Starts_b1 (fu : Nat) (a0 : List (Bool × (List (Int × Int × Int)))) (l187 : List Bool) (k190 : Nat) (nx186 : ((List Bool) × Nat) → Option (List Int)) : Option (List Int) :=
  bif decide (((k190 : Nat) : Int) < ((a0.length : Nat) : Int)) then (bnd (idx a0 ((k190 : Nat) : Int)) (fun x200 => loopK fu (fun p nx => r05_Starts_b2 fu k190 nx186 x200 p.1 p.2 nx) (l187, 0))) else (loopK fu (fun p nx => r05_Starts_b3 fu l187 p.1 p.2 nx) (([] : List Int), 0))
def r05_Starts (fu : Nat) (a0 : List (Bool × (List (Int × Int × Int)))) : Option (List Int) :=
  bnd (idx (List.replicate 257 false : List Bool) 0) (fun x6 => loopK fu (fun p nx => r05_Starts_b1 fu a0 p.1 p.2 nx) ((List.replicate 257 false : List Bool).set 0 true, 0))
end Go.GK
