/- What the functions compute, written by a program. -/
import Derived.Test.YtjmbmodmepdmjaaGreatDoorD1
namespace Go.GK
def r05_Wellformed_b2 (fu : Nat) (a0 : List (Bool × (List (Int × Int × Int)))) (k249 : Nat) (nx248 : Nat → Option Bool) (x259 : Bool × (List (Int × Int × Int))) (k343 : Nat) (nx342 : Nat → Option Bool) : Option Bool :=
  bif decide (((k343 : Nat) : Int) < ((x259.2.length : Nat) : Int)) then (bnd (idx x259.2 ((k343 : Nat) : Int)) (fun x353 => bif decide (x353.2.1 < x353.1) then (some false) else (bif decide (x353.2.2 < 0) then (some false) else (bif decide (((a0.length : Nat) : Int) ≤ x353.2.2) then (some false) else (bif decide (0 < ((k343 : Nat) : Int)) then (chk (F64 (((k343 : Nat) : Int) - 1)) (bnd (idx x259.2 (((k343 : Nat) : Int) - 1)) (fun x380 => bif decide (x353.1 ≤ x380.2.1) then (some false) else (nx342 (k343 + 1))))) else (nx342 (k343 + 1))))))) else (nx248 (k249 + 1))
def r05_Wellformed_b1 (fu : Nat) (a0 : List (Bool × (List (Int × Int × Int)))) (k249 : Nat) (nx248 : Nat → Option Bool) : Option Bool :=
  bif decide (((k249 : Nat) : Int) < ((a0.length : Nat) : Int)) then (bnd (idx a0 ((k249 : Nat) : Int)) (fun x259 => loopK fu (r05_Wellformed_b2 fu a0 k249 nx248 x259) 0)) else (some true)
def r05_Wellformed (fu : Nat) (a0 : List (Bool × (List (Int × Int × Int)))) : Option Bool :=
  loopK fu (r05_Wellformed_b1 fu a0) 0

def r05_Step_b1 (fu : Nat) (a2 : Int) (x6 : Bool × (List (Int × Int × Int))) (k38 : Nat) (nx37 : Nat → Option Int) : Option Int :=
  bif decide (((k38 : Nat) : Int) < ((x6.2.length : Nat) : Int)) then (bnd (idx x6.2 ((k38 : Nat) : Int)) (fun x48 => bif decide (x48.1 ≤ a2) then (bif decide (a2 ≤ x48.2.1) then (some x48.2.2) else (nx37 (k38 + 1))) else (nx37 (k38 + 1)))) else (some (-1))
def r05_Step (fu : Nat) (a0 : List (Bool × (List (Int × Int × Int)))) (a1 : Int) (a2 : Int) : Option Int :=
  bif decide (a1 < 0) then (some (-1)) else (bnd (idx a0 a1) (fun x6 => loopK fu (r05_Step_b1 fu a2 x6) 0))
end Go.GK
