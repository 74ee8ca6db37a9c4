/- What the functions compute, written by a program. -/
import Derived.Test.YtjmbmodmepdmjabDoorD1
namespace Go.GK
def w05_AutomatonCount_b2 (fu : Nat) (a0 : Int) (a1 : Int) (x158 : (List (Bool × (List (Int × Int × Int)))) × Int) (k216 : Nat) (nx215 : Nat → Option Bool) : Option Bool :=
  bif decide (((k216 : Nat) : Int) < ((x158.1.length : Nat) : Int)) then (bnd (idx x158.1 ((k216 : Nat) : Int)) (fun x226 => bif !(x226.1 == (decide (((k216 : Nat) : Int) = a0))) then (some false) else (bif decide (((k216 : Nat) : Int) < a0) then (bif decide (((x226.2.length : Nat) : Int) ≠ 1) then (some false) else (bnd (idx x226.2 0) (fun x237 => bif !(decide (([x237.1, x237.2.1, x237.2.2] : List Int) = [97, a1, ((k216 : Nat) : Int) + 1])) then (some false) else (nx215 (k216 + 1))))) else (nx215 (k216 + 1))))) else (bnd (w05_alive fu) (fun x245 => some x245))
def w05_AutomatonCount_b1 (fu : Nat) (a0 : Int) (a1 : Int) (l114 : List Rx) (i118 : Int) (nx113 : ((List Rx) × Int) → Option Bool) : Option Bool :=
  bif decide (i118 < a0) then (bnd (w05_letters fu a1) (fun x141 => chk (l114.length + ([x141] : List Rx).length ≤ capN) (chk (F64 (i118 + 1)) (nx113 (l114 ++ ([x141] : List Rx), i118 + 1))))) else (bnd (au_Of fu (Rx.mk 3 (fun _ => false) l114)) (fun x158 => bif decide (x158.2 ≠ 0) then (some false) else (chk (F64 (a0 + 1)) (bif decide (((x158.1.length : Nat) : Int) ≠ (a0 + 1)) then (some false) else (loopK fu (w05_AutomatonCount_b2 fu a0 a1 x158) 0)))))
def w05_AutomatonCount (fu : Nat) (a0 : Int) (a1 : Int) : Option Bool :=
  bif decide (a0 < 2) then (bnd (w05_alive fu) (fun x6 => some x6)) else (bif decide (190 < a0) then (bnd (w05_alive fu) (fun x9 => some x9)) else (bif decide (a1 < 97) then (bnd (w05_alive fu) (fun x12 => some x12)) else (bif decide (103 < a1) then (bnd (w05_alive fu) (fun x15 => some x15)) else (loopK fu (fun p nx => w05_AutomatonCount_b1 fu a0 a1 p.1 p.2 nx) (([] : List Rx), 0)))))
end Go.GK
