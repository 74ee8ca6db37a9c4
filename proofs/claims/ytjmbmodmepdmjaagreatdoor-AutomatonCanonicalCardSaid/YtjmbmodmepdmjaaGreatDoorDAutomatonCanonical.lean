/- What the functions compute, written by a program. -/
import Derived.Test.YtjmbmodmepdmjaaGreatDoorD1
import Derived.Test.YtjmbmodmepdmjaaGreatDoorDStep
import Derived.Test.YtjmbmodmepdmjaaGreatDoorDSt5
namespace Go.GK

def w05_accepts (fu : Nat) (a0 : List (Bool × (List (Int × Int × Int)))) (a1 : Int) : Option Bool :=
  bif decide (0 ≤ a1) then (bnd (idx a0 a1) (fun x4 => some x4.1)) else (some false)

def w05_equivalent_b5 (fu : Nat) (l599 : List (Int × Int)) (k603 : Nat) (nx598 : ((List (Int × Int)) × Nat) → Option Bool) (x629 : Int) (x632 : Int) (b654 : Bool) (k655 : Nat) (nx653 : (Bool × Nat) → Option Bool) : Option Bool :=
  bif decide (((k655 : Nat) : Int) < ((l599.length : Nat) : Int)) then (bnd (idx l599 ((k655 : Nat) : Int)) (fun x665 => bif b654 then (nx653 (true, k655 + 1)) else (nx653 (decide (([x665.1, x665.2] : List Int) = [x629, x632]), k655 + 1)))) else (bif !b654 then (chk (l599.length + ([(x629, x632)] : List (Int × Int)).length ≤ capN) (nx598 (l599 ++ ([(x629, x632)] : List (Int × Int)), k603 + 1))) else (nx598 (l599, k603 + 1)))
def w05_equivalent_b4 (fu : Nat) (a0 : List (Bool × (List (Int × Int × Int)))) (a1 : List (Bool × (List (Int × Int × Int)))) (x25 : List Int) (x32 : List Int) (k452 : Nat) (nx447 : ((List (Int × Int)) × Nat) → Option Bool) (x463 : Int × Int) (l599 : List (Int × Int)) (k603 : Nat) (nx598 : ((List (Int × Int)) × Nat) → Option Bool) : Option Bool :=
  bif decide (((k603 : Nat) : Int) < (((x25 ++ x32).length : Nat) : Int)) then (bnd (idx (x25 ++ x32) ((k603 : Nat) : Int)) (fun x613 => chk (F8 x613) (bnd (r05_Step fu a0 x463.1 x613) (fun x629 => chk (F8 x613) (bnd (r05_Step fu a1 x463.2 x613) (fun x632 => loopK fu (fun p nx => w05_equivalent_b5 fu l599 k603 nx598 x629 x632 p.1 p.2 nx) (false, 0))))))) else (nx447 (l599, k452 + 1))
def w05_equivalent_b3 (fu : Nat) (a0 : List (Bool × (List (Int × Int × Int)))) (a1 : List (Bool × (List (Int × Int × Int)))) (x25 : List Int) (x32 : List Int) (l448 : List (Int × Int)) (k452 : Nat) (nx447 : ((List (Int × Int)) × Nat) → Option Bool) : Option Bool :=
  bif decide (((k452 : Nat) : Int) < ((l448.length : Nat) : Int)) then (bnd (idx l448 ((k452 : Nat) : Int)) (fun x463 => bnd (w05_accepts fu a0 x463.1) (fun x471 => bnd (w05_accepts fu a1 x463.2) (fun x473 => bif !(x471 == x473) then (some false) else (loopK fu (fun p nx => w05_equivalent_b4 fu a0 a1 x25 x32 k452 nx447 x463 p.1 p.2 nx) (l448, 0)))))) else (some true)
def w05_equivalent_j2 (fu : Nat) (a0 : List (Bool × (List (Int × Int × Int)))) (a1 : List (Bool × (List (Int × Int × Int)))) (i8 : Int) (i16 : Int) : Option Bool :=
  bnd (r05_Starts fu a0) (fun x25 => bnd (r05_Starts fu a1) (fun x32 => chk (x25.length + x32.length ≤ capN) (loopK fu (fun p nx => w05_equivalent_b3 fu a0 a1 x25 x32 p.1 p.2 nx) (([(i8, i16)] : List (Int × Int)), 0))))
def w05_equivalent_j1 (fu : Nat) (a0 : List (Bool × (List (Int × Int × Int)))) (a1 : List (Bool × (List (Int × Int × Int)))) (i8 : Int) : Option Bool :=
  bif decide (((a1.length : Nat) : Int) = 0) then (w05_equivalent_j2 fu a0 a1 i8 (-1)) else (w05_equivalent_j2 fu a0 a1 i8 0)
def w05_equivalent (fu : Nat) (a0 : List (Bool × (List (Int × Int × Int)))) (a1 : List (Bool × (List (Int × Int × Int)))) : Option Bool :=
  bif decide (((a0.length : Nat) : Int) = 0) then (w05_equivalent_j1 fu a0 a1 (-1)) else (w05_equivalent_j1 fu a0 a1 0)


def w05_AutomatonCanonical (fu : Nat) (a0 : List (Bool × (List (Int × Int × Int)))) (a1 : List (Bool × (List (Int × Int × Int)))) : Option Bool :=
  bnd (w05_few fu a0) (fun x5 => bif !x5 then (bnd (w05_alive fu) (fun x8 => some x8)) else (bnd (w05_few fu a1) (fun x10 => bif !x10 then (bnd (w05_alive fu) (fun x13 => some x13)) else (bnd (r05_Wellformed fu a0) (fun x15 => bif !x15 then (bnd (w05_alive fu) (fun x18 => some x18)) else (bnd (r05_Wellformed fu a1) (fun x20 => bif !x20 then (bnd (w05_alive fu) (fun x23 => some x23)) else (bnd (au_Minimal fu a0) (fun x25 => bnd (au_Minimal fu a1) (fun x33 => bif decide (x25.2 = 0) then (bif decide (x33.2 = 0) then (bnd (au_Same fu x25.1 x33.1) (fun x43 => bnd (w05_equivalent fu a0 a1) (fun x45 => bif x43 == x45 then (bnd (w05_alive fu) (fun x48 => some x48)) else (some false)))) else (some false)) else (some false)))))))))))
end Go.GK
