/- Part 6 of the texts of this claim: what its theorem leans on. -/
import Derived.Test.YtjmbmodmepdmjaaGreatDoorZAutomatonMinimal5
namespace Go.GK
def r05_Starts_b2 (fu : Nat) (k190 : Nat) (nx186 : ((List Bool) × Nat) → Option (List Int)) (x200 : Bool × (List (Int × Int × Int))) (l258 : List Bool) (k261 : Nat) (nx257 : ((List Bool) × Nat) → Option (List Int)) : Option (List Int) :=
  bif decide (((k261 : Nat) : Int) < ((x200.2.length : Nat) : Int)) then (bnd (idx x200.2 ((k261 : Nat) : Int)) (fun x271 => bnd (idx l258 x271.1) (fun x279 => chk (F64 (x271.2.1 + 1)) (bnd (idx (l258.set x271.1.toNat true) (x271.2.1 + 1)) (fun x286 => nx257 ((l258.set x271.1.toNat true).set ((x271.2.1 + 1).toNat) true, k261 + 1)))))) else (nx186 (l258, k190 + 1))
def r05_Starts_b3 (fu : Nat) (l187 : List Bool) (l327 : List Int) (k331 : Nat) (nx326 : ((List Int) × Nat) → Option (List Int)) : Option (List Int) :=
  bif decide (((k331 : Nat) : Int) < 256) then (bnd (idx l187 ((k331 : Nat) : Int)) (fun x341 => bif x341 then (chk (l327.length + ([((k331 : Nat) : Int)] : List Int).length ≤ capN) (nx326 (l327 ++ ([((k331 : Nat) : Int)] : List Int), k331 + 1))) else (nx326 (l327, k331 + 1)))) else (some l327)
def r05_Starts_b1 (fu : Nat) (a0 : List (Bool × (List (Int × Int × Int)))) (l187 : List Bool) (k190 : Nat) (nx186 : ((List Bool) × Nat) → Option (List Int)) : Option (List Int) :=
  bif decide (((k190 : Nat) : Int) < ((a0.length : Nat) : Int)) then (bnd (idx a0 ((k190 : Nat) : Int)) (fun x200 => loopK fu (fun p nx => r05_Starts_b2 fu k190 nx186 x200 p.1 p.2 nx) (l187, 0))) else (loopK fu (fun p nx => r05_Starts_b3 fu l187 p.1 p.2 nx) (([] : List Int), 0))
def r05_Starts (fu : Nat) (a0 : List (Bool × (List (Int × Int × Int)))) : Option (List Int) :=
  bnd (idx (List.replicate 257 false : List Bool) 0) (fun x6 => loopK fu (fun p nx => r05_Starts_b1 fu a0 p.1 p.2 nx) ((List.replicate 257 false : List Bool).set 0 true, 0))
def r05_alive_b3 (fu : Nat) (k1424 : Nat) (nx1419 : ((List Bool) × Nat) → Option (List Bool)) (x1434 : Bool × (List (Int × Int × Int))) (l1501 : List Bool) (k1505 : Nat) (nx1500 : ((List Bool) × Nat) → Option (List Bool)) : Option (List Bool) :=
  bif decide (((k1505 : Nat) : Int) < ((x1434.2.length : Nat) : Int)) then (bnd (idx x1434.2 ((k1505 : Nat) : Int)) (fun x1515 => bnd (idx l1501 ((k1424 : Nat) : Int)) (fun x1523 => bif x1523 then (bnd (idx l1501 ((k1424 : Nat) : Int)) (fun x1527 => nx1500 (l1501.set k1424 true, k1505 + 1))) else (bnd (idx l1501 x1515.2.2) (fun x1532 => bnd (idx l1501 ((k1424 : Nat) : Int)) (fun x1527 => nx1500 (l1501.set k1424 x1532, k1505 + 1))))))) else (nx1419 (l1501, k1424 + 1))
def r05_alive_b4 (fu : Nat) (k1424 : Nat) (nx1419 : ((List Bool) × Nat) → Option (List Bool)) (x1434 : Bool × (List (Int × Int × Int))) (l1586 : List Bool) (k1590 : Nat) (nx1585 : ((List Bool) × Nat) → Option (List Bool)) : Option (List Bool) :=
  bif decide (((k1590 : Nat) : Int) < ((x1434.2.length : Nat) : Int)) then (bnd (idx x1434.2 ((k1590 : Nat) : Int)) (fun x1600 => bnd (idx l1586 ((k1424 : Nat) : Int)) (fun x1608 => bif x1608 then (bnd (idx l1586 ((k1424 : Nat) : Int)) (fun x1612 => nx1585 (l1586.set k1424 true, k1590 + 1))) else (bnd (idx l1586 x1600.2.2) (fun x1617 => bnd (idx l1586 ((k1424 : Nat) : Int)) (fun x1612 => nx1585 (l1586.set k1424 x1617, k1590 + 1))))))) else (nx1419 (l1586, k1424 + 1))
def r05_alive_b2 (fu : Nat) (a0 : List (Bool × (List (Int × Int × Int)))) (k1063 : Nat) (nx1058 : ((List Bool) × Nat) → Option (List Bool)) (l1420 : List Bool) (k1424 : Nat) (nx1419 : ((List Bool) × Nat) → Option (List Bool)) : Option (List Bool) :=
  bif decide (((k1424 : Nat) : Int) < ((a0.length : Nat) : Int)) then (bnd (idx a0 ((k1424 : Nat) : Int)) (fun x1434 => bnd (idx l1420 ((k1424 : Nat) : Int)) (fun x1441 => bif x1441 then (bnd (idx l1420 ((k1424 : Nat) : Int)) (fun x1445 => loopK fu (fun p nx => r05_alive_b3 fu k1424 nx1419 x1434 p.1 p.2 nx) (l1420.set k1424 true, 0))) else (bnd (idx l1420 ((k1424 : Nat) : Int)) (fun x1445 => loopK fu (fun p nx => r05_alive_b4 fu k1424 nx1419 x1434 p.1 p.2 nx) (l1420.set k1424 x1434.1, 0)))))) else (nx1058 (l1420, k1063 + 1))
def r05_alive_b1 (fu : Nat) (a0 : List (Bool × (List (Int × Int × Int)))) (l1059 : List Bool) (k1063 : Nat) (nx1058 : ((List Bool) × Nat) → Option (List Bool)) : Option (List Bool) :=
  bif decide (((k1063 : Nat) : Int) < ((a0.length : Nat) : Int)) then (loopK fu (fun p nx => r05_alive_b2 fu a0 k1063 nx1058 p.1 p.2 nx) (l1059, 0)) else (some l1059)
def r05_alive (fu : Nat) (a0 : List (Bool × (List (Int × Int × Int)))) : Option (List Bool) :=
  chk (a0.length ≤ capN) (loopK fu (fun p nx => r05_alive_b1 fu a0 p.1 p.2 nx) ((List.replicate a0.length false : List Bool), 0))
def r05_sameInts_b1 (fu : Nat) (a0 : List Int) (a1 : List Int) (k40 : Nat) (nx39 : Nat → Option Bool) : Option Bool :=
  bif decide (((k40 : Nat) : Int) < ((a0.length : Nat) : Int)) then (bnd (idx a0 ((k40 : Nat) : Int)) (fun x56 => bnd (idx a1 ((k40 : Nat) : Int)) (fun x59 => bif decide (x56 ≠ x59) then (some false) else (nx39 (k40 + 1))))) else (some true)
def r05_sameInts (fu : Nat) (a0 : List Int) (a1 : List Int) : Option Bool :=
  bif decide (((a0.length : Nat) : Int) ≠ ((a1.length : Nat) : Int)) then (some false) else (loopK fu (r05_sameInts_b1 fu a0 a1) 0)
def r05_find_b1 (fu : Nat) (a0 : List (List Int)) (a1 : List Int) (k27 : Nat) (nx26 : Nat → Option Int) : Option Int :=
  bif decide (((k27 : Nat) : Int) < ((a0.length : Nat) : Int)) then (bnd (idx a0 ((k27 : Nat) : Int)) (fun x37 => bnd (r05_sameInts fu x37 a1) (fun x42 => bif x42 then (some ((k27 : Nat) : Int)) else (nx26 (k27 + 1))))) else (some (-1))
def r05_find (fu : Nat) (a0 : List (List Int)) (a1 : List Int) : Option Int :=
  loopK fu (r05_find_b1 fu a0 a1) 0
def r05_classes_j39 (fu : Nat) (l1233 : List Int) (k1237 : Nat) (nx1232 : ((List Int) × Nat) → Option (List Int)) (i1257 : Int) : Option (List Int) :=
  chk (l1233.length + ([i1257] : List Int).length ≤ capN) (nx1232 (l1233 ++ ([i1257] : List Int), k1237 + 1))
def r05_classes_j40 (fu : Nat) (l1153 : List Int) (k1161 : Nat) (nx1152 : ((List Int) × (List (List Int)) × Nat) → Option (List Int)) (l1290 : List (List Int)) (i1294 : Int) : Option (List Int) :=
  bnd (idx l1153 ((k1161 : Nat) : Int)) (fun x1300 => nx1152 (l1153.set k1161 i1294, l1290, k1161 + 1))
def r05_classes_b38 (fu : Nat) (a0 : List (Bool × (List (Int × Int × Int)))) (a1 : List Int) (l876 : List Int) (l1153 : List Int) (l1157 : List (List Int)) (k1161 : Nat) (nx1152 : ((List Int) × (List (List Int)) × Nat) → Option (List Int)) (l1233 : List Int) (k1237 : Nat) (nx1232 : ((List Int) × Nat) → Option (List Int)) : Option (List Int) :=
  bif decide (((k1237 : Nat) : Int) < ((a1.length : Nat) : Int)) then (bnd (idx a1 ((k1237 : Nat) : Int)) (fun x1247 => chk (F8 x1247) (bnd (r05_Step fu a0 ((k1161 : Nat) : Int) x1247) (fun x1251 => bif decide (0 ≤ x1251) then (bnd (idx l876 x1251) (fun x1271 => r05_classes_j39 fu l1233 k1237 nx1232 x1271)) else (r05_classes_j39 fu l1233 k1237 nx1232 x1251))))) else (bnd (r05_find fu l1157 l1233) (fun x1274 => bif decide (x1274 < 0) then (chk (l1157.length + ([l1233] : List (List Int)).length ≤ capN) (r05_classes_j40 fu l1153 k1161 nx1152 (l1157 ++ ([l1233] : List (List Int))) ((l1157.length : Nat) : Int))) else (r05_classes_j40 fu l1153 k1161 nx1152 l1157 x1274)))
def r05_classes_b35 (fu : Nat) (a0 : List (Bool × (List (Int × Int × Int)))) (a1 : List Int) (l876 : List Int) (k880 : Nat) (k881 : Nat) (nx875 : ((List Int) × Nat × Nat) → Option (List Int)) (l1153 : List Int) (l1157 : List (List Int)) (k1161 : Nat) (nx1152 : ((List Int) × (List (List Int)) × Nat) → Option (List Int)) : Option (List Int) :=
  bif decide (((k1161 : Nat) : Int) < ((a0.length : Nat) : Int)) then (bnd (idx l876 ((k1161 : Nat) : Int)) (fun x1171 => loopK fu (fun p nx => r05_classes_b38 fu a0 a1 l876 l1153 l1157 k1161 nx1152 p.1 p.2 nx) (([x1171] : List Int), 0))) else (bif decide (((l1157.length : Nat) : Int) = ((k880 : Nat) : Int)) then (some l1153) else (nx875 (l1153, l1157.length, k881 + 1)))
def r05_classes_b26 (fu : Nat) (a0 : List (Bool × (List (Int × Int × Int)))) (a1 : List Int) (l876 : List Int) (k880 : Nat) (k881 : Nat) (nx875 : ((List Int) × Nat × Nat) → Option (List Int)) : Option (List Int) :=
  bif decide (((k881 : Nat) : Int) < ((a0.length : Nat) : Int)) then (chk (a0.length ≤ capN) (loopK fu (fun p nx => r05_classes_b35 fu a0 a1 l876 k880 k881 nx875 p.1 p.2.1 p.2.2 nx) ((List.replicate a0.length 0 : List Int), ([] : List (List Int)), 0))) else (some l876)
def r05_classes_b1 (fu : Nat) (a0 : List (Bool × (List (Int × Int × Int)))) (a1 : List Int) (l48 : List Int) (k52 : Nat) (nx47 : ((List Int) × Nat) → Option (List Int)) : Option (List Int) :=
  bif decide (((k52 : Nat) : Int) < ((a0.length : Nat) : Int)) then (bnd (idx a0 ((k52 : Nat) : Int)) (fun x62 => bif x62.1 then (bnd (idx l48 ((k52 : Nat) : Int)) (fun x70 => nx47 (l48.set k52 1, k52 + 1))) else (nx47 (l48, k52 + 1)))) else (loopK fu (fun p nx => r05_classes_b26 fu a0 a1 p.1 p.2.1 p.2.2 nx) (l48, 0, 0))
def r05_classes (fu : Nat) (a0 : List (Bool × (List (Int × Int × Int)))) (a1 : List Int) : Option (List Int) :=
  chk (a0.length ≤ capN) (loopK fu (fun p nx => r05_classes_b1 fu a0 a1 p.1 p.2 nx) ((List.replicate a0.length 0 : List Int), 0))
def r05_trimmed_b2 (fu : Nat) (x4 : List Bool) (l217 : List (Bool × (List (Int × Int × Int)))) (k221 : Nat) (nx216 : ((List (Bool × (List (Int × Int × Int)))) × Nat) → Option (List (Bool × (List (Int × Int × Int))))) (x231 : Bool × (List (Int × Int × Int))) (l292 : List (Int × Int × Int)) (k296 : Nat) (nx291 : ((List (Int × Int × Int)) × Nat) → Option (List (Bool × (List (Int × Int × Int))))) : Option (List (Bool × (List (Int × Int × Int)))) :=
  bif decide (((k296 : Nat) : Int) < ((x231.2.length : Nat) : Int)) then (bnd (idx x231.2 ((k296 : Nat) : Int)) (fun x306 => bnd (idx x4 x306.2.2) (fun x314 => bif x314 then (chk (l292.length + ([x306] : List (Int × Int × Int)).length ≤ capN) (nx291 (l292 ++ ([x306] : List (Int × Int × Int)), k296 + 1))) else (nx291 (l292, k296 + 1))))) else (chk (l217.length + ([(x231.1, l292)] : List (Bool × (List (Int × Int × Int)))).length ≤ capN) (nx216 (l217 ++ ([(x231.1, l292)] : List (Bool × (List (Int × Int × Int)))), k221 + 1)))
def r05_trimmed_b1 (fu : Nat) (a0 : List (Bool × (List (Int × Int × Int)))) (x4 : List Bool) (l217 : List (Bool × (List (Int × Int × Int)))) (k221 : Nat) (nx216 : ((List (Bool × (List (Int × Int × Int)))) × Nat) → Option (List (Bool × (List (Int × Int × Int))))) : Option (List (Bool × (List (Int × Int × Int)))) :=
  bif decide (((k221 : Nat) : Int) < ((a0.length : Nat) : Int)) then (bnd (idx a0 ((k221 : Nat) : Int)) (fun x231 => loopK fu (fun p nx => r05_trimmed_b2 fu x4 l217 k221 nx216 x231 p.1 p.2 nx) (([] : List (Int × Int × Int)), 0))) else (some l217)
def r05_trimmed (fu : Nat) (a0 : List (Bool × (List (Int × Int × Int)))) : Option (List (Bool × (List (Int × Int × Int)))) :=
  bnd (r05_alive fu a0) (fun x4 => loopK fu (fun p nx => r05_trimmed_b1 fu a0 x4 p.1 p.2 nx) (([] : List (Bool × (List (Int × Int × Int)))), 0))
def r05_reached_j20 (fu : Nat) (l1033 : List (Int × Int × Int)) (k1037 : Nat) (nx1028 : ((List Int) × (List (Int × Int × Int)) × Nat) → Option (List (Bool × (List (Int × Int × Int))))) (x1047 : Int × Int × Int) (i1094 : Int) (l1124 : List Int) : Option (List (Bool × (List (Int × Int × Int)))) :=
  chk (l1033.length + ([(x1047.1, x1047.2.1, i1094)] : List (Int × Int × Int)).length ≤ capN) (nx1028 (l1124, l1033 ++ ([(x1047.1, x1047.2.1, i1094)] : List (Int × Int × Int)), k1037 + 1))
def r05_reached_j21 (fu : Nat) (l1033 : List (Int × Int × Int)) (k1037 : Nat) (nx1028 : ((List Int) × (List (Int × Int × Int)) × Nat) → Option (List (Bool × (List (Int × Int × Int))))) (x1047 : Int × Int × Int) (i1094 : Int) (l1158 : List Int) : Option (List (Bool × (List (Int × Int × Int)))) :=
  chk (l1033.length + ([(x1047.1, x1047.2.1, i1094)] : List (Int × Int × Int)).length ≤ capN) (nx1028 (l1158, l1033 ++ ([(x1047.1, x1047.2.1, i1094)] : List (Int × Int × Int)), k1037 + 1))
def r05_reached_b19 (fu : Nat) (l1029 : List Int) (l1033 : List (Int × Int × Int)) (k1037 : Nat) (nx1028 : ((List Int) × (List (Int × Int × Int)) × Nat) → Option (List (Bool × (List (Int × Int × Int))))) (x1047 : Int × Int × Int) (i1094 : Int) (nx1093 : Int → Option (List (Bool × (List (Int × Int × Int))))) : Option (List (Bool × (List (Int × Int × Int)))) :=
  bif decide (i1094 < ((l1029.length : Nat) : Int)) then (bnd (idx l1029 i1094) (fun x1110 => bif decide (x1110 ≠ x1047.2.2) then (chk (F64 (i1094 + 1)) (nx1093 (i1094 + 1))) else (bif decide (i1094 = ((l1029.length : Nat) : Int)) then (chk (l1029.length + ([x1047.2.2] : List Int).length ≤ capN) (r05_reached_j20 fu l1033 k1037 nx1028 x1047 i1094 (l1029 ++ ([x1047.2.2] : List Int)))) else (r05_reached_j20 fu l1033 k1037 nx1028 x1047 i1094 l1029)))) else (bif decide (i1094 = ((l1029.length : Nat) : Int)) then (chk (l1029.length + ([x1047.2.2] : List Int).length ≤ capN) (r05_reached_j21 fu l1033 k1037 nx1028 x1047 i1094 (l1029 ++ ([x1047.2.2] : List Int)))) else (r05_reached_j21 fu l1033 k1037 nx1028 x1047 i1094 l1029))
def r05_reached_b18 (fu : Nat) (l773 : List (Bool × (List (Int × Int × Int)))) (k777 : Nat) (nx768 : ((List Int) × (List (Bool × (List (Int × Int × Int)))) × Nat) → Option (List (Bool × (List (Int × Int × Int))))) (x791 : Bool × (List (Int × Int × Int))) (x802 : Bool × (List (Int × Int × Int))) (l1029 : List Int) (l1033 : List (Int × Int × Int)) (k1037 : Nat) (nx1028 : ((List Int) × (List (Int × Int × Int)) × Nat) → Option (List (Bool × (List (Int × Int × Int))))) : Option (List (Bool × (List (Int × Int × Int)))) :=
  bif decide (((k1037 : Nat) : Int) < ((x802.2.length : Nat) : Int)) then (bnd (idx x802.2 ((k1037 : Nat) : Int)) (fun x1047 => loopK fu (r05_reached_b19 fu l1029 l1033 k1037 nx1028 x1047) 0)) else (chk (l773.length + ([(x791.1, l1033)] : List (Bool × (List (Int × Int × Int)))).length ≤ capN) (nx768 (l1029, l773 ++ ([(x791.1, l1033)] : List (Bool × (List (Int × Int × Int)))), k777 + 1)))
def r05_reached_b13 (fu : Nat) (a0 : List (Bool × (List (Int × Int × Int)))) (l769 : List Int) (l773 : List (Bool × (List (Int × Int × Int)))) (k777 : Nat) (nx768 : ((List Int) × (List (Bool × (List (Int × Int × Int)))) × Nat) → Option (List (Bool × (List (Int × Int × Int))))) : Option (List (Bool × (List (Int × Int × Int)))) :=
  bif decide (((k777 : Nat) : Int) < ((l769.length : Nat) : Int)) then (bnd (idx l769 ((k777 : Nat) : Int)) (fun x788 => bnd (idx a0 x788) (fun x791 => bnd (idx l769 ((k777 : Nat) : Int)) (fun x799 => bnd (idx a0 x799) (fun x802 => loopK fu (fun p nx => r05_reached_b18 fu l773 k777 nx768 x791 x802 p.1 p.2.1 p.2.2 nx) (l769, ([] : List (Int × Int × Int)), 0)))))) else (some l773)
def r05_reached (fu : Nat) (a0 : List (Bool × (List (Int × Int × Int)))) : Option (List (Bool × (List (Int × Int × Int)))) :=
  loopK fu (fun p nx => r05_reached_b13 fu a0 p.1 p.2.1 p.2.2 nx) (([0] : List Int), ([] : List (Bool × (List (Int × Int × Int)))), 0)
def r05_numbered_b1 (fu : Nat) (a0 : List Int) (a1 : List Int) (a2 : Int) (k43 : Nat) (nx42 : Nat → Option Int) : Option Int :=
  bif decide (((k43 : Nat) : Int) < ((a0.length : Nat) : Int)) then (bnd (idx a0 ((k43 : Nat) : Int)) (fun x53 => bnd (idx a1 x53) (fun x62 => bnd (idx a1 a2) (fun x65 => bif decide (x62 = x65) then (some ((k43 : Nat) : Int)) else (nx42 (k43 + 1)))))) else (some ((a0.length : Nat) : Int))
def r05_numbered (fu : Nat) (a0 : List Int) (a1 : List Int) (a2 : Int) : Option Int :=
  loopK fu (r05_numbered_b1 fu a0 a1 a2) 0
def r05_Minimal_j20 (fu : Nat) (l893 : List (Int × Int × Int)) (k897 : Nat) (nx888 : ((List Int) × (List (Int × Int × Int)) × Nat) → Option ((List (Bool × (List (Int × Int × Int)))) × Int)) (x907 : Int) (i923 : Int) (x929 : Int) (l940 : List Int) : Option ((List (Bool × (List (Int × Int × Int)))) × Int) :=
  chk (F64 (((l893.length : Nat) : Int) - 1)) (bif decide (0 ≤ (((l893.length : Nat) : Int) - 1)) then (bnd (idx l893 (((l893.length : Nat) : Int) - 1)) (fun x952 => bif decide (x952.2.2 = x929) then (bnd (idx l893 (((l893.length : Nat) : Int) - 1)) (fun x960 => chk (F64 (x960.2.1 + 1)) (bif decide ((x960.2.1 + 1) = x907) then (chk (F8 i923) (bnd (idx l893 (((l893.length : Nat) : Int) - 1)) (fun x970 => nx888 (l940, l893.set ((((l893.length : Nat) : Int) - 1).toNat) (x970.1, i923, x970.2.2), k897 + 1)))) else (chk (F8 x907) (chk (F8 i923) (chk (l893.length + ([(x907, i923, x929)] : List (Int × Int × Int)).length ≤ capN) (nx888 (l940, l893 ++ ([(x907, i923, x929)] : List (Int × Int × Int)), k897 + 1)))))))) else (chk (F8 x907) (chk (F8 i923) (chk (l893.length + ([(x907, i923, x929)] : List (Int × Int × Int)).length ≤ capN) (nx888 (l940, l893 ++ ([(x907, i923, x929)] : List (Int × Int × Int)), k897 + 1))))))) else (chk (F8 x907) (chk (F8 i923) (chk (l893.length + ([(x907, i923, x929)] : List (Int × Int × Int)).length ≤ capN) (nx888 (l940, l893 ++ ([(x907, i923, x929)] : List (Int × Int × Int)), k897 + 1))))))
def r05_Minimal_j19 (fu : Nat) (x41 : List Int) (l889 : List Int) (l893 : List (Int × Int × Int)) (k897 : Nat) (nx888 : ((List Int) × (List (Int × Int × Int)) × Nat) → Option ((List (Bool × (List (Int × Int × Int)))) × Int)) (x907 : Int) (x914 : Int) (i923 : Int) : Option ((List (Bool × (List (Int × Int × Int)))) × Int) :=
  bnd (r05_numbered fu l889 x41 x914) (fun x929 => bif decide (x929 = ((l889.length : Nat) : Int)) then (chk (l889.length + ([x914] : List Int).length ≤ capN) (r05_Minimal_j20 fu l893 k897 nx888 x907 i923 x929 (l889 ++ ([x914] : List Int)))) else (r05_Minimal_j20 fu l893 k897 nx888 x907 i923 x929 l889))
def r05_Minimal_b18 (fu : Nat) (x29 : List (Bool × (List (Int × Int × Int)))) (x35 : List Int) (x41 : List Int) (l689 : List (Bool × (List (Int × Int × Int)))) (k693 : Nat) (nx684 : ((List Int) × (List (Bool × (List (Int × Int × Int)))) × Nat) → Option ((List (Bool × (List (Int × Int × Int)))) × Int)) (x707 : Bool × (List (Int × Int × Int))) (l889 : List Int) (l893 : List (Int × Int × Int)) (k897 : Nat) (nx888 : ((List Int) × (List (Int × Int × Int)) × Nat) → Option ((List (Bool × (List (Int × Int × Int)))) × Int)) : Option ((List (Bool × (List (Int × Int × Int)))) × Int) :=
  bif decide (((k897 : Nat) : Int) < ((x35.length : Nat) : Int)) then (bnd (idx x35 ((k897 : Nat) : Int)) (fun x907 => bnd (idx l889 ((k693 : Nat) : Int)) (fun x910 => chk (F8 x907) (bnd (r05_Step fu x29 x910 x907) (fun x914 => bif decide (x914 < 0) then (nx888 (l889, l893, k897 + 1)) else (bif decide ((((k897 : Nat) : Int) + 1) < ((x35.length : Nat) : Int)) then (bnd (idx x35 (((k897 : Nat) : Int) + 1)) (fun x1018 => chk (F64 (x1018 - 1)) (r05_Minimal_j19 fu x41 l889 l893 k897 nx888 x907 x914 (x1018 - 1)))) else (r05_Minimal_j19 fu x41 l889 l893 k897 nx888 x907 x914 255))))))) else (chk (l689.length + ([(x707.1, l893)] : List (Bool × (List (Int × Int × Int)))).length ≤ capN) (nx684 (l889, l689 ++ ([(x707.1, l893)] : List (Bool × (List (Int × Int × Int)))), k693 + 1)))
def r05_Minimal_b13 (fu : Nat) (x29 : List (Bool × (List (Int × Int × Int)))) (x35 : List Int) (x41 : List Int) (l685 : List Int) (l689 : List (Bool × (List (Int × Int × Int)))) (k693 : Nat) (nx684 : ((List Int) × (List (Bool × (List (Int × Int × Int)))) × Nat) → Option ((List (Bool × (List (Int × Int × Int)))) × Int)) : Option ((List (Bool × (List (Int × Int × Int)))) × Int) :=
  bif decide (((k693 : Nat) : Int) < ((l685.length : Nat) : Int)) then (bnd (idx l685 ((k693 : Nat) : Int)) (fun x704 => bnd (idx x29 x704) (fun x707 => loopK fu (fun p nx => r05_Minimal_b18 fu x29 x35 x41 l689 k693 nx684 x707 p.1 p.2.1 p.2.2 nx) (l685, ([] : List (Int × Int × Int)), 0)))) else (some (l689, 0))
def r05_Minimal (fu : Nat) (a0 : List (Bool × (List (Int × Int × Int)))) : Option ((List (Bool × (List (Int × Int × Int)))) × Int) :=
  bnd (r05_Wellformed fu a0) (fun x5 => bif !x5 then (some (([] : List (Bool × (List (Int × Int × Int)))), 11)) else (bif decide (((a0.length : Nat) : Int) = 0) then (some (([] : List (Bool × (List (Int × Int × Int)))), 0)) else (bnd (r05_alive fu a0) (fun x12 => bnd (idx x12 0) (fun x18 => bif !x18 then (some (([] : List (Bool × (List (Int × Int × Int)))), 0)) else (bnd (r05_reached fu a0) (fun x23 => bnd (r05_trimmed fu x23) (fun x29 => bnd (r05_Starts fu x29) (fun x35 => bnd (r05_classes fu x29 x35) (fun x41 => loopK fu (fun p nx => r05_Minimal_b13 fu x29 x35 x41 p.1 p.2.1 p.2.2 nx) (([0] : List Int), ([] : List (Bool × (List (Int × Int × Int)))), 0)))))))))))
def r05_Valid (fu : Nat) (a0 : List (Bool × (List (Int × Int × Int)))) : Option Bool :=
  bnd (r05_Minimal fu a0) (fun x4 => bif decide (x4.2 = 0) then (bnd (r05_Same fu a0 x4.1) (fun x13 => some x13)) else (some false))
end Go.GK
namespace Go.Proofs.YtjmbmodmepdmjaaGreatDoor
open Go.GK
variable {H : Hp} {O : List Res}
set_option maxRecDepth 100000 in
set_option maxHeartbeats 4000000 in
theorem r05_Starts_w {fu : Nat} {a0 : List (Bool × (List (Int × Int × Int)))} {v1 : Value} {r : List Int} (hv1 : SlD (cP cB (cL (cP cU8 (cP cU8 cI64)))) H a0 v1) (hd : r05_Starts fu a0 = some r) :
    Tri Tryz.prog 30 [v1] H O (fun v H' O' => (∃ v2 : Value, v2 = v ∧ SlD cI64 H' r v2) ∧ O = O') := by
 intro w hs
 refine wp_of Tryz.func30 rfl rfl rfl ?_ hs
 clear hs w
 unfold r05_Starts at hd
 refine Wp.sr <| Seg.op (OpT.assign rfl) rfl <| Seg.nilT <| Wp.sr <| Seg.alloc (cs := (List.replicate 257 (.bool false)).toArray) ti91 rfl rfl fun B2 => ?_
 have hq1 : LayL cB H (List.replicate 257 false : List Bool) ((List.replicate 257 (.bool false)).toArray).toList := LayL.repl rfl 257
 refine Seg.nilT <| Wp.seq ?_
 obtain ⟨x1, hx1, hd⟩ := bnd_some hd
 refine Wp.region ?_
 obtain ⟨_, rfl, hc1, hc1_⟩ := LayL.get hq1 (idx_some hx1).2
 have hn1 := LayL.lenA hq1 (szRep 257 _)
 refine Seg.op (OpT.ixArr (off' := 0 * 1) u91 ti4 rfl rfl (by have := idx_bd hx1; simp only [cB, cI64, cU8] at hn1; omega) (by simp)) rfl ?_
 refine Seg.stA (q := 0) (y := true) (i := 0) hq1 (szRep 257 _) (idx_bd hx1) rfl rfl rfl ti4 rfl (rfl) (fun cs1 hq2 => ?_)
 refine Seg.nilT <| Wp.seq <| Wp.sr <| Seg.op (OpT.move rfl) rfl ?_
 have hb1 := hv1.le
 refine Seg.op (OpT.len u22 rfl hv1.sl) rfl <| Seg.op (OpT.move rfl) rfl <| Seg.nilT <| Wp.block <| Wp.loopF (fun m LL HH OO => ∃ (l1 : List Bool), ∃ (k1 : Nat), ∃ (cs2 : Array Value), [(3, (ptr B2 0)), (11, v1), (12, (.int .i64 (a0.length:Int))), (13, (.int .i64 (k1:Int)))] = LL ∧ .blk B2 (.cells cs2 91 (0, 0)) :: O = OO ∧ loopK m (fun p nx => r05_Starts_b1 fu a0 p.1 p.2 nx) (l1, k1) = some r ∧ LayL cB HH l1 cs2.toList ∧ cs2.size = 257) fu ⟨((List.replicate 257 false : List Bool).set 0 true), 0, cs1, rfl, rfl, hd, ⟨hq2.1, hq2.2⟩⟩ (Sub.of rfl) ?_
 intro m1 L1 H1 O1 hl1 hI1
 obtain ⟨l1, k1, cs2, rfl, rfl, hd, hq3⟩ := hI1
 replace hd := loopK_some hd; obtain ⟨m2, rfl, hd⟩ := hd
 obtain ⟨nx1, hn2⟩ : ∃ f, f = loopK m2 (fun p nx => r05_Starts_b1 fu a0 p.1 p.2 nx) := ⟨_, rfl⟩
 rw [← hn2] at hd
 replace hd : r05_Starts_b1 fu a0 l1 k1 nx1 = some r := hd
 unfold r05_Starts_b1 at hd
 refine Wp.sr <| Seg.op (OpT.lss rfl rfl) rfl <| Seg.nilT <| Wp.seq ?_
 refine Wp.cond (b := decide ((k1:Int) < (a0.length:Int))) rfl (fun hb2 => ?_) (fun hb2 => ?_)
 ·
  replace hd := brT hb2 hd
  replace hb2 := of_decide_eq_true hb2
  refine Wp.skip <| At.then_n <| Wp.seq <| Wp.block <| Wp.seq ?_
  obtain ⟨x2, hx2, hd⟩ := bnd_some hd
  have hx2_ := idx_bd hx2
  refine Wp.region ?_
  obtain ⟨_, ⟨_, _, rfl, rfl, ⟨v3, rfl, hv2⟩⟩, hc2⟩ := SlD.get (hv1.mono hl1) hx2
  refine Seg.op (OpT.ixSl u22 ti43 rfl (hv1.mono hl1).sl rfl (idx_bd hx2)) rfl <| Seg.op (OpT.ldHA (vs := [(.bool x2.1), v3]) u43 rfl ti43 rfl rfl (fun j u hj => (hc2 j u hj))) rfl <| Seg.alloc (cs := #[(.bool false), (.slice none 0 0)]) ti43 rfl rfl fun B3 => Seg.stBlkW (i := 0) (cs' := #[(.bool x2.1), v3]) rfl rfl ti43 rfl rfl (onesA (ones_cons rfl (ones_cons hv2.one (ones_nil)))) rfl ?_
  refine Seg.own (O := .blk B3 (.cells #[(.bool x2.1), v3] 43 (0, 0)) :: .blk B2 (.cells cs2 91 (0, 0)) :: O) ?_ rfl
  refine Seg.nilT <| Wp.sr <| Seg.op (OpT.fld (o' := 1) fl43_1 rfl rfl) rfl <| Seg.op (OpT.ldBlk (i := 0) (v := v3) u41 rfl rfl rfl rfl) rfl ?_
  have hb3 := hv2.le
  refine Seg.op (OpT.len u41 rfl hv2.sl) rfl <| Seg.op (OpT.move rfl) rfl <| Seg.nilT <| Wp.block <| Wp.loopF (fun m LL HH OO => ∃ (l2 : List Bool), ∃ (k2 : Nat), ∃ (cs3 : Array Value), [(3, (ptr B2 0)), (11, v1), (12, (.int .i64 (a0.length:Int))), (13, (.int .i64 (k1:Int))), (18, v3), (19, (.int .i64 (x2.2.length:Int))), (20, (.int .i64 (k2:Int)))] = LL ∧ .blk B3 (.cells #[(.bool x2.1), v3] 43 (0, 0)) :: .blk B2 (.cells cs3 91 (0, 0)) :: O = OO ∧ loopK m (fun p nx => r05_Starts_b2 fu k1 nx1 x2 p.1 p.2 nx) (l2, k2) = some r ∧ LayL cB HH l2 cs3.toList ∧ cs3.size = 257) fu ⟨l1, 0, cs2, rfl, rfl, hd, ⟨hq3.1, hq3.2⟩⟩ (Sub.of rfl) ?_
  intro m3 L2 H2 O2 hl2 hI2
  obtain ⟨l2, k2, cs3, rfl, rfl, hd, hq4⟩ := hI2
  replace hd := loopK_some hd; obtain ⟨m4, rfl, hd⟩ := hd
  obtain ⟨nx2, hn3⟩ : ∃ f, f = loopK m4 (fun p nx => r05_Starts_b2 fu k1 nx1 x2 p.1 p.2 nx) := ⟨_, rfl⟩
  rw [← hn3] at hd
  replace hd : r05_Starts_b2 fu k1 nx1 x2 l2 k2 nx2 = some r := hd
  unfold r05_Starts_b2 at hd
  refine Wp.sr <| Seg.op (OpT.lss rfl rfl) rfl <| Seg.nilT <| Wp.seq ?_
  refine Wp.cond (b := decide ((k2:Int) < (x2.2.length:Int))) rfl (fun hb4 => ?_) (fun hb4 => ?_)
  ·
   replace hd := brT hb4 hd
   replace hb4 := of_decide_eq_true hb4
   refine Wp.skip <| At.then_n <| Wp.seq <| Wp.block <| Wp.seq ?_
   obtain ⟨x3, hx3, hd⟩ := bnd_some hd
   have hx3_ := idx_bd hx3
   refine Wp.region ?_
   obtain ⟨_, ⟨_, _, rfl, ⟨rfl, hr1, hr2⟩, ⟨_, _, rfl, ⟨rfl, hr3, hr4⟩, rfl⟩⟩, hc3⟩ := SlD.get (hv2.mono hl2) hx3
   refine Seg.op (OpT.ixSl u41 ti46 rfl (hv2.mono hl2).sl rfl (idx_bd hx3)) rfl <| Seg.op (OpT.ldHA (vs := [(.int .u8 x3.1), (.int .u8 x3.2.1), (.int .i64 x3.2.2)]) u46 rfl ti46 rfl rfl (fun j u hj => (hc3 j u hj))) rfl <| Seg.alloc (cs := #[(.int .u8 0), (.int .u8 0), (.int .i64 0)]) ti46 rfl rfl fun B4 => Seg.stBlkW (i := 0) (cs' := #[(.int .u8 x3.1), (.int .u8 x3.2.1), (.int .i64 x3.2.2)]) rfl rfl ti46 rfl rfl (onesA (ones_cons rfl (ones_cons rfl (ones_cons rfl (ones_nil))))) rfl ?_
   refine Seg.own (O := .blk B4 (.cells #[(.int .u8 x3.1), (.int .u8 x3.2.1), (.int .i64 x3.2.2)] 46 (0, 0)) :: .blk B3 (.cells #[(.bool x2.1), v3] 43 (0, 0)) :: .blk B2 (.cells cs3 91 (0, 0)) :: O) ?_ rfl
   refine Seg.nilT <| Wp.seq ?_
   obtain ⟨x4, hx4, hd⟩ := bnd_some hd
   refine Wp.region <| Seg.op (OpT.fld (o' := 0) fl46_0 rfl rfl) rfl <| Seg.op (OpT.ldBlk (i := 0) (v := (.int .u8 x3.1)) u5 rfl rfl rfl rfl) rfl <| Seg.op (OpT.conv u5 u3 rfl (fits64 (by omega))) rfl ?_
   obtain ⟨_, rfl, hc4, hc4_⟩ := LayL.get hq4.1 (idx_some hx4).2
   have hn4 := LayL.lenA hq4.1 hq4.2
   refine Seg.op (OpT.ixArr (off' := x3.1.toNat * 1) u91 ti4 rfl rfl (by have := idx_bd hx4; simp only [cB, cI64, cU8] at hn4; omega) (by simp)) rfl ?_
   refine Seg.stA (q := 2) (y := true) (i := x3.1) hq4.1 hq4.2 (idx_bd hx4) rfl rfl rfl ti4 rfl (rfl) (fun cs4 hq5 => ?_)
   refine Seg.nilT ?_
   obtain ⟨ha1, hd⟩ := chk_some hd
   obtain ⟨x5, hx5, hd⟩ := bnd_some hd
   refine Wp.region <| Seg.op (OpT.fld (o' := 1) fl46_1 rfl rfl) rfl <| Seg.op (OpT.ldBlk (i := 0) (v := (.int .u8 x3.2.1)) u5 rfl rfl rfl rfl) rfl <| Seg.op (OpT.conv u5 u3 rfl (fits64 (by omega))) rfl <| Seg.op (OpT.add rfl rfl (fits64 ha1)) rfl ?_
   obtain ⟨_, rfl, hc5, hc5_⟩ := LayL.get hq5.1 (idx_some hx5).2
   have hn5 := LayL.lenA hq5.1 hq5.2
   refine Seg.op (OpT.ixArr (off' := ((x3.2.1 + 1).toNat) * 1) u91 ti4 rfl rfl (by have := idx_bd hx5; simp only [cB, cI64, cU8] at hn5; omega) (by simp)) rfl ?_
   refine Seg.stA (q := 2) (y := true) (i := (x3.2.1 + 1)) hq5.1 hq5.2 (idx_bd hx5) rfl rfl rfl ti4 rfl (rfl) (fun cs5 hq6 => ?_)
   refine Seg.nil <| At.blk_n <| At.then_n <| Wp.region <| Seg.op (OpT.add rfl rfl (fits64 (by omega))) rfl <| Seg.op (OpT.move rfl) rfl <| Seg.nil <| At.permK [1, 2] 3 rfl rfl rfl ?_
   refine At.nextF (Hp.le.refl _) ⟨((l2.set x3.1.toNat true).set ((x3.2.1 + 1).toNat) true), (k2 + 1), cs5, rfl, rfl, (by rw [← hn3]; exact hd), ⟨hq6.1, hq6.2⟩⟩ (Sub.of rfl)
  replace hd := brF hb4 hd
  replace hb4 := of_decide_eq_false hb4
  refine Wp.exit <| At.then_x <| At.then_x <| At.blk_hit <| At.blk_n <| At.then_n <| Wp.region <| Seg.op (OpT.add rfl rfl (fits64 (by omega))) rfl ?_
  refine Seg.op (OpT.move rfl) rfl <| Seg.nil <| At.permK [1] 2 rfl rfl rfl ?_
  refine At.nextF hl2 ⟨l2, (k1 + 1), cs3, rfl, rfl, (by rw [← hn2]; exact hd), ⟨hq4.1, hq4.2⟩⟩ (Sub.of rfl)
 replace hd := brF hb2 hd
 replace hb2 := of_decide_eq_false hb2
 refine Wp.exit <| At.then_x <| At.then_x <| At.blk_hit <| At.then_n <| Wp.sr <| Seg.op (OpT.assign rfl) rfl <| Seg.nilT ?_
 refine Wp.seq <| Wp.sr <| Seg.op (OpT.assign rfl) rfl <| Seg.nilT <| Wp.block <| Wp.nilRow 3 1 <| Wp.loopF (fun m LL HH OO => ∃ (l3 : List Int), ∃ (k3 : Nat), ∃ (v4 : Value), ∃ (xs1 : List Value), [(3, (ptr B2 0)), (8, v4), (9, (.int .i64 (k3:Int)))] = LL ∧ .row v4 3 1 l3.length xs1 :: .blk B2 (.cells cs2 91 (0, 0)) :: O = OO ∧ loopK m (fun p nx => r05_Starts_b3 fu l1 p.1 p.2 nx) (l3, k3) = some r ∧ LayL cI64 HH l3 xs1) fu ⟨([] : List Int), 0, (.slice none 0 0), [], rfl, rfl, hd, (LayL.nil (c := cI64) (H := H1))⟩ (Sub.of rfl) ?_
 intro m5 L3 H3 O3 hl3 hI3
 obtain ⟨l3, k3, v4, xs1, rfl, rfl, hd, hq7⟩ := hI3
 replace hd := loopK_some hd; obtain ⟨m6, rfl, hd⟩ := hd
 obtain ⟨nx3, hn6⟩ : ∃ f, f = loopK m6 (fun p nx => r05_Starts_b3 fu l1 p.1 p.2 nx) := ⟨_, rfl⟩
 rw [← hn6] at hd
 replace hd : r05_Starts_b3 fu l1 l3 k3 nx3 = some r := hd
 unfold r05_Starts_b3 at hd
 refine Wp.seq <| Wp.sr <| Seg.op (OpT.move rfl) rfl <| Seg.op (OpT.lss rfl rfl) rfl <| Seg.nilT ?_
 refine Wp.cond (b := decide ((k3:Int) < 256)) rfl (fun hb5 => ?_) (fun hb5 => ?_)
 ·
  replace hd := brT hb5 hd
  replace hb5 := of_decide_eq_true hb5
  refine Wp.skip <| At.then_n <| Wp.seq <| Wp.block <| Wp.seq ?_
  obtain ⟨x6, hx6, hd⟩ := bnd_some hd
  refine Wp.region <| Seg.op (OpT.move rfl) rfl ?_
  obtain ⟨_, rfl, hc6, hc6_⟩ := LayL.get (hq3.1.mono hl3) (idx_some hx6).2
  have hn7 := LayL.lenA (hq3.1.mono hl3) hq3.2
  refine Seg.op (OpT.ixArr (off' := k3 * 1) u91 ti4 rfl rfl (by have := idx_bd hx6; simp only [cB, cI64, cU8] at hn7; omega) (by simp)) rfl <| Seg.op (OpT.ldBlk (i := 1) (v := (.bool x6)) u4 rfl rfl rfl (by have := hc6 0 _ rfl; simpa [cB, cI64, cU8] using this)) rfl <| Seg.nilT ?_
  refine Wp.cond (b := x6) rfl (fun hb6 => ?_) (fun hb6 => ?_)
  ·
   replace hd := brT hb6 hd
   obtain ⟨ha2, hd⟩ := chk_some hd
   refine Wp.region <| Seg.op (OpT.move rfl) rfl <| Seg.op (OpT.move rfl) rfl <| Seg.buildD1 (c := cI64) (y := (k3:Int)) (cs := [(.int .i64 (k3:Int))]) u55 ti3 rfl rfl rfl rfl (rfl) rfl fun v5 xs2 hq8 => Seg.appD (i := 1) (j := 0) hq7 hq8 u55 ti3 rfl (by decide) rfl rfl rfl rfl (by decide) ha2 rfl fun v6 xs3 hq9 => Seg.drop (i := 0) <| Seg.op (OpT.assign rfl) rfl <| Seg.nil ?_
   refine At.blk_n <| At.then_n <| Wp.region <| Seg.op (OpT.move rfl) rfl <| Seg.op (OpT.add rfl rfl (fits64 (by omega))) rfl <| Seg.op (OpT.assign rfl) rfl <| Seg.nil ?_
   refine At.nextF (Hp.le.refl _) ⟨(l3 ++ ([(k3:Int)] : List Int)), (k3 + 1), v6, xs3, rfl, rfl, (by rw [← hn6]; exact hd), hq9⟩ (Sub.of rfl)
  replace hd := brF hb6 hd
  refine Wp.skip <| At.blk_n <| At.then_n <| Wp.region <| Seg.op (OpT.move rfl) rfl <| Seg.op (OpT.add rfl rfl (fits64 (by omega))) rfl <| Seg.op (OpT.assign rfl) rfl <| Seg.nil ?_
  refine At.nextF (Hp.le.refl _) ⟨l3, (k3 + 1), v4, xs1, rfl, rfl, (by rw [← hn6]; exact hd), hq7⟩ (Sub.of rfl)
 replace hd := brF hb5 hd
 replace hb5 := of_decide_eq_false hb5
 refine Wp.exit <| At.then_x <| At.then_x <| At.blk_hit <| At.then_n <| Wp.sr <| Seg.op (OpT.move rfl) rfl <| Seg.op (OpT.assign rfl) rfl ?_
 refine Seg.nilT <| Wp.ret ?_
 refine At.rowLe (i := 0) rfl fun hb7 => ?_
 refine At.freeze (i := 0) rfl fun H4 hl4 hs1 => ?_
 have hv3 := SlD.of (c := cI64) hs1 rfl (hq7.mono hl4) hb7
 obtain rfl := Option.some.inj hd
 exact At.res1 rfl (RV.tmp (v := v4) rfl) (fun w hs => ⟨_, _, _, rfl, ((hl1.trans hl3).trans hl4), (hs.dropN 1), ⟨⟨v4, rfl, hv3⟩, rfl⟩⟩)
set_option maxRecDepth 100000 in
set_option maxHeartbeats 4000000 in
theorem r05_alive_w {fu : Nat} {a0 : List (Bool × (List (Int × Int × Int)))} {v1 : Value} {r : List Bool} (hv1 : SlD (cP cB (cL (cP cU8 (cP cU8 cI64)))) H a0 v1) (hd : r05_alive fu a0 = some r) :
    Tri Tryz.prog 27 [v1] H O (fun v H' O' => (∃ v2 : Value, v2 = v ∧ SlD cB H' r v2) ∧ O = O') := by
 intro w hs
 refine wp_of Tryz.func27 rfl rfl rfl ?_ hs
 clear hs w
 unfold r05_alive at hd
 refine Wp.sr <| Seg.op (OpT.assign rfl) rfl <| Seg.nilT <| Wp.seq ?_
 obtain ⟨ha1, hd⟩ := chk_some hd
 refine Wp.region <| Seg.op (OpT.move rfl) rfl ?_
 have hb1 := hv1.le
 refine Seg.op (OpT.len u22 rfl hv1.sl) rfl <| Seg.makeD (c := cB) (z := false) (m := a0.length) u52 ti4 rfl rfl ha1 (rfl) rfl rfl rfl fun v3 xs1 hq1 => Seg.op (OpT.assign rfl) rfl <| Seg.nilT <| Wp.seq <| Wp.sr <| Seg.op (OpT.move rfl) rfl ?_
 have hb2 := hv1.le
 refine Seg.op (OpT.len u22 rfl hv1.sl) rfl <| Seg.op (OpT.move rfl) rfl <| Seg.nilT <| Wp.block <| Wp.loopF (fun m LL HH OO => ∃ (l1 : List Bool), ∃ (k1 : Nat), ∃ (v4 : Value), ∃ (xs2 : List Value), [(0, v1), (3, v4), (12, (.int .i64 (a0.length:Int))), (13, (.int .i64 (k1:Int)))] = LL ∧ .row v4 4 1 l1.length xs2 :: O = OO ∧ loopK m (fun p nx => r05_alive_b1 fu a0 p.1 p.2 nx) (l1, k1) = some r ∧ LayL cB HH l1 xs2) fu ⟨(List.replicate a0.length false : List Bool), 0, v3, xs1, rfl, rfl, hd, hq1⟩ (Sub.of rfl) ?_
 intro m1 L1 H1 O1 hl1 hI1
 obtain ⟨l1, k1, v4, xs2, rfl, rfl, hd, hq2⟩ := hI1
 replace hd := loopK_some hd; obtain ⟨m2, rfl, hd⟩ := hd
 obtain ⟨nx1, hn1⟩ : ∃ f, f = loopK m2 (fun p nx => r05_alive_b1 fu a0 p.1 p.2 nx) := ⟨_, rfl⟩
 rw [← hn1] at hd
 replace hd : r05_alive_b1 fu a0 l1 k1 nx1 = some r := hd
 unfold r05_alive_b1 at hd
 refine Wp.sr <| Seg.op (OpT.lss rfl rfl) rfl <| Seg.nilT <| Wp.seq ?_
 refine Wp.cond (b := decide ((k1:Int) < (a0.length:Int))) rfl (fun hb3 => ?_) (fun hb3 => ?_)
 ·
  replace hd := brT hb3 hd
  replace hb3 := of_decide_eq_true hb3
  refine Wp.skip <| At.then_n <| Wp.seq <| Wp.block <| Wp.sr <| Seg.op (OpT.move rfl) rfl ?_
  have hb4 := hv1.le
  refine Seg.op (OpT.len u22 rfl (hv1.mono hl1).sl) rfl <| Seg.op (OpT.move rfl) rfl <| Seg.nilT <| Wp.block <| Wp.loopF (fun m LL HH OO => ∃ (l2 : List Bool), ∃ (k2 : Nat), ∃ (v5 : Value), ∃ (xs3 : List Value), [(0, v1), (3, v5), (12, (.int .i64 (a0.length:Int))), (13, (.int .i64 (k1:Int))), (15, v1), (16, (.int .i64 (a0.length:Int))), (17, (.int .i64 (k2:Int)))] = LL ∧ .row v5 4 1 l2.length xs3 :: O = OO ∧ loopK m (fun p nx => r05_alive_b2 fu a0 k1 nx1 p.1 p.2 nx) (l2, k2) = some r ∧ LayL cB HH l2 xs3) fu ⟨l1, 0, v4, xs2, rfl, rfl, hd, hq2⟩ (Sub.of rfl) ?_
  intro m3 L2 H2 O2 hl2 hI2
  obtain ⟨l2, k2, v5, xs3, rfl, rfl, hd, hq3⟩ := hI2
  replace hd := loopK_some hd; obtain ⟨m4, rfl, hd⟩ := hd
  obtain ⟨nx2, hn2⟩ : ∃ f, f = loopK m4 (fun p nx => r05_alive_b2 fu a0 k1 nx1 p.1 p.2 nx) := ⟨_, rfl⟩
  rw [← hn2] at hd
  replace hd : r05_alive_b2 fu a0 k1 nx1 l2 k2 nx2 = some r := hd
  unfold r05_alive_b2 at hd
  refine Wp.sr <| Seg.op (OpT.lss rfl rfl) rfl <| Seg.nilT <| Wp.seq ?_
  refine Wp.cond (b := decide ((k2:Int) < (a0.length:Int))) rfl (fun hb5 => ?_) (fun hb5 => ?_)
  ·
   replace hd := brT hb5 hd
   replace hb5 := of_decide_eq_true hb5
   refine Wp.skip <| At.then_n <| Wp.seq <| Wp.block <| Wp.seq ?_
   obtain ⟨x1, hx1, hd⟩ := bnd_some hd
   have hx1_ := idx_bd hx1
   refine Wp.region <| Seg.op (OpT.move rfl) rfl ?_
   obtain ⟨_, ⟨_, _, rfl, rfl, ⟨v6, rfl, hv2⟩⟩, hc1⟩ := SlD.get (hv1.mono (hl1.trans hl2)) hx1
   refine Seg.op (OpT.ixSl u22 ti43 rfl (hv1.mono (hl1.trans hl2)).sl rfl (idx_bd hx1)) rfl <| Seg.op (OpT.ldHA (vs := [(.bool x1.1), v6]) u43 rfl ti43 rfl rfl (fun j u hj => (hc1 j u hj))) rfl <| Seg.alloc (cs := #[(.bool false), (.slice none 0 0)]) ti43 rfl rfl fun B2 => Seg.op (OpT.assign rfl) rfl <| Seg.stBlkW (i := 0) (cs' := #[(.bool x1.1), v6]) rfl rfl ti43 rfl rfl (onesA (ones_cons rfl (ones_cons hv2.one (ones_nil)))) rfl ?_
   refine Seg.own (O := .blk B2 (.cells #[(.bool x1.1), v6] 43 (0, 0)) :: .row v5 4 1 l2.length xs3 :: O) ?_ rfl
   refine Seg.nilT <| Wp.seq ?_
   obtain ⟨x2, hx2, hd⟩ := bnd_some hd
   have hx2_ := idx_bd hx2
   rcases Bool.eq_false_or_eq_true (x2) with hg1 | hg1
   ·
    replace hd := brT hg1 hd
    obtain ⟨x3, hx3, hd⟩ := bnd_some hd
    have hx3_ := idx_bd hx3
    refine Wp.region <| Seg.op (OpT.move rfl) rfl <| Seg.op (OpT.move rfl) rfl <| Seg.op (OpT.move rfl) rfl <| Seg.op (OpT.move rfl) rfl ?_
    obtain ⟨_, rfl, hc2, hc2_⟩ := LayL.get hq3 (idx_some hx2).2
    refine Seg.op (OpT.ixRow (j := 1) u52 ti4 rfl rfl rfl (idx_bd hx2)) rfl <| Seg.op (OpT.asB (b := x2) (c := true) (OpT.ldRow (i := 1) (k := k2 * 1 + 0) u4 rfl rfl rfl (hc2 0 _ rfl)) hg1) rfl <| Seg.op (OpT.move rfl) rfl <| Seg.skipG rfl rfl rfl rfl <| Seg.skipG rfl rfl rfl rfl <| Seg.op (OpT.pickT rfl rfl) rfl ?_
    obtain ⟨_, rfl, hc3, hc3_⟩ := LayL.get hq3 (idx_some hx3).2
    refine Seg.op (OpT.ixRow (j := 1) u52 ti4 rfl rfl rfl (idx_bd hx3)) rfl ?_
    refine Seg.stD (q := 1) (off := 0) (vs := [(.bool true)]) (y := true) (cs := [(.bool x3)]) hq3 hx3 hc3_ rfl rfl rfl ti4 rfl rfl (ones_cons rfl (ones_nil)) rfl (rfl) rfl (fun xs4 hq4 => ?_)
    refine Seg.nilT <| Wp.sr <| Seg.op (OpT.fld (o' := 1) fl43_1 rfl rfl) rfl <| Seg.op (OpT.ldBlk (i := 0) (v := v6) u41 rfl rfl rfl rfl) rfl ?_
    have hb6 := hv2.le
    refine Seg.op (OpT.len u41 rfl hv2.sl) rfl <| Seg.op (OpT.move rfl) rfl <| Seg.nilT <| Wp.block <| Wp.loopF (fun m LL HH OO => ∃ (l3 : List Bool), ∃ (k3 : Nat), ∃ (v7 : Value), ∃ (xs5 : List Value), [(0, v1), (3, v7), (4, (.int .i64 (k2:Int))), (12, (.int .i64 (a0.length:Int))), (13, (.int .i64 (k1:Int))), (15, v1), (16, (.int .i64 (a0.length:Int))), (17, (.int .i64 (k2:Int))), (34, v6), (35, (.int .i64 (x1.2.length:Int))), (36, (.int .i64 (k3:Int)))] = LL ∧ .blk B2 (.cells #[(.bool x1.1), v6] 43 (0, 0)) :: .row v7 4 1 l3.length xs5 :: O = OO ∧ loopK m (fun p nx => r05_alive_b3 fu k2 nx2 x1 p.1 p.2 nx) (l3, k3) = some r ∧ LayL cB HH l3 xs5) fu ⟨(l2.set k2 true), 0, v5, xs4, rfl, rfl, hd, hq4⟩ (Sub.of rfl) ?_
    intro m5 L3 H3 O3 hl3 hI3
    obtain ⟨l3, k3, v7, xs5, rfl, rfl, hd, hq5⟩ := hI3
    replace hd := loopK_some hd; obtain ⟨m6, rfl, hd⟩ := hd
    obtain ⟨nx3, hn3⟩ : ∃ f, f = loopK m6 (fun p nx => r05_alive_b3 fu k2 nx2 x1 p.1 p.2 nx) := ⟨_, rfl⟩
    rw [← hn3] at hd
    replace hd : r05_alive_b3 fu k2 nx2 x1 l3 k3 nx3 = some r := hd
    unfold r05_alive_b3 at hd
    refine Wp.sr <| Seg.op (OpT.lss rfl rfl) rfl <| Seg.nilT <| Wp.seq ?_
    refine Wp.cond (b := decide ((k3:Int) < (x1.2.length:Int))) rfl (fun hb7 => ?_) (fun hb7 => ?_)
    ·
     replace hd := brT hb7 hd
     replace hb7 := of_decide_eq_true hb7
     refine Wp.skip <| At.then_n <| Wp.seq <| Wp.block <| Wp.seq ?_
     obtain ⟨x4, hx4, hd⟩ := bnd_some hd
     have hx4_ := idx_bd hx4
     refine Wp.region ?_
     obtain ⟨_, ⟨_, _, rfl, ⟨rfl, hr1, hr2⟩, ⟨_, _, rfl, ⟨rfl, hr3, hr4⟩, rfl⟩⟩, hc4⟩ := SlD.get (hv2.mono hl3) hx4
     refine Seg.op (OpT.ixSl u41 ti46 rfl (hv2.mono hl3).sl rfl (idx_bd hx4)) rfl <| Seg.op (OpT.ldHA (vs := [(.int .u8 x4.1), (.int .u8 x4.2.1), (.int .i64 x4.2.2)]) u46 rfl ti46 rfl rfl (fun j u hj => (hc4 j u hj))) rfl <| Seg.alloc (cs := #[(.int .u8 0), (.int .u8 0), (.int .i64 0)]) ti46 rfl rfl fun B3 => Seg.stBlkW (i := 0) (cs' := #[(.int .u8 x4.1), (.int .u8 x4.2.1), (.int .i64 x4.2.2)]) rfl rfl ti46 rfl rfl (onesA (ones_cons rfl (ones_cons rfl (ones_cons rfl (ones_nil))))) rfl ?_
     refine Seg.own (O := .blk B3 (.cells #[(.int .u8 x4.1), (.int .u8 x4.2.1), (.int .i64 x4.2.2)] 46 (0, 0)) :: .blk B2 (.cells #[(.bool x1.1), v6] 43 (0, 0)) :: .row v7 4 1 l3.length xs5 :: O) ?_ rfl
     refine Seg.nilT ?_
     obtain ⟨x5, hx5, hd⟩ := bnd_some hd
     have hx5_ := idx_bd hx5
     rcases Bool.eq_false_or_eq_true (x5) with hg2 | hg2
     ·
      replace hd := brT hg2 hd
      obtain ⟨x6, hx6, hd⟩ := bnd_some hd
      have hx6_ := idx_bd hx6
      refine Wp.region <| Seg.op (OpT.move rfl) rfl <| Seg.op (OpT.move rfl) rfl <| Seg.op (OpT.move rfl) rfl <| Seg.op (OpT.move rfl) rfl ?_
      obtain ⟨_, rfl, hc5, hc5_⟩ := LayL.get hq5 (idx_some hx5).2
      refine Seg.op (OpT.ixRow (j := 2) u52 ti4 rfl rfl rfl (idx_bd hx5)) rfl <| Seg.op (OpT.asB (b := x5) (c := true) (OpT.ldRow (i := 2) (k := k2 * 1 + 0) u4 rfl rfl rfl (hc5 0 _ rfl)) hg2) rfl <| Seg.op (OpT.move rfl) rfl <| Seg.skipG rfl rfl rfl rfl <| Seg.skipG rfl rfl rfl rfl <| Seg.skipG rfl rfl rfl rfl <| Seg.skipG rfl rfl rfl rfl <| Seg.skipG rfl rfl rfl rfl ?_
      refine Seg.op (OpT.pickT rfl rfl) rfl ?_
      obtain ⟨_, rfl, hc6, hc6_⟩ := LayL.get hq5 (idx_some hx6).2
      refine Seg.op (OpT.ixRow (j := 2) u52 ti4 rfl rfl rfl (idx_bd hx6)) rfl ?_
      refine Seg.stD (q := 2) (off := 0) (vs := [(.bool true)]) (y := true) (cs := [(.bool x6)]) hq5 hx6 hc6_ rfl rfl rfl ti4 rfl rfl (ones_cons rfl (ones_nil)) rfl (rfl) rfl (fun xs6 hq6 => ?_)
      refine Seg.nil <| At.blk_n <| At.then_n <| Wp.region <| Seg.op (OpT.add rfl rfl (fits64 (by omega))) rfl <| Seg.op (OpT.move rfl) rfl <| Seg.nil <| At.permK [1, 2] 3 rfl rfl rfl ?_
      refine At.nextF (Hp.le.refl _) ⟨(l3.set k2 true), (k3 + 1), v7, xs6, rfl, rfl, (by rw [← hn3]; exact hd), hq6⟩ (Sub.of rfl)
     replace hd := brF hg2 hd
     obtain ⟨x7, hx7, hd⟩ := bnd_some hd
     have hx7_ := idx_bd hx7
     obtain ⟨x6, hx6, hd⟩ := bnd_some hd
     have hx6_ := idx_bd hx6
     refine Wp.region <| Seg.op (OpT.move rfl) rfl <| Seg.op (OpT.move rfl) rfl <| Seg.op (OpT.move rfl) rfl <| Seg.op (OpT.move rfl) rfl ?_
     obtain ⟨_, rfl, hc5, hc5_⟩ := LayL.get hq5 (idx_some hx5).2
     refine Seg.op (OpT.ixRow (j := 2) u52 ti4 rfl rfl rfl (idx_bd hx5)) rfl <| Seg.op (OpT.asB (b := x5) (c := false) (OpT.ldRow (i := 2) (k := k2 * 1 + 0) u4 rfl rfl rfl (hc5 0 _ rfl)) hg2) rfl <| Seg.op (OpT.move rfl) rfl <| Seg.opG rfl rfl (OpT.move rfl) rfl <| Seg.opG rfl rfl (OpT.fld (o' := 2) fl46_2 rfl rfl) rfl <| Seg.opG rfl rfl (OpT.ldBlk (i := 0) (v := (.int .i64 x4.2.2)) u3 rfl rfl rfl rfl) rfl ?_
     obtain ⟨_, rfl, hc7, hc7_⟩ := LayL.get hq5 (idx_some hx7).2
     refine Seg.opG rfl rfl (OpT.ixRow (j := 2) u52 ti4 rfl rfl rfl (idx_bd hx7)) rfl <| Seg.opG rfl rfl (OpT.ldRow (i := 2) (k := x4.2.2.toNat * 1 + 0) u4 rfl rfl rfl (hc7 0 _ rfl)) rfl <| Seg.op (OpT.pickF rfl rfl) rfl ?_
     obtain ⟨_, rfl, hc6, hc6_⟩ := LayL.get hq5 (idx_some hx6).2
     refine Seg.op (OpT.ixRow (j := 2) u52 ti4 rfl rfl rfl (idx_bd hx6)) rfl ?_
     refine Seg.stD (q := 2) (off := 0) (vs := [(.bool x7)]) (y := x7) (cs := [(.bool x6)]) hq5 hx6 hc6_ rfl rfl rfl ti4 rfl rfl (ones_cons rfl (ones_nil)) rfl (rfl) rfl (fun xs6 hq6 => ?_)
     refine Seg.nil <| At.blk_n <| At.then_n <| Wp.region <| Seg.op (OpT.add rfl rfl (fits64 (by omega))) rfl <| Seg.op (OpT.move rfl) rfl <| Seg.nil <| At.permK [1, 2] 3 rfl rfl rfl ?_
     refine At.nextF (Hp.le.refl _) ⟨(l3.set k2 x7), (k3 + 1), v7, xs6, rfl, rfl, (by rw [← hn3]; exact hd), hq6⟩ (Sub.of rfl)
    replace hd := brF hb7 hd
    replace hb7 := of_decide_eq_false hb7
    refine Wp.exit <| At.then_x <| At.then_x <| At.blk_hit <| At.blk_n <| At.then_n <| Wp.region <| Seg.op (OpT.add rfl rfl (fits64 (by omega))) rfl ?_
    refine Seg.op (OpT.move rfl) rfl <| Seg.nil <| At.permK [1] 2 rfl rfl rfl ?_
    refine At.nextF hl3 ⟨l3, (k2 + 1), v7, xs5, rfl, rfl, (by rw [← hn2]; exact hd), hq5⟩ (Sub.of rfl)
   replace hd := brF hg1 hd
   obtain ⟨x3, hx3, hd⟩ := bnd_some hd
   have hx3_ := idx_bd hx3
   refine Wp.region <| Seg.op (OpT.move rfl) rfl <| Seg.op (OpT.move rfl) rfl <| Seg.op (OpT.move rfl) rfl <| Seg.op (OpT.move rfl) rfl ?_
   obtain ⟨_, rfl, hc2, hc2_⟩ := LayL.get hq3 (idx_some hx2).2
   refine Seg.op (OpT.ixRow (j := 1) u52 ti4 rfl rfl rfl (idx_bd hx2)) rfl <| Seg.op (OpT.asB (b := x2) (c := false) (OpT.ldRow (i := 1) (k := k2 * 1 + 0) u4 rfl rfl rfl (hc2 0 _ rfl)) hg1) rfl <| Seg.op (OpT.move rfl) rfl <| Seg.opG rfl rfl (OpT.fld (o' := 0) fl43_0 rfl rfl) rfl <| Seg.opG rfl rfl (OpT.ldBlk (i := 0) (v := (.bool x1.1)) u4 rfl rfl rfl rfl) rfl <| Seg.op (OpT.pickF rfl rfl) rfl ?_
   obtain ⟨_, rfl, hc3, hc3_⟩ := LayL.get hq3 (idx_some hx3).2
   refine Seg.op (OpT.ixRow (j := 1) u52 ti4 rfl rfl rfl (idx_bd hx3)) rfl ?_
   refine Seg.stD (q := 1) (off := 0) (vs := [(.bool x1.1)]) (y := x1.1) (cs := [(.bool x3)]) hq3 hx3 hc3_ rfl rfl rfl ti4 rfl rfl (ones_cons rfl (ones_nil)) rfl (rfl) rfl (fun xs4 hq4 => ?_)
   refine Seg.nilT <| Wp.sr <| Seg.op (OpT.fld (o' := 1) fl43_1 rfl rfl) rfl <| Seg.op (OpT.ldBlk (i := 0) (v := v6) u41 rfl rfl rfl rfl) rfl ?_
   have hb8 := hv2.le
   refine Seg.op (OpT.len u41 rfl hv2.sl) rfl <| Seg.op (OpT.move rfl) rfl <| Seg.nilT <| Wp.block <| Wp.loopF (fun m LL HH OO => ∃ (l4 : List Bool), ∃ (k4 : Nat), ∃ (v8 : Value), ∃ (xs7 : List Value), [(0, v1), (3, v8), (4, (.int .i64 (k2:Int))), (12, (.int .i64 (a0.length:Int))), (13, (.int .i64 (k1:Int))), (15, v1), (16, (.int .i64 (a0.length:Int))), (17, (.int .i64 (k2:Int))), (34, v6), (35, (.int .i64 (x1.2.length:Int))), (36, (.int .i64 (k4:Int)))] = LL ∧ .blk B2 (.cells #[(.bool x1.1), v6] 43 (0, 0)) :: .row v8 4 1 l4.length xs7 :: O = OO ∧ loopK m (fun p nx => r05_alive_b4 fu k2 nx2 x1 p.1 p.2 nx) (l4, k4) = some r ∧ LayL cB HH l4 xs7) fu ⟨(l2.set k2 x1.1), 0, v5, xs4, rfl, rfl, hd, hq4⟩ (Sub.of rfl) ?_
   intro m7 L4 H4 O4 hl4 hI4
   obtain ⟨l4, k4, v8, xs7, rfl, rfl, hd, hq7⟩ := hI4
   replace hd := loopK_some hd; obtain ⟨m8, rfl, hd⟩ := hd
   obtain ⟨nx4, hn4⟩ : ∃ f, f = loopK m8 (fun p nx => r05_alive_b4 fu k2 nx2 x1 p.1 p.2 nx) := ⟨_, rfl⟩
   rw [← hn4] at hd
   replace hd : r05_alive_b4 fu k2 nx2 x1 l4 k4 nx4 = some r := hd
   unfold r05_alive_b4 at hd
   refine Wp.sr <| Seg.op (OpT.lss rfl rfl) rfl <| Seg.nilT <| Wp.seq ?_
   refine Wp.cond (b := decide ((k4:Int) < (x1.2.length:Int))) rfl (fun hb9 => ?_) (fun hb9 => ?_)
   ·
    replace hd := brT hb9 hd
    replace hb9 := of_decide_eq_true hb9
    refine Wp.skip <| At.then_n <| Wp.seq <| Wp.block <| Wp.seq ?_
    obtain ⟨x8, hx8, hd⟩ := bnd_some hd
    have hx8_ := idx_bd hx8
    refine Wp.region ?_
    obtain ⟨_, ⟨_, _, rfl, ⟨rfl, hr5, hr6⟩, ⟨_, _, rfl, ⟨rfl, hr7, hr8⟩, rfl⟩⟩, hc8⟩ := SlD.get (hv2.mono hl4) hx8
    refine Seg.op (OpT.ixSl u41 ti46 rfl (hv2.mono hl4).sl rfl (idx_bd hx8)) rfl <| Seg.op (OpT.ldHA (vs := [(.int .u8 x8.1), (.int .u8 x8.2.1), (.int .i64 x8.2.2)]) u46 rfl ti46 rfl rfl (fun j u hj => (hc8 j u hj))) rfl <| Seg.alloc (cs := #[(.int .u8 0), (.int .u8 0), (.int .i64 0)]) ti46 rfl rfl fun B4 => Seg.stBlkW (i := 0) (cs' := #[(.int .u8 x8.1), (.int .u8 x8.2.1), (.int .i64 x8.2.2)]) rfl rfl ti46 rfl rfl (onesA (ones_cons rfl (ones_cons rfl (ones_cons rfl (ones_nil))))) rfl ?_
    refine Seg.own (O := .blk B4 (.cells #[(.int .u8 x8.1), (.int .u8 x8.2.1), (.int .i64 x8.2.2)] 46 (0, 0)) :: .blk B2 (.cells #[(.bool x1.1), v6] 43 (0, 0)) :: .row v8 4 1 l4.length xs7 :: O) ?_ rfl
    refine Seg.nilT ?_
    obtain ⟨x9, hx9, hd⟩ := bnd_some hd
    have hx9_ := idx_bd hx9
    rcases Bool.eq_false_or_eq_true (x9) with hg3 | hg3
    ·
     replace hd := brT hg3 hd
     obtain ⟨x10, hx10, hd⟩ := bnd_some hd
     have hx10_ := idx_bd hx10
     refine Wp.region <| Seg.op (OpT.move rfl) rfl <| Seg.op (OpT.move rfl) rfl <| Seg.op (OpT.move rfl) rfl <| Seg.op (OpT.move rfl) rfl ?_
     obtain ⟨_, rfl, hc9, hc9_⟩ := LayL.get hq7 (idx_some hx9).2
     refine Seg.op (OpT.ixRow (j := 2) u52 ti4 rfl rfl rfl (idx_bd hx9)) rfl <| Seg.op (OpT.asB (b := x9) (c := true) (OpT.ldRow (i := 2) (k := k2 * 1 + 0) u4 rfl rfl rfl (hc9 0 _ rfl)) hg3) rfl <| Seg.op (OpT.move rfl) rfl <| Seg.skipG rfl rfl rfl rfl <| Seg.skipG rfl rfl rfl rfl <| Seg.skipG rfl rfl rfl rfl <| Seg.skipG rfl rfl rfl rfl <| Seg.skipG rfl rfl rfl rfl ?_
     refine Seg.op (OpT.pickT rfl rfl) rfl ?_
     obtain ⟨_, rfl, hc10, hc10_⟩ := LayL.get hq7 (idx_some hx10).2
     refine Seg.op (OpT.ixRow (j := 2) u52 ti4 rfl rfl rfl (idx_bd hx10)) rfl ?_
     refine Seg.stD (q := 2) (off := 0) (vs := [(.bool true)]) (y := true) (cs := [(.bool x10)]) hq7 hx10 hc10_ rfl rfl rfl ti4 rfl rfl (ones_cons rfl (ones_nil)) rfl (rfl) rfl (fun xs8 hq8 => ?_)
     refine Seg.nil <| At.blk_n <| At.then_n <| Wp.region <| Seg.op (OpT.add rfl rfl (fits64 (by omega))) rfl <| Seg.op (OpT.move rfl) rfl <| Seg.nil <| At.permK [1, 2] 3 rfl rfl rfl ?_
     refine At.nextF (Hp.le.refl _) ⟨(l4.set k2 true), (k4 + 1), v8, xs8, rfl, rfl, (by rw [← hn4]; exact hd), hq8⟩ (Sub.of rfl)
    replace hd := brF hg3 hd
    obtain ⟨x11, hx11, hd⟩ := bnd_some hd
    have hx11_ := idx_bd hx11
    obtain ⟨x10, hx10, hd⟩ := bnd_some hd
    have hx10_ := idx_bd hx10
    refine Wp.region <| Seg.op (OpT.move rfl) rfl <| Seg.op (OpT.move rfl) rfl <| Seg.op (OpT.move rfl) rfl <| Seg.op (OpT.move rfl) rfl ?_
    obtain ⟨_, rfl, hc9, hc9_⟩ := LayL.get hq7 (idx_some hx9).2
    refine Seg.op (OpT.ixRow (j := 2) u52 ti4 rfl rfl rfl (idx_bd hx9)) rfl <| Seg.op (OpT.asB (b := x9) (c := false) (OpT.ldRow (i := 2) (k := k2 * 1 + 0) u4 rfl rfl rfl (hc9 0 _ rfl)) hg3) rfl <| Seg.op (OpT.move rfl) rfl <| Seg.opG rfl rfl (OpT.move rfl) rfl <| Seg.opG rfl rfl (OpT.fld (o' := 2) fl46_2 rfl rfl) rfl <| Seg.opG rfl rfl (OpT.ldBlk (i := 0) (v := (.int .i64 x8.2.2)) u3 rfl rfl rfl rfl) rfl ?_
    obtain ⟨_, rfl, hc11, hc11_⟩ := LayL.get hq7 (idx_some hx11).2
    refine Seg.opG rfl rfl (OpT.ixRow (j := 2) u52 ti4 rfl rfl rfl (idx_bd hx11)) rfl <| Seg.opG rfl rfl (OpT.ldRow (i := 2) (k := x8.2.2.toNat * 1 + 0) u4 rfl rfl rfl (hc11 0 _ rfl)) rfl <| Seg.op (OpT.pickF rfl rfl) rfl ?_
    obtain ⟨_, rfl, hc10, hc10_⟩ := LayL.get hq7 (idx_some hx10).2
    refine Seg.op (OpT.ixRow (j := 2) u52 ti4 rfl rfl rfl (idx_bd hx10)) rfl ?_
    refine Seg.stD (q := 2) (off := 0) (vs := [(.bool x11)]) (y := x11) (cs := [(.bool x10)]) hq7 hx10 hc10_ rfl rfl rfl ti4 rfl rfl (ones_cons rfl (ones_nil)) rfl (rfl) rfl (fun xs8 hq8 => ?_)
    refine Seg.nil <| At.blk_n <| At.then_n <| Wp.region <| Seg.op (OpT.add rfl rfl (fits64 (by omega))) rfl <| Seg.op (OpT.move rfl) rfl <| Seg.nil <| At.permK [1, 2] 3 rfl rfl rfl ?_
    refine At.nextF (Hp.le.refl _) ⟨(l4.set k2 x11), (k4 + 1), v8, xs8, rfl, rfl, (by rw [← hn4]; exact hd), hq8⟩ (Sub.of rfl)
   replace hd := brF hb9 hd
   replace hb9 := of_decide_eq_false hb9
   refine Wp.exit <| At.then_x <| At.then_x <| At.blk_hit <| At.blk_n <| At.then_n <| Wp.region <| Seg.op (OpT.add rfl rfl (fits64 (by omega))) rfl ?_
   refine Seg.op (OpT.move rfl) rfl <| Seg.nil <| At.permK [1] 2 rfl rfl rfl ?_
   refine At.nextF hl4 ⟨l4, (k2 + 1), v8, xs7, rfl, rfl, (by rw [← hn2]; exact hd), hq7⟩ (Sub.of rfl)
  replace hd := brF hb5 hd
  replace hb5 := of_decide_eq_false hb5
  refine Wp.exit <| At.then_x <| At.then_x <| At.blk_hit <| At.blk_n <| At.then_n <| Wp.region <| Seg.op (OpT.add rfl rfl (fits64 (by omega))) rfl ?_
  refine Seg.op (OpT.move rfl) rfl <| Seg.nil ?_
  refine At.nextF hl2 ⟨l2, (k1 + 1), v5, xs3, rfl, rfl, (by rw [← hn1]; exact hd), hq3⟩ (Sub.of rfl)
 replace hd := brF hb3 hd
 replace hb3 := of_decide_eq_false hb3
 refine Wp.exit <| At.then_x <| At.then_x <| At.blk_hit <| At.then_n <| Wp.sr <| Seg.op (OpT.move rfl) rfl <| Seg.op (OpT.assign rfl) rfl ?_
 refine Seg.nilT <| Wp.ret ?_
 refine At.rowLe (i := 0) rfl fun hb10 => ?_
 refine At.freeze (i := 0) rfl fun H5 hl5 hs1 => ?_
 have hv3 := SlD.of (c := cB) hs1 rfl (hq2.mono hl5) hb10
 obtain rfl := Option.some.inj hd
 exact At.res1 rfl (RV.tmp (v := v4) rfl) (fun w hs => ⟨_, _, _, rfl, (hl1.trans hl5), (hs.dropN 0), ⟨⟨v4, rfl, hv3⟩, rfl⟩⟩)
set_option maxRecDepth 100000 in
set_option maxHeartbeats 4000000 in
theorem r05_sameInts_w {fu : Nat} {a0 : List Int} {a1 : List Int} {v1 v2 : Value} {r : Bool} (hv1 : SlD cI64 H a0 v1) (hv2 : SlD cI64 H a1 v2) (hd : r05_sameInts fu a0 a1 = some r) :
    TriV Tryz.prog 73 [v1, v2] H O (.bool r) := by
 intro w hs
 refine wp_of Tryz.func73 rfl rfl rfl ?_ hs
 clear hs w
 unfold r05_sameInts at hd
 refine Wp.sr <| Seg.op (OpT.assign rfl) rfl <| Seg.nilT <| Wp.seq <| Wp.sr <| Seg.op (OpT.move rfl) rfl ?_
 have hb1 := hv1.le
 refine Seg.op (OpT.len u55 rfl hv1.sl) rfl <| Seg.op (OpT.move rfl) rfl ?_
 have hb2 := hv2.le
 refine Seg.op (OpT.len u55 rfl hv2.sl) rfl <| Seg.op (OpT.neq rfl rfl) rfl <| Seg.nilT ?_
 refine Wp.cond (b := decide ((a0.length:Int) ≠ (a1.length:Int))) rfl (fun hb3 => ?_) (fun hb3 => ?_)
 ·
  replace hd := brT hb3 hd
  replace hb3 := of_decide_eq_true hb3
  refine Wp.sr <| Seg.op (OpT.assign rfl) rfl <| Seg.nilT <| Wp.ret <| At.then_r ?_
  obtain rfl := Option.some.inj hd
  exact At.res1 rfl (RV.tmp (v := (.bool false)) rfl) (fun w hs => ⟨rfl, (hs.dropN 0).weaken (Hp.le.refl _)⟩)
 replace hd := brF hb3 hd
 replace hb3 := of_decide_eq_false hb3
 refine Wp.skip <| At.then_n <| Wp.seq <| Wp.sr <| Seg.op (OpT.move rfl) rfl ?_
 have hb4 := hv1.le
 refine Seg.op (OpT.len u55 rfl hv1.sl) rfl <| Seg.op (OpT.move rfl) rfl <| Seg.nilT <| Wp.block <| Wp.loopF (fun m LL HH OO => ∃ (k1 : Nat), [(0, v1), (1, v2), (12, (.int .i64 (a0.length:Int))), (13, (.int .i64 (k1:Int)))] = LL ∧ O = OO ∧ loopK m (r05_sameInts_b1 fu a0 a1) k1 = some r) fu ⟨0, rfl, rfl, hd⟩ (Sub.of rfl) ?_
 intro m1 L1 H1 O1 hl1 hI1
 obtain ⟨k1, rfl, rfl, hd⟩ := hI1
 replace hd := loopK_some hd; obtain ⟨m2, rfl, hd⟩ := hd
 obtain ⟨nx1, hn1⟩ : ∃ f, f = loopK m2 (r05_sameInts_b1 fu a0 a1) := ⟨_, rfl⟩
 rw [← hn1] at hd
 replace hd : r05_sameInts_b1 fu a0 a1 k1 nx1 = some r := hd
 unfold r05_sameInts_b1 at hd
 refine Wp.sr <| Seg.op (OpT.lss rfl rfl) rfl <| Seg.nilT <| Wp.seq ?_
 refine Wp.cond (b := decide ((k1:Int) < (a0.length:Int))) rfl (fun hb5 => ?_) (fun hb5 => ?_)
 ·
  replace hd := brT hb5 hd
  replace hb5 := of_decide_eq_true hb5
  refine Wp.skip <| At.then_n <| Wp.seq <| Wp.block <| Wp.sr <| Seg.op (OpT.move rfl) rfl <| Seg.op (OpT.assign rfl) rfl <| Seg.nilT ?_
  refine Wp.seq ?_
  obtain ⟨x1, hx1, hd⟩ := bnd_some hd
  have hx1_ := idx_bd hx1
  obtain ⟨x2, hx2, hd⟩ := bnd_some hd
  have hx2_ := idx_bd hx2
  obtain ⟨_, rfl, hc1⟩ := SlD.get (hv1.mono hl1) hx1
  obtain ⟨_, rfl, hc2⟩ := SlD.get (hv2.mono hl1) hx2
  refine Wp.drawE 9 follows rfl (by kernel_rfl) <| SegL.opE (OpT.move rfl) rfl <| SegL.opE (OpT.move rfl) rfl <| SegL.opE (OpT.ixSl u55 ti3 rfl (hv1.mono hl1).sl rfl (idx_bd hx1)) rfl <| SegL.opE (OpT.ldH u3 rfl rfl (hc1 0 _ rfl)) rfl <| SegL.opE (OpT.move rfl) rfl <| SegL.opE (OpT.move rfl) rfl <| SegL.opE (OpT.ixSl u55 ti3 rfl (hv2.mono hl1).sl rfl (idx_bd hx2)) rfl ?_
  refine SegL.opE (OpT.ldH u3 rfl rfl (hc2 0 _ rfl)) rfl <| SegL.opE (OpT.neq rfl rfl) rfl <| SegL.doneE <| EndL.is (t := 0) rfl <| EndL.is (t := 1) rfl <| EndL.is (t := 12) rfl <| EndL.is (t := 13) rfl <| EndL.is (t := 24) rfl ?_
  refine EndL.seg <| Seg.nilT ?_
  refine Wp.cond (b := decide (x1 ≠ x2)) rfl (fun hb6 => ?_) (fun hb6 => ?_)
  ·
   replace hd := brT hb6 hd
   replace hb6 := of_decide_eq_true hb6
   refine Wp.sr <| Seg.op (OpT.assign rfl) rfl <| Seg.nilT <| Wp.ret <| At.blk_r <| At.then_r <| At.then_r <| At.blk_r ?_
   refine At.then_r ?_
   obtain rfl := Option.some.inj hd
   exact At.res1 rfl (RV.tmp (v := (.bool false)) rfl) (fun w hs => ⟨rfl, (hs.dropN 0).weaken hl1⟩)
  replace hd := brF hb6 hd
  replace hb6 := of_decide_eq_false hb6
  refine Wp.skip <| At.blk_n <| At.then_n <| Wp.region <| Seg.op (OpT.add rfl rfl (fits64 (by omega))) rfl <| Seg.op (OpT.move rfl) rfl <| Seg.nil ?_
  refine At.nextF (Hp.le.refl _) ⟨(k1 + 1), rfl, rfl, (by rw [← hn1]; exact hd)⟩ (Sub.of rfl)
 replace hd := brF hb5 hd
 replace hb5 := of_decide_eq_false hb5
 refine Wp.exit <| At.then_x <| At.then_x <| At.blk_hit <| At.then_n <| Wp.sr <| Seg.op (OpT.assign rfl) rfl <| Seg.nilT ?_
 refine Wp.ret ?_
 obtain rfl := Option.some.inj hd
 exact At.res1 rfl (RV.tmp (v := (.bool true)) rfl) (fun w hs => ⟨rfl, (hs.dropN 0).weaken hl1⟩)
set_option maxRecDepth 100000 in
set_option maxHeartbeats 4000000 in
theorem r05_find_w {fu : Nat} {a0 : List (List Int)} {a1 : List Int} {v1 v2 : Value} {r : Int} (hv1 : SlD (cL cI64) H a0 v1) (hv2 : SlD cI64 H a1 v2) (hd : r05_find fu a0 a1 = some r) :
    TriV Tryz.prog 52 [v1, v2] H O (.int .i64 r) := by
 intro w hs
 refine wp_of Tryz.func52 rfl rfl rfl ?_ hs
 clear hs w
 unfold r05_find at hd
 refine Wp.sr <| Seg.op (OpT.assign rfl) rfl <| Seg.nilT <| Wp.seq <| Wp.sr <| Seg.op (OpT.move rfl) rfl ?_
 have hb1 := hv1.le
 refine Seg.op (OpT.len u63 rfl hv1.sl) rfl <| Seg.op (OpT.move rfl) rfl <| Seg.nilT <| Wp.block <| Wp.loopF (fun m LL HH OO => ∃ (k1 : Nat), [(0, v1), (1, v2), (7, (.int .i64 (a0.length:Int))), (8, (.int .i64 (k1:Int)))] = LL ∧ O = OO ∧ loopK m (r05_find_b1 fu a0 a1) k1 = some r) fu ⟨0, rfl, rfl, hd⟩ (Sub.of rfl) ?_
 intro m1 L1 H1 O1 hl1 hI1
 obtain ⟨k1, rfl, rfl, hd⟩ := hI1
 replace hd := loopK_some hd; obtain ⟨m2, rfl, hd⟩ := hd
 obtain ⟨nx1, hn1⟩ : ∃ f, f = loopK m2 (r05_find_b1 fu a0 a1) := ⟨_, rfl⟩
 rw [← hn1] at hd
 replace hd : r05_find_b1 fu a0 a1 k1 nx1 = some r := hd
 unfold r05_find_b1 at hd
 refine Wp.sr <| Seg.op (OpT.lss rfl rfl) rfl <| Seg.nilT <| Wp.seq ?_
 refine Wp.cond (b := decide ((k1:Int) < (a0.length:Int))) rfl (fun hb2 => ?_) (fun hb2 => ?_)
 ·
  replace hd := brT hb2 hd
  replace hb2 := of_decide_eq_true hb2
  refine Wp.skip <| At.then_n <| Wp.seq <| Wp.block <| Wp.sr <| Seg.op (OpT.move rfl) rfl <| Seg.op (OpT.assign rfl) rfl <| Seg.nilT ?_
  refine Wp.seq ?_
  obtain ⟨x1, hx1, hd⟩ := bnd_some hd
  have hx1_ := idx_bd hx1
  obtain ⟨x2, hx2, hd⟩ := bnd_some hd
  refine Wp.region <| Seg.op (OpT.move rfl) rfl <| Seg.op (OpT.move rfl) rfl ?_
  obtain ⟨_, ⟨v3, rfl, hv3⟩, hc1⟩ := SlD.get (hv1.mono hl1) hx1
  refine Seg.op (OpT.ixSl u63 ti55 rfl (hv1.mono hl1).sl rfl (idx_bd hx1)) rfl <| Seg.op (OpT.ldH u55 rfl rfl (hc1 0 _ rfl)) rfl <| Seg.op (OpT.move rfl) rfl <| Seg.op (OpT.call ent73 rfl (r05_sameInts_w hv3 (hv2.mono hl1) hx2)) rfl <| Seg.nilT ?_
  refine Wp.cond (b := x2) rfl (fun hb3 => ?_) (fun hb3 => ?_)
  ·
   replace hd := brT hb3 hd
   refine Wp.sr <| Seg.op (OpT.move rfl) rfl <| Seg.op (OpT.assign rfl) rfl <| Seg.nilT <| Wp.ret <| At.blk_r <| At.then_r <| At.then_r ?_
   refine At.blk_r <| At.then_r ?_
   obtain rfl := Option.some.inj hd
   exact At.res1 rfl (RV.tmp (v := (.int .i64 (k1:Int))) rfl) (fun w hs => ⟨rfl, (hs.dropN 0).weaken hl1⟩)
  replace hd := brF hb3 hd
  refine Wp.skip <| At.blk_n <| At.then_n <| Wp.region <| Seg.op (OpT.add rfl rfl (fits64 (by omega))) rfl <| Seg.op (OpT.move rfl) rfl <| Seg.nil ?_
  refine At.nextF (Hp.le.refl _) ⟨(k1 + 1), rfl, rfl, (by rw [← hn1]; exact hd)⟩ (Sub.of rfl)
 replace hd := brF hb2 hd
 replace hb2 := of_decide_eq_false hb2
 refine Wp.exit <| At.then_x <| At.then_x <| At.blk_hit <| At.then_n <| Wp.sr <| Seg.op (OpT.assign rfl) rfl <| Seg.nilT ?_
 refine Wp.ret ?_
 obtain rfl := Option.some.inj hd
 exact At.res1 rfl (RV.tmp (v := (.int .i64 (-1))) rfl) (fun w hs => ⟨rfl, (hs.dropN 0).weaken hl1⟩)
set_option maxRecDepth 100000 in
set_option maxHeartbeats 4000000 in
theorem r05_classes_w {fu : Nat} {a0 : List (Bool × (List (Int × Int × Int)))} {a1 : List Int} {v1 v2 : Value} {r : List Int} (hv1 : SlD (cP cB (cL (cP cU8 (cP cU8 cI64)))) H a0 v1) (hv2 : SlD cI64 H a1 v2) (hd : r05_classes fu a0 a1 = some r) :
    Tri Tryz.prog 31 [v1, v2] H O (fun v H' O' => (∃ v3 : Value, v3 = v ∧ SlD cI64 H' r v3) ∧ O = O') := by
 intro w hs
 refine wp_of Tryz.func31 rfl rfl rfl ?_ hs
 clear hs w
 unfold r05_classes at hd
 refine Wp.sr <| Seg.op (OpT.assign rfl) rfl <| Seg.nilT <| Wp.seq ?_
 obtain ⟨ha1, hd⟩ := chk_some hd
 refine Wp.region <| Seg.op (OpT.move rfl) rfl ?_
 have hb1 := hv1.le
 refine Seg.op (OpT.len u22 rfl hv1.sl) rfl <| Seg.makeD (c := cI64) (z := 0) (m := a0.length) u55 ti3 rfl rfl ha1 (rfl) rfl rfl rfl fun v4 xs1 hq1 => Seg.op (OpT.assign rfl) rfl <| Seg.nilT <| Wp.seq <| Wp.sr <| Seg.op (OpT.move rfl) rfl ?_
 have hb2 := hv1.le
 refine Seg.op (OpT.len u22 rfl hv1.sl) rfl <| Seg.op (OpT.move rfl) rfl <| Seg.nilT <| Wp.block <| Wp.loopF (fun m LL HH OO => ∃ (l1 : List Int), ∃ (k1 : Nat), ∃ (v5 : Value), ∃ (xs2 : List Value), [(0, v1), (1, v2), (5, v5), (20, v1), (21, (.int .i64 (a0.length:Int))), (22, (.int .i64 (k1:Int)))] = LL ∧ .row v5 3 1 l1.length xs2 :: O = OO ∧ loopK m (fun p nx => r05_classes_b1 fu a0 a1 p.1 p.2 nx) (l1, k1) = some r ∧ LayL cI64 HH l1 xs2) fu ⟨(List.replicate a0.length 0 : List Int), 0, v4, xs1, rfl, rfl, hd, hq1⟩ (Sub.of rfl) ?_
 intro m1 L1 H1 O1 hl1 hI1
 obtain ⟨l1, k1, v5, xs2, rfl, rfl, hd, hq2⟩ := hI1
 replace hd := loopK_some hd; obtain ⟨m2, rfl, hd⟩ := hd
 obtain ⟨nx1, hn1⟩ : ∃ f, f = loopK m2 (fun p nx => r05_classes_b1 fu a0 a1 p.1 p.2 nx) := ⟨_, rfl⟩
 rw [← hn1] at hd
 replace hd : r05_classes_b1 fu a0 a1 l1 k1 nx1 = some r := hd
 unfold r05_classes_b1 at hd
 refine Wp.sr <| Seg.op (OpT.lss rfl rfl) rfl <| Seg.nilT <| Wp.seq ?_
 refine Wp.cond (b := decide ((k1:Int) < (a0.length:Int))) rfl (fun hb3 => ?_) (fun hb3 => ?_)
 ·
  replace hd := brT hb3 hd
  replace hb3 := of_decide_eq_true hb3
  refine Wp.skip <| At.then_n <| Wp.seq <| Wp.block <| Wp.seq ?_
  obtain ⟨x1, hx1, hd⟩ := bnd_some hd
  have hx1_ := idx_bd hx1
  refine Wp.region <| Seg.op (OpT.move rfl) rfl ?_
  obtain ⟨_, ⟨_, _, rfl, rfl, ⟨v6, rfl, hv3⟩⟩, hc1⟩ := SlD.get (hv1.mono hl1) hx1
  refine Seg.op (OpT.ixSl u22 ti43 rfl (hv1.mono hl1).sl rfl (idx_bd hx1)) rfl <| Seg.op (OpT.ldHA (vs := [(.bool x1.1), v6]) u43 rfl ti43 rfl rfl (fun j u hj => (hc1 j u hj))) rfl <| Seg.alloc (cs := #[(.bool false), (.slice none 0 0)]) ti43 rfl rfl fun B2 => Seg.op (OpT.assign rfl) rfl <| Seg.stBlkW (i := 0) (cs' := #[(.bool x1.1), v6]) rfl rfl ti43 rfl rfl (onesA (ones_cons rfl (ones_cons hv3.one (ones_nil)))) rfl ?_
  refine Seg.own (O := .blk B2 (.cells #[(.bool x1.1), v6] 43 (0, 0)) :: .row v5 3 1 l1.length xs2 :: O) ?_ rfl
  refine Seg.nilT <| Wp.sr <| Seg.op (OpT.fld (o' := 0) fl43_0 rfl rfl) rfl <| Seg.op (OpT.ldBlk (i := 0) (v := (.bool x1.1)) u4 rfl rfl rfl rfl) rfl <| Seg.nilT ?_
  refine Wp.cond (b := x1.1) rfl (fun hb4 => ?_) (fun hb4 => ?_)
  ·
   replace hd := brT hb4 hd
   obtain ⟨x2, hx2, hd⟩ := bnd_some hd
   have hx2_ := idx_bd hx2
   refine Wp.region <| Seg.op (OpT.move rfl) rfl <| Seg.op (OpT.move rfl) rfl ?_
   obtain ⟨_, rfl, hc2, hc2_⟩ := LayL.get hq2 (idx_some hx2).2
   refine Seg.op (OpT.ixRow (j := 1) u55 ti3 rfl rfl rfl (idx_bd hx2)) rfl ?_
   refine Seg.stD (q := 1) (off := 0) (vs := [(.int .i64 1)]) (y := 1) (cs := [(.int .i64 x2)]) hq2 hx2 hc2_ rfl rfl rfl ti3 rfl rfl (ones_cons rfl (ones_nil)) rfl (rfl) rfl (fun xs3 hq3 => ?_)
   refine Seg.nil <| At.blk_n <| At.then_n <| Wp.region <| Seg.op (OpT.add rfl rfl (fits64 (by omega))) rfl <| Seg.op (OpT.move rfl) rfl <| Seg.nil <| At.permK [1] 2 rfl rfl rfl ?_
   refine At.nextF (Hp.le.refl _) ⟨(l1.set k1 1), (k1 + 1), v5, xs3, rfl, rfl, (by rw [← hn1]; exact hd), hq3⟩ (Sub.of rfl)
  replace hd := brF hb4 hd
  refine Wp.skip <| At.blk_n <| At.then_n <| Wp.region <| Seg.op (OpT.add rfl rfl (fits64 (by omega))) rfl <| Seg.op (OpT.move rfl) rfl <| Seg.nil <| At.permK [1] 2 rfl rfl rfl ?_
  refine At.nextF (Hp.le.refl _) ⟨l1, (k1 + 1), v5, xs2, rfl, rfl, (by rw [← hn1]; exact hd), hq2⟩ (Sub.of rfl)
 replace hd := brF hb3 hd
 replace hb3 := of_decide_eq_false hb3
 refine Wp.exit <| At.then_x <| At.then_x <| At.blk_hit <| At.then_n <| Wp.sr <| Seg.op (OpT.assign rfl) rfl <| Seg.nilT ?_
 refine Wp.seq <| Wp.sr <| Seg.op (OpT.move rfl) rfl ?_
 have hb5 := hv1.le
 refine Seg.op (OpT.len u22 rfl (hv1.mono hl1).sl) rfl <| Seg.op (OpT.move rfl) rfl <| Seg.nilT <| Wp.block <| Wp.loopF (fun m LL HH OO => ∃ (l2 : List Int), ∃ (k2 : Nat), ∃ (k3 : Nat), ∃ (v7 : Value), ∃ (xs4 : List Value), [(0, v1), (1, v2), (5, v7), (8, (.int .i64 (k2:Int))), (34, (.int .i64 (a0.length:Int))), (35, (.int .i64 (k3:Int)))] = LL ∧ .row v7 3 1 l2.length xs4 :: O = OO ∧ loopK m (fun p nx => r05_classes_b26 fu a0 a1 p.1 p.2.1 p.2.2 nx) (l2, k2, k3) = some r ∧ LayL cI64 HH l2 xs4) fu ⟨l1, 0, 0, v5, xs2, rfl, rfl, hd, hq2⟩ (Sub.of rfl) ?_
 intro m3 L2 H2 O2 hl2 hI2
 obtain ⟨l2, k2, k3, v7, xs4, rfl, rfl, hd, hq4⟩ := hI2
 replace hd := loopK_some hd; obtain ⟨m4, rfl, hd⟩ := hd
 obtain ⟨nx2, hn2⟩ : ∃ f, f = loopK m4 (fun p nx => r05_classes_b26 fu a0 a1 p.1 p.2.1 p.2.2 nx) := ⟨_, rfl⟩
 rw [← hn2] at hd
 replace hd : r05_classes_b26 fu a0 a1 l2 k2 k3 nx2 = some r := hd
 unfold r05_classes_b26 at hd
 refine Wp.sr <| Seg.op (OpT.lss rfl rfl) rfl <| Seg.nilT <| Wp.seq ?_
 refine Wp.cond (b := decide ((k3:Int) < (a0.length:Int))) rfl (fun hb6 => ?_) (fun hb6 => ?_)
 ·
  replace hd := brT hb6 hd
  replace hb6 := of_decide_eq_true hb6
  refine Wp.skip <| At.then_n <| Wp.seq <| Wp.block <| Wp.sr <| Seg.op (OpT.assign rfl) rfl <| Seg.nilT <| Wp.seq ?_
  obtain ⟨ha2, hd⟩ := chk_some hd
  refine Wp.region <| Seg.op (OpT.move rfl) rfl ?_
  have hb7 := hv1.le
  refine Seg.op (OpT.len u22 rfl (hv1.mono (hl1.trans hl2)).sl) rfl <| Seg.makeD (c := cI64) (z := 0) (m := a0.length) u55 ti3 rfl rfl ha2 (rfl) rfl rfl rfl fun v8 xs5 hq5 => Seg.op (OpT.assign rfl) rfl <| Seg.nilT <| Wp.seq <| Wp.sr <| Seg.op (OpT.move rfl) rfl ?_
  have hb8 := hv1.le
  refine Seg.op (OpT.len u22 rfl (hv1.mono (hl1.trans hl2)).sl) rfl <| Seg.op (OpT.move rfl) rfl <| Seg.nilT <| Wp.block <| Wp.nilRow 55 1 <| Wp.loopF (fun m LL HH OO => ∃ (l3 : List Int), ∃ (l4 : List (List Int)), ∃ (k4 : Nat), ∃ (v9 : Value), ∃ (xs6 : List Value), ∃ (v10 : Value), ∃ (xs7 : List Value), [(0, v1), (1, v2), (5, v7), (8, (.int .i64 (k2:Int))), (9, v10), (10, v9), (34, (.int .i64 (a0.length:Int))), (35, (.int .i64 (k3:Int))), (41, (.int .i64 (a0.length:Int))), (42, (.int .i64 (k4:Int)))] = LL ∧ .row v10 55 1 l4.length xs7 :: .row v9 3 1 l3.length xs6 :: .row v7 3 1 l2.length xs4 :: O = OO ∧ loopK m (fun p nx => r05_classes_b35 fu a0 a1 l2 k2 k3 nx2 p.1 p.2.1 p.2.2 nx) (l3, l4, k4) = some r ∧ LayL cI64 HH l3 xs6 ∧ LayL (cL cI64) HH l4 xs7) fu ⟨(List.replicate a0.length 0 : List Int), ([] : List (List Int)), 0, v8, xs5, (.slice none 0 0), [], rfl, rfl, hd, hq5, (LayL.nil (c := (cL cI64)) (H := H2))⟩ (Sub.of rfl) ?_
  intro m5 L3 H3 O3 hl3 hI3
  obtain ⟨l3, l4, k4, v9, xs6, v10, xs7, rfl, rfl, hd, hq6, hq7⟩ := hI3
  replace hd := loopK_some hd; obtain ⟨m6, rfl, hd⟩ := hd
  obtain ⟨nx3, hn3⟩ : ∃ f, f = loopK m6 (fun p nx => r05_classes_b35 fu a0 a1 l2 k2 k3 nx2 p.1 p.2.1 p.2.2 nx) := ⟨_, rfl⟩
  rw [← hn3] at hd
  replace hd : r05_classes_b35 fu a0 a1 l2 k2 k3 nx2 l3 l4 k4 nx3 = some r := hd
  unfold r05_classes_b35 at hd
  refine Wp.sr <| Seg.op (OpT.lss rfl rfl) rfl <| Seg.nilT <| Wp.seq ?_
  refine Wp.cond (b := decide ((k4:Int) < (a0.length:Int))) rfl (fun hb9 => ?_) (fun hb9 => ?_)
  ·
   replace hd := brT hb9 hd
   replace hb9 := of_decide_eq_true hb9
   refine Wp.skip <| At.then_n <| Wp.seq <| Wp.block <| Wp.sr <| Seg.op (OpT.move rfl) rfl <| Seg.op (OpT.assign rfl) rfl <| Seg.nilT ?_
   refine Wp.seq ?_
   obtain ⟨x3, hx3, hd⟩ := bnd_some hd
   have hx3_ := idx_bd hx3
   refine Wp.region <| Seg.op (OpT.move rfl) rfl <| Seg.op (OpT.move rfl) rfl ?_
   obtain ⟨_, rfl, hc3, hc3_⟩ := LayL.get (hq4.mono hl3) (idx_some hx3).2
   refine Seg.op (OpT.ixRow (j := 2) u55 ti3 rfl rfl rfl (idx_bd hx3)) rfl <| Seg.op (OpT.ldRow (i := 2) (k := k4 * 1 + 0) u3 rfl rfl rfl (hc3 0 _ rfl)) rfl <| Seg.buildD1 (c := cI64) (y := x3) (cs := [(.int .i64 x3)]) u55 ti3 rfl rfl rfl rfl (rfl) rfl fun v11 xs8 hq8 => Seg.op (OpT.assign rfl) rfl <| Seg.nilT <| Wp.seq <| Wp.sr <| Seg.op (OpT.move rfl) rfl ?_
   have hb10 := hv2.le
   refine Seg.op (OpT.len u55 rfl (hv2.mono ((hl1.trans hl2).trans hl3)).sl) rfl <| Seg.op (OpT.move rfl) rfl <| Seg.nilT <| Wp.block <| Wp.loopF (fun m LL HH OO => ∃ (l5 : List Int), ∃ (k5 : Nat), ∃ (v12 : Value), ∃ (xs9 : List Value), [(0, v1), (1, v2), (5, v7), (8, (.int .i64 (k2:Int))), (9, v10), (10, v9), (11, (.int .i64 (k4:Int))), (12, v12), (34, (.int .i64 (a0.length:Int))), (35, (.int .i64 (k3:Int))), (41, (.int .i64 (a0.length:Int))), (42, (.int .i64 (k4:Int))), (50, v2), (51, (.int .i64 (a1.length:Int))), (52, (.int .i64 (k5:Int)))] = LL ∧ .row v12 3 1 l5.length xs9 :: .row v10 55 1 l4.length xs7 :: .row v9 3 1 l3.length xs6 :: .row v7 3 1 l2.length xs4 :: O = OO ∧ loopK m (fun p nx => r05_classes_b38 fu a0 a1 l2 l3 l4 k4 nx3 p.1 p.2 nx) (l5, k5) = some r ∧ LayL cI64 HH l5 xs9) fu ⟨([x3] : List Int), 0, v11, xs8, rfl, rfl, hd, hq8⟩ (Sub.of rfl) ?_
   intro m7 L4 H4 O4 hl4 hI4
   obtain ⟨l5, k5, v12, xs9, rfl, rfl, hd, hq9⟩ := hI4
   replace hd := loopK_some hd; obtain ⟨m8, rfl, hd⟩ := hd
   obtain ⟨nx4, hn4⟩ : ∃ f, f = loopK m8 (fun p nx => r05_classes_b38 fu a0 a1 l2 l3 l4 k4 nx3 p.1 p.2 nx) := ⟨_, rfl⟩
   rw [← hn4] at hd
   replace hd : r05_classes_b38 fu a0 a1 l2 l3 l4 k4 nx3 l5 k5 nx4 = some r := hd
   unfold r05_classes_b38 at hd
   refine Wp.sr <| Seg.op (OpT.lss rfl rfl) rfl <| Seg.nilT <| Wp.seq ?_
   refine Wp.cond (b := decide ((k5:Int) < (a1.length:Int))) rfl (fun hb11 => ?_) (fun hb11 => ?_)
   ·
    replace hd := brT hb11 hd
    replace hb11 := of_decide_eq_true hb11
    refine Wp.skip <| At.then_n <| Wp.seq <| Wp.block <| Wp.seq ?_
    obtain ⟨x4, hx4, hd⟩ := bnd_some hd
    have hx4_ := idx_bd hx4
    refine Wp.region ?_
    obtain ⟨_, rfl, hc4⟩ := SlD.get (hv2.mono (((hl1.trans hl2).trans hl3).trans hl4)) hx4
    refine Seg.op (OpT.ixSl u55 ti3 rfl (hv2.mono (((hl1.trans hl2).trans hl3).trans hl4)).sl rfl (idx_bd hx4)) rfl <| Seg.op (OpT.ldH u3 rfl rfl (hc4 0 _ rfl)) rfl <| Seg.op (OpT.assign rfl) rfl <| Seg.nilT <| Wp.seq ?_
    obtain ⟨ha3, hd⟩ := chk_some hd
    have := ha3
    obtain ⟨x5, hx5, hd⟩ := bnd_some hd
    refine Wp.region <| Seg.op (OpT.move rfl) rfl <| Seg.op (OpT.move rfl) rfl <| Seg.op (OpT.move rfl) rfl <| Seg.op (OpT.conv u3 u5 rfl (fitsU8 ha3)) rfl <| Seg.op (OpT.call ent32 rfl (r05_Step_w (hv1.mono (((hl1.trans hl2).trans hl3).trans hl4)) (by omega) (by omega) hx5)) rfl <| Seg.op (OpT.assign rfl) rfl <| Seg.nilT ?_
    refine Wp.seq <| Wp.sr <| Seg.op (OpT.move rfl) rfl <| Seg.op (OpT.geq rfl rfl) rfl <| Seg.nilT ?_
    refine Wp.joinT (fun LL HH OO => ∃ (i1 : Int), [(0, v1), (1, v2), (5, v7), (8, (.int .i64 (k2:Int))), (9, v10), (10, v9), (11, (.int .i64 (k4:Int))), (12, v12), (15, (.int .i64 i1)), (34, (.int .i64 (a0.length:Int))), (35, (.int .i64 (k3:Int))), (41, (.int .i64 (a0.length:Int))), (42, (.int .i64 (k4:Int))), (50, v2), (51, (.int .i64 (a1.length:Int))), (52, (.int .i64 (k5:Int)))] = LL ∧ .row v12 3 1 l5.length xs9 :: .row v10 55 1 l4.length xs7 :: .row v9 3 1 l3.length xs6 :: .row v7 3 1 l2.length xs4 :: O = OO ∧ r05_classes_j39 fu l5 k5 nx4 i1 = some r) ?_ ?_
    ·
     refine Wp.cond (b := decide (0 ≤ x5)) rfl (fun hb12 => ?_) (fun hb12 => ?_)
     ·
      replace hd := brT hb12 hd
      replace hb12 := of_decide_eq_true hb12
      obtain ⟨x6, hx6, hd⟩ := bnd_some hd
      have hx6_ := idx_bd hx6
      refine Wp.region <| Seg.op (OpT.move rfl) rfl <| Seg.op (OpT.move rfl) rfl ?_
      obtain ⟨_, rfl, hc5, hc5_⟩ := LayL.get (hq4.mono (hl3.trans hl4)) (idx_some hx6).2
      refine Seg.op (OpT.ixRow (j := 3) u55 ti3 rfl rfl rfl (idx_bd hx6)) rfl <| Seg.op (OpT.ldRow (i := 3) (k := x5.toNat * 1 + 0) u3 rfl rfl rfl (hc5 0 _ rfl)) rfl <| Seg.op (OpT.assign rfl) rfl <| Seg.nil ?_
      refine At.joinF (Hp.le.refl _) ⟨x6, rfl, rfl, hd⟩ (Sub.of rfl)
     replace hd := brF hb12 hd
     replace hb12 := of_decide_eq_false hb12
     refine Wp.skip ?_
     refine At.joinF (Hp.le.refl _) ⟨x5, rfl, rfl, hd⟩ (Sub.of rfl)
    intro L5 H5 O5 hl5 hI5
    obtain ⟨i1, rfl, rfl, hd⟩ := hI5
    unfold r05_classes_j39 at hd
    obtain ⟨ha4, hd⟩ := chk_some hd
    refine Wp.region <| Seg.op (OpT.move rfl) rfl <| Seg.op (OpT.move rfl) rfl <| Seg.buildD1 (c := cI64) (y := i1) (cs := [(.int .i64 i1)]) u55 ti3 rfl rfl rfl rfl (rfl) rfl fun v13 xs10 hq10 => Seg.appD (i := 1) (j := 0) (hq9.mono hl5) hq10 u55 ti3 rfl (by decide) rfl rfl rfl rfl (by decide) ha4 rfl fun v14 xs11 hq11 => Seg.drop (i := 0) <| Seg.op (OpT.assign rfl) rfl <| Seg.nil ?_
    refine At.blk_n <| At.then_n <| Wp.region <| Seg.op (OpT.add rfl rfl (fits64 (by omega))) rfl <| Seg.op (OpT.move rfl) rfl <| Seg.nil ?_
    refine At.nextF hl5 ⟨(l5 ++ ([i1] : List Int)), (k5 + 1), v14, xs11, rfl, rfl, (by rw [← hn4]; exact hd), hq11⟩ (Sub.of rfl)
   replace hd := brF hb11 hd
   replace hb11 := of_decide_eq_false hb11
   refine Wp.exit <| At.then_x <| At.then_x <| At.blk_hit <| At.then_n <| Wp.seq ?_
   obtain ⟨x7, hx7, hd⟩ := bnd_some hd
   refine Wp.region <| Seg.op (OpT.move rfl) rfl <| Seg.op (OpT.move rfl) rfl <| Seg.op (OpT.call ent52 rfl (TriV.lend (c := (cL cI64)) 1 rfl (hq7.mono hl4) (fun _ e1 d1 => TriV.lend (c := cI64) 0 rfl (hq9.mono e1) (fun _ e2 d2 => r05_find_w (d1.mono e2) d2 hx7)))) rfl <| Seg.op (OpT.assign rfl) rfl <| Seg.nilT <| Wp.seq <| Wp.sr ?_
   refine Seg.op (OpT.move rfl) rfl <| Seg.op (OpT.lss rfl rfl) rfl <| Seg.nilT ?_
   refine Wp.joinT (fun LL HH OO => ∃ (l6 : List (List Int)), ∃ (i2 : Int), ∃ (v15 : Value), ∃ (xs12 : List Value), [(0, v1), (1, v2), (5, v7), (8, (.int .i64 (k2:Int))), (9, v15), (10, v9), (11, (.int .i64 (k4:Int))), (16, (.int .i64 i2)), (34, (.int .i64 (a0.length:Int))), (35, (.int .i64 (k3:Int))), (41, (.int .i64 (a0.length:Int))), (42, (.int .i64 (k4:Int)))] = LL ∧ .row v15 55 1 l6.length xs12 :: .row v9 3 1 l3.length xs6 :: .row v7 3 1 l2.length xs4 :: O = OO ∧ r05_classes_j40 fu l3 k4 nx3 l6 i2 = some r ∧ LayL (cL cI64) HH l6 xs12) ?_ ?_
   ·
    refine Wp.cond (b := decide (x7 < 0)) rfl (fun hb13 => ?_) (fun hb13 => ?_)
    ·
     replace hd := brT hb13 hd
     replace hb13 := of_decide_eq_true hb13
     refine Wp.sr <| Seg.op (OpT.move rfl) rfl ?_
     refine Seg.rowLe (i := 1) rfl fun hb14 => ?_
     refine Seg.op (OpT.lenRow (i := 1) u63 rfl rfl) rfl <| Seg.op (OpT.assign rfl) rfl <| Seg.nilT ?_
     obtain ⟨ha5, hd⟩ := chk_some hd
     refine Wp.region <| Seg.op (OpT.move rfl) rfl <| Seg.op (OpT.move rfl) rfl ?_
     refine Seg.rowLe (i := 0) rfl fun hb15 => ?_
     refine Seg.freeze (i := 0) rfl fun H6 hl6 hs1 => ?_
     have hv4 := SlD.of (c := cI64) hs1 rfl (hq9.mono hl6) hb15
     refine Seg.buildD1 (c := (cL cI64)) (y := l5) (cs := [v12]) u63 ti55 rfl rfl rfl (cellsL hv4.one) (⟨_, rfl, hv4⟩) rfl fun v16 xs13 hq12 => Seg.appD (i := 1) (j := 0) (hq7.mono (hl4.trans hl6)) hq12 u63 ti55 rfl (by decide) rfl rfl rfl rfl (by decide) ha5 rfl fun v17 xs14 hq13 => Seg.drop (i := 0) <| Seg.op (OpT.assign rfl) rfl <| Seg.nil ?_
     refine At.joinF hl6 ⟨(l4 ++ ([l5] : List (List Int))), (l4.length:Int), v17, xs14, rfl, rfl, hd, hq13⟩ (Sub.of rfl)
    replace hd := brF hb13 hd
    replace hb13 := of_decide_eq_false hb13
    refine Wp.skip <| At.permK [1, 2, 3] 4 rfl rfl rfl ?_
    refine At.joinF (Hp.le.refl _) ⟨l4, x7, v10, xs7, rfl, rfl, hd, (hq7.mono hl4)⟩ (Sub.of rfl)
   intro L6 H7 O6 hl7 hI6
   obtain ⟨l6, i2, v15, xs12, rfl, rfl, hd, hq14⟩ := hI6
   unfold r05_classes_j40 at hd
   obtain ⟨x8, hx8, hd⟩ := bnd_some hd
   have hx8_ := idx_bd hx8
   refine Wp.region <| Seg.op (OpT.move rfl) rfl <| Seg.op (OpT.move rfl) rfl <| Seg.op (OpT.move rfl) rfl ?_
   obtain ⟨_, rfl, hc6, hc6_⟩ := LayL.get (hq6.mono (hl4.trans hl7)) (idx_some hx8).2
   refine Seg.op (OpT.ixRow (j := 1) u55 ti3 rfl rfl rfl (idx_bd hx8)) rfl ?_
   refine Seg.stD (q := 1) (off := 0) (vs := [(.int .i64 i2)]) (y := i2) (cs := [(.int .i64 x8)]) (hq6.mono (hl4.trans hl7)) hx8 hc6_ rfl rfl rfl ti3 rfl rfl (ones_cons rfl (ones_nil)) rfl (rfl) rfl (fun xs15 hq15 => ?_)
   refine Seg.nil <| At.blk_n <| At.then_n <| Wp.region <| Seg.op (OpT.add rfl rfl (fits64 (by omega))) rfl <| Seg.op (OpT.move rfl) rfl <| Seg.nil ?_
   refine At.nextF (hl4.trans hl7) ⟨(l3.set k4 i2), l6, (k4 + 1), v9, xs15, v15, xs12, rfl, rfl, (by rw [← hn3]; exact hd), hq15, hq14⟩ (Sub.of rfl)
  replace hd := brF hb9 hd
  replace hb9 := of_decide_eq_false hb9
  refine Wp.exit <| At.then_x <| At.then_x <| At.blk_hit <| At.then_n <| Wp.sr <| Seg.op (OpT.move rfl) rfl <| Seg.op (OpT.assign rfl) rfl ?_
  refine Seg.nilT <| Wp.seq <| Wp.sr <| Seg.op (OpT.move rfl) rfl ?_
  refine Seg.rowLe (i := 0) rfl fun hb16 => ?_
  refine Seg.op (OpT.lenRow (i := 0) u63 rfl rfl) rfl <| Seg.op (OpT.move rfl) rfl <| Seg.op (OpT.eql rfl rfl) rfl <| Seg.nilT ?_
  refine Wp.cond (b := decide ((l4.length:Int) = (k2:Int))) rfl (fun hb17 => ?_) (fun hb17 => ?_)
  ·
   replace hd := brT hb17 hd
   replace hb17 := of_decide_eq_true hb17
   refine Wp.exit <| At.then_x <| At.blk_miss rfl <| At.then_x <| At.then_x <| At.blk_hit <| At.then_n <| Wp.sr ?_
   refine Seg.op (OpT.move rfl) rfl <| Seg.op (OpT.assign rfl) rfl <| Seg.nilT <| Wp.ret ?_
   refine At.rowLe (i := 1) rfl fun hb18 => ?_
   refine At.freeze (i := 1) rfl fun H8 hl8 hs2 => ?_
   have hv5 := SlD.of (c := cI64) hs2 rfl (hq6.mono hl8) hb18
   obtain rfl := Option.some.inj hd
   exact At.res1 rfl (RV.tmp (v := v9) rfl) (fun w hs => ⟨_, _, _, rfl, (((hl1.trans hl2).trans hl3).trans hl8), (hs.dropN 2), ⟨⟨v9, rfl, hv5⟩, rfl⟩⟩)
  replace hd := brF hb17 hd
  replace hb17 := of_decide_eq_false hb17
  refine Wp.skip <| At.then_n <| Wp.region <| Seg.op (OpT.move rfl) rfl ?_
  refine Seg.rowLe (i := 0) rfl fun hb19 => ?_
  refine Seg.op (OpT.lenRow (i := 0) u63 rfl rfl) rfl <| Seg.op (OpT.assign rfl) rfl <| Seg.nil <| At.blk_n <| At.then_n <| Wp.region <| Seg.op (OpT.add rfl rfl (fits64 (by omega))) rfl <| Seg.op (OpT.move rfl) rfl ?_
  refine Seg.nil <| At.permK [1] 3 rfl rfl rfl ?_
  refine At.nextF hl3 ⟨l3, l4.length, (k3 + 1), v9, xs6, rfl, rfl, (by rw [← hn2]; exact hd), hq6⟩ (Sub.of rfl)
 replace hd := brF hb6 hd
 replace hb6 := of_decide_eq_false hb6
 refine Wp.exit <| At.then_x <| At.then_x <| At.blk_hit <| At.then_n <| Wp.sr <| Seg.op (OpT.move rfl) rfl <| Seg.op (OpT.assign rfl) rfl ?_
 refine Seg.nilT <| Wp.ret ?_
 refine At.rowLe (i := 0) rfl fun hb20 => ?_
 refine At.freeze (i := 0) rfl fun H9 hl9 hs3 => ?_
 have hv6 := SlD.of (c := cI64) hs3 rfl (hq4.mono hl9) hb20
 obtain rfl := Option.some.inj hd
 exact At.res1 rfl (RV.tmp (v := v7) rfl) (fun w hs => ⟨_, _, _, rfl, ((hl1.trans hl2).trans hl9), (hs.dropN 0), ⟨⟨v7, rfl, hv6⟩, rfl⟩⟩)
set_option maxRecDepth 100000 in
set_option maxHeartbeats 4000000 in
theorem r05_trimmed_w {fu : Nat} {a0 : List (Bool × (List (Int × Int × Int)))} {v1 : Value} {r : List (Bool × (List (Int × Int × Int)))} (hv1 : SlD (cP cB (cL (cP cU8 (cP cU8 cI64)))) H a0 v1) (hd : r05_trimmed fu a0 = some r) :
    Tri Tryz.prog 28 [v1] H O (fun v H' O' => (∃ v2 : Value, v2 = v ∧ SlD (cP cB (cL (cP cU8 (cP cU8 cI64)))) H' r v2) ∧ O = O') := by
 intro w hs
 refine wp_of Tryz.func28 rfl rfl rfl ?_ hs
 clear hs w
 unfold r05_trimmed at hd
 refine Wp.sr <| Seg.op (OpT.assign rfl) rfl <| Seg.nilT <| Wp.seq ?_
 obtain ⟨x1, hx1, hd⟩ := bnd_some hd
 refine Wp.region <| Seg.op (OpT.move rfl) rfl <| Seg.opS (OpS.call ent27 rfl (r05_alive_w hv1 hx1)) rfl ?_
 rintro _ H1 _ hl1 ⟨⟨v3, rfl, hv2⟩, rfl⟩
 refine Seg.op (OpT.assign rfl) rfl <| Seg.nilT <| Wp.sr <| Seg.op (OpT.assign rfl) rfl <| Seg.nilT <| Wp.seq <| Wp.sr <| Seg.op (OpT.move rfl) rfl ?_
 have hb1 := hv1.le
 refine Seg.op (OpT.len u22 rfl (hv1.mono hl1).sl) rfl <| Seg.op (OpT.move rfl) rfl <| Seg.nilT <| Wp.block <| Wp.nilRow 43 2 <| Wp.loopF (fun m LL HH OO => ∃ (l1 : List (Bool × (List (Int × Int × Int)))), ∃ (k1 : Nat), ∃ (v4 : Value), ∃ (xs1 : List Value), [(3, v3), (4, v4), (12, v1), (13, (.int .i64 (a0.length:Int))), (14, (.int .i64 (k1:Int)))] = LL ∧ .row v4 43 2 l1.length xs1 :: O = OO ∧ loopK m (fun p nx => r05_trimmed_b1 fu a0 x1 p.1 p.2 nx) (l1, k1) = some r ∧ LayL (cP cB (cL (cP cU8 (cP cU8 cI64)))) HH l1 xs1) fu ⟨([] : List (Bool × (List (Int × Int × Int)))), 0, (.slice none 0 0), [], rfl, rfl, hd, (LayL.nil (c := (cP cB (cL (cP cU8 (cP cU8 cI64))))) (H := H1))⟩ (Sub.of rfl) ?_
 intro m1 L1 H2 O1 hl2 hI1
 obtain ⟨l1, k1, v4, xs1, rfl, rfl, hd, hq1⟩ := hI1
 replace hd := loopK_some hd; obtain ⟨m2, rfl, hd⟩ := hd
 obtain ⟨nx1, hn1⟩ : ∃ f, f = loopK m2 (fun p nx => r05_trimmed_b1 fu a0 x1 p.1 p.2 nx) := ⟨_, rfl⟩
 rw [← hn1] at hd
 replace hd : r05_trimmed_b1 fu a0 x1 l1 k1 nx1 = some r := hd
 unfold r05_trimmed_b1 at hd
 refine Wp.sr <| Seg.op (OpT.lss rfl rfl) rfl <| Seg.nilT <| Wp.seq ?_
 refine Wp.cond (b := decide ((k1:Int) < (a0.length:Int))) rfl (fun hb2 => ?_) (fun hb2 => ?_)
 ·
  replace hd := brT hb2 hd
  replace hb2 := of_decide_eq_true hb2
  refine Wp.skip <| At.then_n <| Wp.seq <| Wp.block <| Wp.seq ?_
  obtain ⟨x2, hx2, hd⟩ := bnd_some hd
  have hx2_ := idx_bd hx2
  refine Wp.region ?_
  obtain ⟨_, ⟨_, _, rfl, rfl, ⟨v5, rfl, hv3⟩⟩, hc1⟩ := SlD.get (hv1.mono (hl1.trans hl2)) hx2
  refine Seg.op (OpT.ixSl u22 ti43 rfl (hv1.mono (hl1.trans hl2)).sl rfl (idx_bd hx2)) rfl <| Seg.op (OpT.ldHA (vs := [(.bool x2.1), v5]) u43 rfl ti43 rfl rfl (fun j u hj => (hc1 j u hj))) rfl <| Seg.alloc (cs := #[(.bool false), (.slice none 0 0)]) ti43 rfl rfl fun B2 => Seg.stBlkW (i := 0) (cs' := #[(.bool x2.1), v5]) rfl rfl ti43 rfl rfl (onesA (ones_cons rfl (ones_cons hv3.one (ones_nil)))) rfl ?_
  refine Seg.own (O := .blk B2 (.cells #[(.bool x2.1), v5] 43 (0, 0)) :: .row v4 43 2 l1.length xs1 :: O) ?_ rfl
  refine Seg.nilT <| Wp.sr <| Seg.op (OpT.fld (o' := 0) fl43_0 rfl rfl) rfl <| Seg.op (OpT.ldBlk (i := 0) (v := (.bool x2.1)) u4 rfl rfl rfl rfl) rfl <| Seg.op (OpT.buildS (vs := [(0, (.bool x2.1))]) (cs := #[(.bool x2.1), (.slice none 0 0)]) plf43 ti43 rfl rfl (vc_cons rfl (vc_nil)) rfl) rfl <| Seg.alloc (cs := #[(.bool false), (.slice none 0 0)]) ti43 rfl rfl fun B3 => Seg.stBlkW (i := 0) (cs' := #[(.bool x2.1), (.slice none 0 0)]) rfl rfl ti43 rfl rfl (onesA (ones_cons rfl (ones_cons rfl (ones_nil)))) rfl ?_
  refine Seg.own (O := .blk B3 (.cells #[(.bool x2.1), (.slice none 0 0)] 43 (0, 0)) :: .blk B2 (.cells #[(.bool x2.1), v5] 43 (0, 0)) :: .row v4 43 2 l1.length xs1 :: O) ?_ rfl
  refine Seg.nilT <| Wp.seq <| Wp.sr <| Seg.op (OpT.fld (o' := 1) fl43_1 rfl rfl) rfl <| Seg.op (OpT.ldBlk (i := 1) (v := v5) u41 rfl rfl rfl rfl) rfl ?_
  have hb3 := hv3.le
  refine Seg.op (OpT.len u41 rfl hv3.sl) rfl <| Seg.op (OpT.move rfl) rfl <| Seg.nilT <| Wp.block <| Wp.nilRow 46 3 <| Wp.loopF (fun m LL HH OO => ∃ (l2 : List (Int × Int × Int)), ∃ (k2 : Nat), ∃ (v6 : Value), ∃ (xs2 : List Value), [(3, v3), (4, v4), (7, (ptr B3 0)), (12, v1), (13, (.int .i64 (a0.length:Int))), (14, (.int .i64 (k1:Int))), (22, v5), (23, (.int .i64 (x2.2.length:Int))), (24, (.int .i64 (k2:Int)))] = LL ∧ .row v6 46 3 l2.length xs2 :: .blk B3 (.cells #[(.bool x2.1), v6] 43 (0, 0)) :: .blk B2 (.cells #[(.bool x2.1), v5] 43 (0, 0)) :: .row v4 43 2 l1.length xs1 :: O = OO ∧ loopK m (fun p nx => r05_trimmed_b2 fu x1 l1 k1 nx1 x2 p.1 p.2 nx) (l2, k2) = some r ∧ LayL (cP cU8 (cP cU8 cI64)) HH l2 xs2) fu ⟨([] : List (Int × Int × Int)), 0, (.slice none 0 0), [], rfl, rfl, hd, (LayL.nil (c := (cP cU8 (cP cU8 cI64))) (H := H2))⟩ (Sub.of rfl) ?_
  intro m3 L2 H3 O2 hl3 hI2
  obtain ⟨l2, k2, v6, xs2, rfl, rfl, hd, hq2⟩ := hI2
  replace hd := loopK_some hd; obtain ⟨m4, rfl, hd⟩ := hd
  obtain ⟨nx2, hn2⟩ : ∃ f, f = loopK m4 (fun p nx => r05_trimmed_b2 fu x1 l1 k1 nx1 x2 p.1 p.2 nx) := ⟨_, rfl⟩
  rw [← hn2] at hd
  replace hd : r05_trimmed_b2 fu x1 l1 k1 nx1 x2 l2 k2 nx2 = some r := hd
  unfold r05_trimmed_b2 at hd
  refine Wp.sr <| Seg.op (OpT.lss rfl rfl) rfl <| Seg.nilT <| Wp.seq ?_
  refine Wp.cond (b := decide ((k2:Int) < (x2.2.length:Int))) rfl (fun hb4 => ?_) (fun hb4 => ?_)
  ·
   replace hd := brT hb4 hd
   replace hb4 := of_decide_eq_true hb4
   refine Wp.skip <| At.then_n <| Wp.seq <| Wp.block <| Wp.seq ?_
   obtain ⟨x3, hx3, hd⟩ := bnd_some hd
   have hx3_ := idx_bd hx3
   refine Wp.region ?_
   obtain ⟨_, ⟨_, _, rfl, ⟨rfl, hr1, hr2⟩, ⟨_, _, rfl, ⟨rfl, hr3, hr4⟩, rfl⟩⟩, hc2⟩ := SlD.get (hv3.mono hl3) hx3
   refine Seg.op (OpT.ixSl u41 ti46 rfl (hv3.mono hl3).sl rfl (idx_bd hx3)) rfl <| Seg.op (OpT.ldHA (vs := [(.int .u8 x3.1), (.int .u8 x3.2.1), (.int .i64 x3.2.2)]) u46 rfl ti46 rfl rfl (fun j u hj => (hc2 j u hj))) rfl <| Seg.alloc (cs := #[(.int .u8 0), (.int .u8 0), (.int .i64 0)]) ti46 rfl rfl fun B4 => Seg.stBlkW (i := 0) (cs' := #[(.int .u8 x3.1), (.int .u8 x3.2.1), (.int .i64 x3.2.2)]) rfl rfl ti46 rfl rfl (onesA (ones_cons rfl (ones_cons rfl (ones_cons rfl (ones_nil))))) rfl ?_
   refine Seg.own (O := .blk B4 (.cells #[(.int .u8 x3.1), (.int .u8 x3.2.1), (.int .i64 x3.2.2)] 46 (0, 0)) :: .row v6 46 3 l2.length xs2 :: .blk B3 (.cells #[(.bool x2.1), v6] 43 (0, 0)) :: .blk B2 (.cells #[(.bool x2.1), v5] 43 (0, 0)) :: .row v4 43 2 l1.length xs1 :: O) ?_ rfl
   refine Seg.nilT <| Wp.seq ?_
   obtain ⟨x4, hx4, hd⟩ := bnd_some hd
   have hx4_ := idx_bd hx4
   refine Wp.region <| Seg.op (OpT.move rfl) rfl <| Seg.op (OpT.fld (o' := 2) fl46_2 rfl rfl) rfl <| Seg.op (OpT.ldBlk (i := 0) (v := (.int .i64 x3.2.2)) u3 rfl rfl rfl rfl) rfl ?_
   obtain ⟨_, rfl, hc3⟩ := SlD.get (hv2.mono (hl2.trans hl3)) hx4
   refine Seg.op (OpT.ixSl u52 ti4 rfl (hv2.mono (hl2.trans hl3)).sl rfl (idx_bd hx4)) rfl <| Seg.op (OpT.ldH u4 rfl rfl (hc3 0 _ rfl)) rfl <| Seg.nilT ?_
   refine Wp.cond (b := x4) rfl (fun hb5 => ?_) (fun hb5 => ?_)
   ·
    replace hd := brT hb5 hd
    obtain ⟨ha1, hd⟩ := chk_some hd
    refine Wp.region <| Seg.op (OpT.fld (o' := 1) fl43_1 rfl rfl) rfl <| Seg.op (OpT.ldBlk (i := 2) (v := v6) u41 rfl rfl rfl rfl) rfl <| Seg.op (OpT.ldBlkW (i := 0) u46 rfl ti46 rfl rfl rfl) rfl <| Seg.buildD1 (c := (cP cU8 (cP cU8 cI64))) (y := x3) (cs := [(.int .u8 x3.1), (.int .u8 x3.2.1), (.int .i64 x3.2.2)]) u41 ti46 rfl rfl rfl rfl (⟨[(.int .u8 x3.1)], [(.int .u8 x3.2.1), (.int .i64 x3.2.2)], rfl, ⟨rfl, (show (0 : Int) ≤ x3.1 by omega), (show x3.1 ≤ (255 : Int) by omega)⟩, ⟨[(.int .u8 x3.2.1)], [(.int .i64 x3.2.2)], rfl, ⟨rfl, (show (0 : Int) ≤ x3.2.1 by omega), (show x3.2.1 ≤ (255 : Int) by omega)⟩, rfl⟩⟩) rfl fun v7 xs3 hq3 => Seg.appD (i := 2) (j := 0) hq2 hq3 u41 ti46 rfl (by decide) rfl rfl rfl rfl (by decide) ha1 rfl fun v8 xs4 hq4 => Seg.drop (i := 0) <| Seg.op (OpT.fld (o' := 1) fl43_1 rfl rfl) rfl ?_
    refine Seg.rowOne (i := 1) rfl fun ho1 => Seg.stBlk1 (i := 2) rfl rfl ho1 ti41 rfl (Nat.le_of_ble_eq_true rfl) ?_
    refine Seg.own (O := .blk B4 (.cells #[(.int .u8 x3.1), (.int .u8 x3.2.1), (.int .i64 x3.2.2)] 46 (0, 0)) :: .row v8 46 3 (l2 ++ ([x3] : List (Int × Int × Int))).length xs4 :: .blk B3 (.cells #[(.bool x2.1), v8] 43 (0, 0)) :: .blk B2 (.cells #[(.bool x2.1), v5] 43 (0, 0)) :: .row v4 43 2 l1.length xs1 :: O) ?_ rfl
    refine Seg.nil <| At.blk_n <| At.then_n <| Wp.region <| Seg.op (OpT.add rfl rfl (fits64 (by omega))) rfl <| Seg.op (OpT.move rfl) rfl <| Seg.nil <| At.permK [1, 2, 3, 4] 5 rfl rfl rfl ?_
    refine At.nextF (Hp.le.refl _) ⟨(l2 ++ ([x3] : List (Int × Int × Int))), (k2 + 1), v8, xs4, rfl, rfl, (by rw [← hn2]; exact hd), hq4⟩ (Sub.of rfl)
   replace hd := brF hb5 hd
   refine Wp.skip <| At.blk_n <| At.then_n <| Wp.region <| Seg.op (OpT.add rfl rfl (fits64 (by omega))) rfl <| Seg.op (OpT.move rfl) rfl <| Seg.nil <| At.permK [1, 2, 3, 4] 5 rfl rfl rfl ?_
   refine At.nextF (Hp.le.refl _) ⟨l2, (k2 + 1), v6, xs2, rfl, rfl, (by rw [← hn2]; exact hd), hq2⟩ (Sub.of rfl)
  replace hd := brF hb4 hd
  replace hb4 := of_decide_eq_false hb4
  refine Wp.exit <| At.then_x <| At.then_x <| At.blk_hit <| At.then_n ?_
  obtain ⟨ha2, hd⟩ := chk_some hd
  refine Wp.region <| Seg.op (OpT.move rfl) rfl <| Seg.op (OpT.ldBlkW (i := 1) u43 rfl ti43 rfl rfl rfl) rfl ?_
  refine Seg.rowLe (i := 0) rfl fun hb6 => ?_
  refine Seg.freeze (i := 0) rfl fun H4 hl4 hs1 => ?_
  have hv4 := SlD.of (c := (cP cU8 (cP cU8 cI64))) hs1 rfl (hq2.mono hl4) hb6
  refine Seg.buildD1 (c := (cP cB (cL (cP cU8 (cP cU8 cI64))))) (y := (x2.1, l2)) (cs := [(.bool x2.1), v6]) u22 ti43 rfl rfl rfl rfl (⟨[(.bool x2.1)], [v6], rfl, rfl, ⟨_, rfl, hv4⟩⟩) rfl fun v9 xs5 hq5 => Seg.appD (i := 3) (j := 0) (hq1.mono (hl3.trans hl4)) hq5 u22 ti43 rfl (by decide) rfl rfl rfl rfl (by decide) ha2 rfl fun v10 xs6 hq6 => Seg.drop (i := 0) <| Seg.op (OpT.assign rfl) rfl <| Seg.nil <| At.blk_n <| At.then_n <| Wp.region ?_
  refine Seg.op (OpT.add rfl rfl (fits64 (by omega))) rfl <| Seg.op (OpT.move rfl) rfl <| Seg.nil <| At.permK [2] 3 rfl rfl rfl ?_
  refine At.nextF (hl3.trans hl4) ⟨(l1 ++ ([(x2.1, l2)] : List (Bool × (List (Int × Int × Int))))), (k1 + 1), v10, xs6, rfl, rfl, (by rw [← hn1]; exact hd), hq6⟩ (Sub.of rfl)
 replace hd := brF hb2 hd
 replace hb2 := of_decide_eq_false hb2
 refine Wp.exit <| At.then_x <| At.then_x <| At.blk_hit <| At.then_n <| Wp.sr <| Seg.op (OpT.move rfl) rfl <| Seg.op (OpT.assign rfl) rfl ?_
 refine Seg.nilT <| Wp.ret ?_
 refine At.rowLe (i := 0) rfl fun hb7 => ?_
 refine At.freeze (i := 0) rfl fun H5 hl5 hs2 => ?_
 have hv5 := SlD.of (c := (cP cB (cL (cP cU8 (cP cU8 cI64))))) hs2 rfl (hq1.mono hl5) hb7
 obtain rfl := Option.some.inj hd
 exact At.res1 rfl (RV.tmp (v := v4) rfl) (fun w hs => ⟨_, _, _, rfl, ((hl1.trans hl2).trans hl5), (hs.dropN 0), ⟨⟨v4, rfl, hv5⟩, rfl⟩⟩)
set_option maxRecDepth 100000 in
set_option maxHeartbeats 4000000 in
theorem r05_reached_w {fu : Nat} {a0 : List (Bool × (List (Int × Int × Int)))} {v1 : Value} {r : List (Bool × (List (Int × Int × Int)))} (hv1 : SlD (cP cB (cL (cP cU8 (cP cU8 cI64)))) H a0 v1) (hd : r05_reached fu a0 = some r) :
    Tri Tryz.prog 29 [v1] H O (fun v H' O' => (∃ v2 : Value, v2 = v ∧ SlD (cP cB (cL (cP cU8 (cP cU8 cI64)))) H' r v2) ∧ O = O') := by
 intro w hs
 refine wp_of Tryz.func29 rfl rfl rfl ?_ hs
 clear hs w
 unfold r05_reached at hd
 refine Wp.sr <| Seg.op (OpT.assign rfl) rfl <| Seg.nilT <| Wp.sr <| Seg.buildD1 (c := cI64) (y := 0) (cs := [(.int .i64 0)]) u55 ti3 rfl rfl rfl rfl (rfl) rfl fun v3 xs1 hq1 => Seg.op (OpT.assign rfl) rfl <| Seg.nilT <| Wp.sr ?_
 refine Seg.op (OpT.assign rfl) rfl <| Seg.nilT <| Wp.seq <| Wp.sr <| Seg.op (OpT.assign rfl) rfl <| Seg.nilT <| Wp.block <| Wp.nilRow 43 2 ?_
 refine Wp.loopF (fun m LL HH OO => ∃ (l1 : List Int), ∃ (l2 : List (Bool × (List (Int × Int × Int)))), ∃ (k1 : Nat), ∃ (v4 : Value), ∃ (xs2 : List Value), ∃ (v5 : Value), ∃ (xs3 : List Value), [(0, v1), (3, v4), (4, v5), (5, (.int .i64 (k1:Int)))] = LL ∧ .row v5 43 2 l2.length xs3 :: .row v4 3 1 l1.length xs2 :: O = OO ∧ loopK m (fun p nx => r05_reached_b13 fu a0 p.1 p.2.1 p.2.2 nx) (l1, l2, k1) = some r ∧ LayL cI64 HH l1 xs2 ∧ LayL (cP cB (cL (cP cU8 (cP cU8 cI64)))) HH l2 xs3) fu ⟨([0] : List Int), ([] : List (Bool × (List (Int × Int × Int)))), 0, v3, xs1, (.slice none 0 0), [], rfl, rfl, hd, hq1, (LayL.nil (c := (cP cB (cL (cP cU8 (cP cU8 cI64))))) (H := H))⟩ (Sub.of rfl) ?_
 intro m1 L1 H1 O1 hl1 hI1
 obtain ⟨l1, l2, k1, v4, xs2, v5, xs3, rfl, rfl, hd, hq2, hq3⟩ := hI1
 replace hd := loopK_some hd; obtain ⟨m2, rfl, hd⟩ := hd
 obtain ⟨nx1, hn1⟩ : ∃ f, f = loopK m2 (fun p nx => r05_reached_b13 fu a0 p.1 p.2.1 p.2.2 nx) := ⟨_, rfl⟩
 rw [← hn1] at hd
 replace hd : r05_reached_b13 fu a0 l1 l2 k1 nx1 = some r := hd
 unfold r05_reached_b13 at hd
 refine Wp.seq <| Wp.sr <| Seg.op (OpT.move rfl) rfl <| Seg.op (OpT.move rfl) rfl ?_
 refine Seg.rowLe (i := 1) rfl fun hb1 => ?_
 refine Seg.op (OpT.lenRow (i := 1) u55 rfl rfl) rfl <| Seg.op (OpT.lss rfl rfl) rfl <| Seg.nilT ?_
 refine Wp.cond (b := decide ((k1:Int) < (l1.length:Int))) rfl (fun hb2 => ?_) (fun hb2 => ?_)
 ·
  replace hd := brT hb2 hd
  replace hb2 := of_decide_eq_true hb2
  refine Wp.skip <| At.then_n <| Wp.seq <| Wp.block <| Wp.seq ?_
  obtain ⟨x1, hx1, hd⟩ := bnd_some hd
  have hx1_ := idx_bd hx1
  obtain ⟨x2, hx2, hd⟩ := bnd_some hd
  have hx2_ := idx_bd hx2
  refine Wp.region <| Seg.op (OpT.move rfl) rfl <| Seg.op (OpT.move rfl) rfl <| Seg.op (OpT.move rfl) rfl ?_
  obtain ⟨_, rfl, hc1, hc1_⟩ := LayL.get hq2 (idx_some hx1).2
  refine Seg.op (OpT.ixRow (j := 1) u55 ti3 rfl rfl rfl (idx_bd hx1)) rfl <| Seg.op (OpT.ldRow (i := 1) (k := k1 * 1 + 0) u3 rfl rfl rfl (hc1 0 _ rfl)) rfl ?_
  obtain ⟨_, ⟨_, _, rfl, rfl, ⟨v6, rfl, hv2⟩⟩, hc2⟩ := SlD.get (hv1.mono hl1) hx2
  refine Seg.op (OpT.ixSl u22 ti43 rfl (hv1.mono hl1).sl rfl (idx_bd hx2)) rfl <| Seg.op (OpT.fldE fl43_0 rfl (hv1.mono hl1).sl (by omega)) rfl <| Seg.op (OpT.ldH u4 rfl rfl (hc2 0 _ rfl)) rfl <| Seg.op (OpT.buildS (vs := [(0, (.bool x2.1))]) (cs := #[(.bool x2.1), (.slice none 0 0)]) plf43 ti43 rfl rfl (vc_cons rfl (vc_nil)) rfl) rfl <| Seg.alloc (cs := #[(.bool false), (.slice none 0 0)]) ti43 rfl rfl fun B2 => Seg.stBlkW (i := 0) (cs' := #[(.bool x2.1), (.slice none 0 0)]) rfl rfl ti43 rfl rfl (onesA (ones_cons rfl (ones_cons rfl (ones_nil)))) rfl ?_
  refine Seg.own (O := .blk B2 (.cells #[(.bool x2.1), (.slice none 0 0)] 43 (0, 0)) :: .row v5 43 2 l2.length xs3 :: .row v4 3 1 l1.length xs2 :: O) ?_ rfl
  refine Seg.nilT <| Wp.seq <| Wp.seq ?_
  obtain ⟨x3, hx3, hd⟩ := bnd_some hd
  have hx3_ := idx_bd hx3
  obtain ⟨x4, hx4, hd⟩ := bnd_some hd
  have hx4_ := idx_bd hx4
  refine Wp.region <| Seg.op (OpT.move rfl) rfl <| Seg.op (OpT.move rfl) rfl <| Seg.op (OpT.move rfl) rfl ?_
  obtain ⟨_, rfl, hc3, hc3_⟩ := LayL.get hq2 (idx_some hx3).2
  refine Seg.op (OpT.ixRow (j := 2) u55 ti3 rfl rfl rfl (idx_bd hx3)) rfl <| Seg.op (OpT.ldRow (i := 2) (k := k1 * 1 + 0) u3 rfl rfl rfl (hc3 0 _ rfl)) rfl ?_
  obtain ⟨_, ⟨_, _, rfl, rfl, ⟨v7, rfl, hv3⟩⟩, hc4⟩ := SlD.get (hv1.mono hl1) hx4
  refine Seg.op (OpT.ixSl u22 ti43 rfl (hv1.mono hl1).sl rfl (idx_bd hx4)) rfl <| Seg.op (OpT.fldE fl43_1 rfl (hv1.mono hl1).sl (by omega)) rfl <| Seg.op (OpT.ldH u41 rfl rfl (hc4 1 _ rfl)) rfl ?_
  have hb3 := hv3.le
  refine Seg.op (OpT.len u41 rfl hv3.sl) rfl <| Seg.op (OpT.move rfl) rfl <| Seg.nilT <| Wp.block <| Wp.nilRow 46 3 <| Wp.loopF (fun m LL HH OO => ∃ (l3 : List Int), ∃ (l4 : List (Int × Int × Int)), ∃ (k2 : Nat), ∃ (v8 : Value), ∃ (xs4 : List Value), ∃ (v9 : Value), ∃ (xs5 : List Value), [(0, v1), (3, v8), (4, v5), (5, (.int .i64 (k1:Int))), (6, (ptr B2 0)), (33, v7), (34, (.int .i64 (x4.2.length:Int))), (35, (.int .i64 (k2:Int)))] = LL ∧ .row v9 46 3 l4.length xs5 :: .blk B2 (.cells #[(.bool x2.1), v9] 43 (0, 0)) :: .row v5 43 2 l2.length xs3 :: .row v8 3 1 l3.length xs4 :: O = OO ∧ loopK m (fun p nx => r05_reached_b18 fu l2 k1 nx1 x2 x4 p.1 p.2.1 p.2.2 nx) (l3, l4, k2) = some r ∧ LayL cI64 HH l3 xs4 ∧ LayL (cP cU8 (cP cU8 cI64)) HH l4 xs5) fu ⟨l1, ([] : List (Int × Int × Int)), 0, v4, xs2, (.slice none 0 0), [], rfl, rfl, hd, hq2, (LayL.nil (c := (cP cU8 (cP cU8 cI64))) (H := H1))⟩ (Sub.of rfl) ?_
  intro m3 L2 H2 O2 hl2 hI2
  obtain ⟨l3, l4, k2, v8, xs4, v9, xs5, rfl, rfl, hd, hq4, hq5⟩ := hI2
  replace hd := loopK_some hd; obtain ⟨m4, rfl, hd⟩ := hd
  obtain ⟨nx2, hn2⟩ : ∃ f, f = loopK m4 (fun p nx => r05_reached_b18 fu l2 k1 nx1 x2 x4 p.1 p.2.1 p.2.2 nx) := ⟨_, rfl⟩
  rw [← hn2] at hd
  replace hd : r05_reached_b18 fu l2 k1 nx1 x2 x4 l3 l4 k2 nx2 = some r := hd
  unfold r05_reached_b18 at hd
  refine Wp.sr <| Seg.op (OpT.lss rfl rfl) rfl <| Seg.nilT <| Wp.seq ?_
  refine Wp.cond (b := decide ((k2:Int) < (x4.2.length:Int))) rfl (fun hb4 => ?_) (fun hb4 => ?_)
  ·
   replace hd := brT hb4 hd
   replace hb4 := of_decide_eq_true hb4
   refine Wp.skip <| At.then_n <| Wp.seq <| Wp.block <| Wp.seq ?_
   obtain ⟨x5, hx5, hd⟩ := bnd_some hd
   have hx5_ := idx_bd hx5
   refine Wp.region ?_
   obtain ⟨_, ⟨_, _, rfl, ⟨rfl, hr1, hr2⟩, ⟨_, _, rfl, ⟨rfl, hr3, hr4⟩, rfl⟩⟩, hc5⟩ := SlD.get (hv3.mono hl2) hx5
   refine Seg.op (OpT.ixSl u41 ti46 rfl (hv3.mono hl2).sl rfl (idx_bd hx5)) rfl <| Seg.op (OpT.ldHA (vs := [(.int .u8 x5.1), (.int .u8 x5.2.1), (.int .i64 x5.2.2)]) u46 rfl ti46 rfl rfl (fun j u hj => (hc5 j u hj))) rfl <| Seg.alloc (cs := #[(.int .u8 0), (.int .u8 0), (.int .i64 0)]) ti46 rfl rfl fun B3 => Seg.stBlkW (i := 0) (cs' := #[(.int .u8 x5.1), (.int .u8 x5.2.1), (.int .i64 x5.2.2)]) rfl rfl ti46 rfl rfl (onesA (ones_cons rfl (ones_cons rfl (ones_cons rfl (ones_nil))))) rfl ?_
   refine Seg.own (O := .blk B3 (.cells #[(.int .u8 x5.1), (.int .u8 x5.2.1), (.int .i64 x5.2.2)] 46 (0, 0)) :: .row v9 46 3 l4.length xs5 :: .blk B2 (.cells #[(.bool x2.1), v9] 43 (0, 0)) :: .row v5 43 2 l2.length xs3 :: .row v8 3 1 l3.length xs4 :: O) ?_ rfl
   refine Seg.nilT <| Wp.sr <| Seg.op (OpT.assign rfl) rfl <| Seg.nilT <| Wp.seq <| Wp.block <| Wp.loopF (fun m LL HH OO => ∃ (i1 : Int), [(0, v1), (3, v8), (4, v5), (5, (.int .i64 (k1:Int))), (6, (ptr B2 0)), (8, (ptr B3 0)), (9, (.int .i64 i1)), (33, v7), (34, (.int .i64 (x4.2.length:Int))), (35, (.int .i64 (k2:Int)))] = LL ∧ .blk B3 (.cells #[(.int .u8 x5.1), (.int .u8 x5.2.1), (.int .i64 x5.2.2)] 46 (0, 0)) :: .row v9 46 3 l4.length xs5 :: .blk B2 (.cells #[(.bool x2.1), v9] 43 (0, 0)) :: .row v5 43 2 l2.length xs3 :: .row v8 3 1 l3.length xs4 :: O = OO ∧ loopK m (r05_reached_b19 fu l3 l4 k2 nx2 x5) i1 = some r) fu ⟨0, rfl, rfl, hd⟩ (Sub.of rfl) ?_
   intro m5 L3 H3 O3 hl3 hI3
   obtain ⟨i1, rfl, rfl, hd⟩ := hI3
   replace hd := loopK_some hd; obtain ⟨m6, rfl, hd⟩ := hd
   obtain ⟨nx3, hn3⟩ : ∃ f, f = loopK m6 (r05_reached_b19 fu l3 l4 k2 nx2 x5) := ⟨_, rfl⟩
   rw [← hn3] at hd
   replace hd : r05_reached_b19 fu l3 l4 k2 nx2 x5 i1 nx3 = some r := hd
   unfold r05_reached_b19 at hd
   refine Wp.seq <| Wp.seq ?_
   rcases Bool.eq_false_or_eq_true (decide (i1 < (l3.length:Int))) with hg1 | hg1
   ·
    replace hd := brT hg1 hd
    have hg1_ := of_decide_eq_true hg1
    obtain ⟨x6, hx6, hd⟩ := bnd_some hd
    have hx6_ := idx_bd hx6
    refine Wp.rowLe (i := 4) rfl fun hb5 => ?_
    obtain ⟨_, rfl, hc6, hc6_⟩ := LayL.get (hq4.mono hl3) (idx_some hx6).2
    refine Wp.drawE 13 follows rfl (by kernel_rfl) <| SegL.opE (OpT.move rfl) rfl <| SegL.opE (OpT.move rfl) rfl <| SegL.opE (OpT.lenRow (i := 4) u55 rfl rfl) rfl <| SegL.opE (OpT.asB (b := decide (i1 < (l3.length:Int))) (c := true) (OpT.lss rfl rfl) hg1) rfl <| SegL.opE (OpT.move rfl) rfl <| SegL.opGE rfl rfl (OpT.move rfl) rfl <| SegL.opGE rfl rfl (OpT.move rfl) rfl ?_
    refine SegL.opGE rfl rfl (OpT.ixRow (j := 4) u55 ti3 rfl rfl rfl (idx_bd hx6)) rfl <| SegL.opGE rfl rfl (OpT.ldRow (i := 4) (k := i1.toNat * 1 + 0) u3 rfl rfl rfl (hc6 0 _ rfl)) rfl <| SegL.opGE rfl rfl (OpT.fld (o' := 2) fl46_2 rfl rfl) rfl <| SegL.opGE rfl rfl (OpT.ldBlk (i := 0) (v := (.int .i64 x5.2.2)) u3 rfl rfl rfl rfl) rfl <| SegL.opGE rfl rfl (OpT.neq rfl rfl) rfl <| SegL.opE (OpT.pickT rfl rfl) rfl <| SegL.doneE <| EndL.is (t := 0) rfl ?_
    refine EndL.is (t := 3) rfl <| EndL.is (t := 4) rfl <| EndL.is (t := 5) rfl <| EndL.is (t := 6) rfl <| EndL.is (t := 8) rfl <| EndL.is (t := 9) rfl <| EndL.is (t := 33) rfl <| EndL.is (t := 34) rfl ?_
    refine EndL.is (t := 35) rfl <| EndL.is (t := 51) rfl <| EndL.seg <| Seg.nilT ?_
    refine Wp.cond (b := decide (x6 ≠ x5.2.2)) rfl (fun hb6 => ?_) (fun hb6 => ?_)
    ·
     replace hd := brT hb6 hd
     replace hb6 := of_decide_eq_true hb6
     refine Wp.skip <| At.then_n <| Wp.block ?_
     obtain ⟨ha1, hd⟩ := chk_some hd
     refine Wp.region <| Seg.op (OpT.move rfl) rfl <| Seg.op (OpT.add rfl rfl (fits64 ha1)) rfl <| Seg.op (OpT.assign rfl) rfl <| Seg.nil <| At.blk_n ?_
     refine At.nextF (Hp.le.refl _) ⟨(i1 + 1), rfl, rfl, (by rw [← hn3]; exact hd)⟩ (Sub.of rfl)
    replace hd := brF hb6 hd
    replace hb6 := of_decide_eq_false hb6
    refine Wp.exit <| At.then_x <| At.then_x <| At.blk_hit <| At.then_n <| Wp.seq <| Wp.sr <| Seg.op (OpT.move rfl) rfl ?_
    refine Seg.op (OpT.move rfl) rfl ?_
    refine Seg.rowLe (i := 4) rfl fun hb7 => ?_
    refine Seg.op (OpT.lenRow (i := 4) u55 rfl rfl) rfl <| Seg.op (OpT.eql rfl rfl) rfl <| Seg.nilT ?_
    refine Wp.joinT (fun LL HH OO => ∃ (l5 : List Int), ∃ (v10 : Value), ∃ (xs6 : List Value), [(0, v1), (3, v10), (4, v5), (5, (.int .i64 (k1:Int))), (6, (ptr B2 0)), (8, (ptr B3 0)), (9, (.int .i64 i1)), (33, v7), (34, (.int .i64 (x4.2.length:Int))), (35, (.int .i64 (k2:Int)))] = LL ∧ .blk B3 (.cells #[(.int .u8 x5.1), (.int .u8 x5.2.1), (.int .i64 x5.2.2)] 46 (0, 0)) :: .row v9 46 3 l4.length xs5 :: .blk B2 (.cells #[(.bool x2.1), v9] 43 (0, 0)) :: .row v5 43 2 l2.length xs3 :: .row v10 3 1 l5.length xs6 :: O = OO ∧ r05_reached_j20 fu l4 k2 nx2 x5 i1 l5 = some r ∧ LayL cI64 HH l5 xs6) ?_ ?_
    ·
     refine Wp.cond (b := decide (i1 = (l3.length:Int))) rfl (fun hb8 => ?_) (fun hb8 => ?_)
     ·
      replace hd := brT hb8 hd
      replace hb8 := of_decide_eq_true hb8
      obtain ⟨ha2, hd⟩ := chk_some hd
      refine Wp.region <| Seg.op (OpT.move rfl) rfl <| Seg.op (OpT.fld (o' := 2) fl46_2 rfl rfl) rfl <| Seg.op (OpT.ldBlk (i := 0) (v := (.int .i64 x5.2.2)) u3 rfl rfl rfl rfl) rfl <| Seg.buildD1 (c := cI64) (y := x5.2.2) (cs := [(.int .i64 x5.2.2)]) u55 ti3 rfl rfl rfl rfl (rfl) rfl fun v11 xs7 hq6 => Seg.appD (i := 5) (j := 0) (hq4.mono hl3) hq6 u55 ti3 rfl (by decide) rfl rfl rfl rfl (by decide) ha2 rfl fun v12 xs8 hq7 => Seg.drop (i := 0) <| Seg.op (OpT.assign rfl) rfl ?_
      refine Seg.nil ?_
      refine At.joinF (Hp.le.refl _) ⟨(l3 ++ ([x5.2.2] : List Int)), v12, xs8, rfl, rfl, hd, hq7⟩ (Sub.of rfl)
     replace hd := brF hb8 hd
     replace hb8 := of_decide_eq_false hb8
     refine Wp.skip ?_
     refine At.joinF (Hp.le.refl _) ⟨l3, v8, xs4, rfl, rfl, hd, (hq4.mono hl3)⟩ (Sub.of rfl)
    intro L4 H4 O4 hl4 hI4
    obtain ⟨l5, v10, xs6, rfl, rfl, hd, hq8⟩ := hI4
    unfold r05_reached_j20 at hd
    obtain ⟨ha3, hd⟩ := chk_some hd
    refine Wp.region <| Seg.op (OpT.fld (o' := 1) fl43_1 rfl rfl) rfl <| Seg.op (OpT.ldBlk (i := 2) (v := v9) u41 rfl rfl rfl rfl) rfl <| Seg.op (OpT.fld (o' := 0) fl46_0 rfl rfl) rfl <| Seg.op (OpT.ldBlk (i := 0) (v := (.int .u8 x5.1)) u5 rfl rfl rfl rfl) rfl <| Seg.op (OpT.fld (o' := 1) fl46_1 rfl rfl) rfl <| Seg.op (OpT.ldBlk (i := 0) (v := (.int .u8 x5.2.1)) u5 rfl rfl rfl rfl) rfl <| Seg.op (OpT.move rfl) rfl ?_
    refine Seg.op (OpT.buildS (vs := [(0, (.int .u8 x5.1)), (1, (.int .u8 x5.2.1)), (2, (.int .i64 i1))]) (cs := #[(.int .u8 x5.1), (.int .u8 x5.2.1), (.int .i64 i1)]) plf46 ti46 rfl rfl (vc_cons rfl (vc_cons rfl (vc_cons rfl (vc_nil)))) rfl) rfl <| Seg.buildD1 (c := (cP cU8 (cP cU8 cI64))) (y := (x5.1, x5.2.1, i1)) (cs := [(.int .u8 x5.1), (.int .u8 x5.2.1), (.int .i64 i1)]) u41 ti46 rfl rfl rfl rfl (⟨[(.int .u8 x5.1)], [(.int .u8 x5.2.1), (.int .i64 i1)], rfl, ⟨rfl, (show (0 : Int) ≤ x5.1 by omega), (show x5.1 ≤ (255 : Int) by omega)⟩, ⟨[(.int .u8 x5.2.1)], [(.int .i64 i1)], rfl, ⟨rfl, (show (0 : Int) ≤ x5.2.1 by omega), (show x5.2.1 ≤ (255 : Int) by omega)⟩, rfl⟩⟩) rfl fun v13 xs9 hq9 => Seg.appD (i := 2) (j := 0) (hq5.mono (hl3.trans hl4)) hq9 u41 ti46 rfl (by decide) rfl rfl rfl rfl (by decide) ha3 rfl fun v14 xs10 hq10 => Seg.drop (i := 0) <| Seg.op (OpT.fld (o' := 1) fl43_1 rfl rfl) rfl <| Seg.rowOne (i := 1) rfl fun ho1 => Seg.stBlk1 (i := 2) rfl rfl ho1 ti41 rfl (Nat.le_of_ble_eq_true rfl) ?_
    refine Seg.own (O := .blk B3 (.cells #[(.int .u8 x5.1), (.int .u8 x5.2.1), (.int .i64 x5.2.2)] 46 (0, 0)) :: .row v14 46 3 (l4 ++ ([(x5.1, x5.2.1, i1)] : List (Int × Int × Int))).length xs10 :: .blk B2 (.cells #[(.bool x2.1), v14] 43 (0, 0)) :: .row v5 43 2 l2.length xs3 :: .row v10 3 1 l5.length xs6 :: O) ?_ rfl
    refine Seg.nil <| At.blk_n <| At.then_n <| Wp.region <| Seg.op (OpT.add rfl rfl (fits64 (by omega))) rfl <| Seg.op (OpT.move rfl) rfl <| Seg.nil <| At.permK [1, 2, 3, 4] 5 rfl rfl rfl ?_
    refine At.nextF (hl3.trans hl4) ⟨l5, (l4 ++ ([(x5.1, x5.2.1, i1)] : List (Int × Int × Int))), (k2 + 1), v10, xs6, v14, xs10, rfl, rfl, (by rw [← hn2]; exact hd), hq8, hq10⟩ (Sub.of rfl)
   replace hd := brF hg1 hd
   have hg1_ := of_decide_eq_false hg1
   refine Wp.rowLe (i := 4) rfl fun hb5 => ?_
   refine Wp.drawE 13 follows rfl (by kernel_rfl) <| SegL.opE (OpT.move rfl) rfl <| SegL.opE (OpT.move rfl) rfl <| SegL.opE (OpT.lenRow (i := 4) u55 rfl rfl) rfl <| SegL.opE (OpT.asB (b := decide (i1 < (l3.length:Int))) (c := false) (OpT.lss rfl rfl) hg1) rfl <| SegL.opE (OpT.move rfl) rfl <| SegL.skipGE rfl rfl rfl rfl <| SegL.skipGE rfl rfl rfl rfl ?_
   refine SegL.skipGE rfl rfl rfl rfl <| SegL.skipGE rfl rfl rfl rfl <| SegL.skipGE rfl rfl rfl rfl <| SegL.skipGE rfl rfl rfl rfl <| SegL.skipGE rfl rfl rfl rfl <| SegL.opE (OpT.pickF rfl rfl) rfl <| SegL.doneE <| EndL.is (t := 0) rfl ?_
   refine EndL.is (t := 3) rfl <| EndL.is (t := 4) rfl <| EndL.is (t := 5) rfl <| EndL.is (t := 6) rfl <| EndL.is (t := 8) rfl <| EndL.is (t := 9) rfl <| EndL.is (t := 33) rfl <| EndL.is (t := 34) rfl ?_
   refine EndL.is (t := 35) rfl <| EndL.is (t := 51) rfl <| EndL.seg <| Seg.nilT <| Wp.condF rfl <| Wp.exit <| At.then_x <| At.then_x ?_
   refine At.blk_hit <| At.then_n <| Wp.seq <| Wp.sr <| Seg.op (OpT.move rfl) rfl <| Seg.op (OpT.move rfl) rfl ?_
   refine Seg.rowLe (i := 4) rfl fun hb9 => ?_
   refine Seg.op (OpT.lenRow (i := 4) u55 rfl rfl) rfl <| Seg.op (OpT.eql rfl rfl) rfl <| Seg.nilT ?_
   refine Wp.joinT (fun LL HH OO => ∃ (l6 : List Int), ∃ (v15 : Value), ∃ (xs11 : List Value), [(0, v1), (3, v15), (4, v5), (5, (.int .i64 (k1:Int))), (6, (ptr B2 0)), (8, (ptr B3 0)), (9, (.int .i64 i1)), (33, v7), (34, (.int .i64 (x4.2.length:Int))), (35, (.int .i64 (k2:Int)))] = LL ∧ .blk B3 (.cells #[(.int .u8 x5.1), (.int .u8 x5.2.1), (.int .i64 x5.2.2)] 46 (0, 0)) :: .row v9 46 3 l4.length xs5 :: .blk B2 (.cells #[(.bool x2.1), v9] 43 (0, 0)) :: .row v5 43 2 l2.length xs3 :: .row v15 3 1 l6.length xs11 :: O = OO ∧ r05_reached_j21 fu l4 k2 nx2 x5 i1 l6 = some r ∧ LayL cI64 HH l6 xs11) ?_ ?_
   ·
    refine Wp.cond (b := decide (i1 = (l3.length:Int))) rfl (fun hb10 => ?_) (fun hb10 => ?_)
    ·
     replace hd := brT hb10 hd
     replace hb10 := of_decide_eq_true hb10
     obtain ⟨ha4, hd⟩ := chk_some hd
     refine Wp.region <| Seg.op (OpT.move rfl) rfl <| Seg.op (OpT.fld (o' := 2) fl46_2 rfl rfl) rfl <| Seg.op (OpT.ldBlk (i := 0) (v := (.int .i64 x5.2.2)) u3 rfl rfl rfl rfl) rfl <| Seg.buildD1 (c := cI64) (y := x5.2.2) (cs := [(.int .i64 x5.2.2)]) u55 ti3 rfl rfl rfl rfl (rfl) rfl fun v16 xs12 hq11 => Seg.appD (i := 5) (j := 0) (hq4.mono hl3) hq11 u55 ti3 rfl (by decide) rfl rfl rfl rfl (by decide) ha4 rfl fun v17 xs13 hq12 => Seg.drop (i := 0) <| Seg.op (OpT.assign rfl) rfl ?_
     refine Seg.nil ?_
     refine At.joinF (Hp.le.refl _) ⟨(l3 ++ ([x5.2.2] : List Int)), v17, xs13, rfl, rfl, hd, hq12⟩ (Sub.of rfl)
    replace hd := brF hb10 hd
    replace hb10 := of_decide_eq_false hb10
    refine Wp.skip ?_
    refine At.joinF (Hp.le.refl _) ⟨l3, v8, xs4, rfl, rfl, hd, (hq4.mono hl3)⟩ (Sub.of rfl)
   intro L5 H5 O5 hl5 hI5
   obtain ⟨l6, v15, xs11, rfl, rfl, hd, hq13⟩ := hI5
   unfold r05_reached_j21 at hd
   obtain ⟨ha5, hd⟩ := chk_some hd
   refine Wp.region <| Seg.op (OpT.fld (o' := 1) fl43_1 rfl rfl) rfl <| Seg.op (OpT.ldBlk (i := 2) (v := v9) u41 rfl rfl rfl rfl) rfl <| Seg.op (OpT.fld (o' := 0) fl46_0 rfl rfl) rfl <| Seg.op (OpT.ldBlk (i := 0) (v := (.int .u8 x5.1)) u5 rfl rfl rfl rfl) rfl <| Seg.op (OpT.fld (o' := 1) fl46_1 rfl rfl) rfl <| Seg.op (OpT.ldBlk (i := 0) (v := (.int .u8 x5.2.1)) u5 rfl rfl rfl rfl) rfl <| Seg.op (OpT.move rfl) rfl ?_
   refine Seg.op (OpT.buildS (vs := [(0, (.int .u8 x5.1)), (1, (.int .u8 x5.2.1)), (2, (.int .i64 i1))]) (cs := #[(.int .u8 x5.1), (.int .u8 x5.2.1), (.int .i64 i1)]) plf46 ti46 rfl rfl (vc_cons rfl (vc_cons rfl (vc_cons rfl (vc_nil)))) rfl) rfl <| Seg.buildD1 (c := (cP cU8 (cP cU8 cI64))) (y := (x5.1, x5.2.1, i1)) (cs := [(.int .u8 x5.1), (.int .u8 x5.2.1), (.int .i64 i1)]) u41 ti46 rfl rfl rfl rfl (⟨[(.int .u8 x5.1)], [(.int .u8 x5.2.1), (.int .i64 i1)], rfl, ⟨rfl, (show (0 : Int) ≤ x5.1 by omega), (show x5.1 ≤ (255 : Int) by omega)⟩, ⟨[(.int .u8 x5.2.1)], [(.int .i64 i1)], rfl, ⟨rfl, (show (0 : Int) ≤ x5.2.1 by omega), (show x5.2.1 ≤ (255 : Int) by omega)⟩, rfl⟩⟩) rfl fun v18 xs14 hq14 => Seg.appD (i := 2) (j := 0) (hq5.mono (hl3.trans hl5)) hq14 u41 ti46 rfl (by decide) rfl rfl rfl rfl (by decide) ha5 rfl fun v19 xs15 hq15 => Seg.drop (i := 0) <| Seg.op (OpT.fld (o' := 1) fl43_1 rfl rfl) rfl <| Seg.rowOne (i := 1) rfl fun ho2 => Seg.stBlk1 (i := 2) rfl rfl ho2 ti41 rfl (Nat.le_of_ble_eq_true rfl) ?_
   refine Seg.own (O := .blk B3 (.cells #[(.int .u8 x5.1), (.int .u8 x5.2.1), (.int .i64 x5.2.2)] 46 (0, 0)) :: .row v19 46 3 (l4 ++ ([(x5.1, x5.2.1, i1)] : List (Int × Int × Int))).length xs15 :: .blk B2 (.cells #[(.bool x2.1), v19] 43 (0, 0)) :: .row v5 43 2 l2.length xs3 :: .row v15 3 1 l6.length xs11 :: O) ?_ rfl
   refine Seg.nil <| At.blk_n <| At.then_n <| Wp.region <| Seg.op (OpT.add rfl rfl (fits64 (by omega))) rfl <| Seg.op (OpT.move rfl) rfl <| Seg.nil <| At.permK [1, 2, 3, 4] 5 rfl rfl rfl ?_
   refine At.nextF (hl3.trans hl5) ⟨l6, (l4 ++ ([(x5.1, x5.2.1, i1)] : List (Int × Int × Int))), (k2 + 1), v15, xs11, v19, xs15, rfl, rfl, (by rw [← hn2]; exact hd), hq13, hq15⟩ (Sub.of rfl)
  replace hd := brF hb4 hd
  replace hb4 := of_decide_eq_false hb4
  refine Wp.exit <| At.then_x <| At.then_x <| At.blk_hit <| At.then_n ?_
  obtain ⟨ha6, hd⟩ := chk_some hd
  refine Wp.region <| Seg.op (OpT.move rfl) rfl <| Seg.op (OpT.ldBlkW (i := 1) u43 rfl ti43 rfl rfl rfl) rfl ?_
  refine Seg.rowLe (i := 0) rfl fun hb11 => ?_
  refine Seg.freeze (i := 0) rfl fun H6 hl6 hs1 => ?_
  have hv4 := SlD.of (c := (cP cU8 (cP cU8 cI64))) hs1 rfl (hq5.mono hl6) hb11
  refine Seg.buildD1 (c := (cP cB (cL (cP cU8 (cP cU8 cI64))))) (y := (x2.1, l4)) (cs := [(.bool x2.1), v9]) u22 ti43 rfl rfl rfl rfl (⟨[(.bool x2.1)], [v9], rfl, rfl, ⟨_, rfl, hv4⟩⟩) rfl fun v20 xs16 hq16 => Seg.appD (i := 2) (j := 0) (hq3.mono (hl2.trans hl6)) hq16 u22 ti43 rfl (by decide) rfl rfl rfl rfl (by decide) ha6 rfl fun v21 xs17 hq17 => Seg.drop (i := 0) <| Seg.op (OpT.assign rfl) rfl <| Seg.nil <| At.blk_n <| At.then_n <| Wp.region ?_
  refine Seg.op (OpT.move rfl) rfl <| Seg.op (OpT.add rfl rfl (fits64 (by omega))) rfl <| Seg.op (OpT.assign rfl) rfl <| Seg.nil <| At.permK [1, 2] 3 rfl rfl rfl ?_
  refine At.nextF (hl2.trans hl6) ⟨l3, (l2 ++ ([(x2.1, l4)] : List (Bool × (List (Int × Int × Int))))), (k1 + 1), v8, xs4, v21, xs17, rfl, rfl, (by rw [← hn1]; exact hd), (hq4.mono hl6), hq17⟩ (Sub.of rfl)
 replace hd := brF hb2 hd
 replace hb2 := of_decide_eq_false hb2
 refine Wp.exit <| At.then_x <| At.then_x <| At.blk_hit <| At.then_n <| Wp.sr <| Seg.op (OpT.move rfl) rfl <| Seg.op (OpT.assign rfl) rfl ?_
 refine Seg.nilT <| Wp.ret ?_
 refine At.rowLe (i := 0) rfl fun hb12 => ?_
 refine At.freeze (i := 0) rfl fun H7 hl7 hs2 => ?_
 have hv5 := SlD.of (c := (cP cB (cL (cP cU8 (cP cU8 cI64))))) hs2 rfl (hq3.mono hl7) hb12
 obtain rfl := Option.some.inj hd
 exact At.res1 rfl (RV.tmp (v := v5) rfl) (fun w hs => ⟨_, _, _, rfl, (hl1.trans hl7), (hs.dropN 1), ⟨⟨v5, rfl, hv5⟩, rfl⟩⟩)
set_option maxRecDepth 100000 in
set_option maxHeartbeats 4000000 in
theorem r05_numbered_w {fu : Nat} {a0 : List Int} {a1 : List Int} {a2 : Int} {v1 v2 : Value} {r : Int} (hv1 : SlD cI64 H a0 v1) (hv2 : SlD cI64 H a1 v2) (hd : r05_numbered fu a0 a1 a2 = some r) :
    TriV Tryz.prog 33 [v1, v2, (.int .i64 a2)] H O (.int .i64 r) := by
 intro w hs
 refine wp_of Tryz.func33 rfl rfl rfl ?_ hs
 clear hs w
 unfold r05_numbered at hd
 refine Wp.sr <| Seg.op (OpT.assign rfl) rfl <| Seg.nilT <| Wp.seq <| Wp.sr <| Seg.op (OpT.move rfl) rfl ?_
 have hb1 := hv1.le
 refine Seg.op (OpT.len u55 rfl hv1.sl) rfl <| Seg.op (OpT.move rfl) rfl <| Seg.nilT <| Wp.block <| Wp.loopF (fun m LL HH OO => ∃ (k1 : Nat), [(0, v1), (1, v2), (2, (.int .i64 a2)), (9, v1), (10, (.int .i64 (a0.length:Int))), (11, (.int .i64 (k1:Int)))] = LL ∧ O = OO ∧ loopK m (r05_numbered_b1 fu a0 a1 a2) k1 = some r) fu ⟨0, rfl, rfl, hd⟩ (Sub.of rfl) ?_
 intro m1 L1 H1 O1 hl1 hI1
 obtain ⟨k1, rfl, rfl, hd⟩ := hI1
 replace hd := loopK_some hd; obtain ⟨m2, rfl, hd⟩ := hd
 obtain ⟨nx1, hn1⟩ : ∃ f, f = loopK m2 (r05_numbered_b1 fu a0 a1 a2) := ⟨_, rfl⟩
 rw [← hn1] at hd
 replace hd : r05_numbered_b1 fu a0 a1 a2 k1 nx1 = some r := hd
 unfold r05_numbered_b1 at hd
 refine Wp.sr <| Seg.op (OpT.lss rfl rfl) rfl <| Seg.nilT <| Wp.seq ?_
 refine Wp.cond (b := decide ((k1:Int) < (a0.length:Int))) rfl (fun hb2 => ?_) (fun hb2 => ?_)
 ·
  replace hd := brT hb2 hd
  replace hb2 := of_decide_eq_true hb2
  refine Wp.skip <| At.then_n <| Wp.seq <| Wp.block <| Wp.seq ?_
  obtain ⟨x1, hx1, hd⟩ := bnd_some hd
  have hx1_ := idx_bd hx1
  refine Wp.region <| Seg.op (OpT.move rfl) rfl ?_
  obtain ⟨_, rfl, hc1⟩ := SlD.get (hv1.mono hl1) hx1
  refine Seg.op (OpT.ixSl u55 ti3 rfl (hv1.mono hl1).sl rfl (idx_bd hx1)) rfl <| Seg.op (OpT.ldH u3 rfl rfl (hc1 0 _ rfl)) rfl <| Seg.op (OpT.assign rfl) rfl <| Seg.op (OpT.assign rfl) rfl <| Seg.nilT <| Wp.seq ?_
  obtain ⟨x2, hx2, hd⟩ := bnd_some hd
  have hx2_ := idx_bd hx2
  obtain ⟨x3, hx3, hd⟩ := bnd_some hd
  have hx3_ := idx_bd hx3
  obtain ⟨_, rfl, hc2⟩ := SlD.get (hv2.mono hl1) hx2
  obtain ⟨_, rfl, hc3⟩ := SlD.get (hv2.mono hl1) hx3
  refine Wp.drawE 9 follows rfl (by kernel_rfl) <| SegL.opE (OpT.move rfl) rfl <| SegL.opE (OpT.move rfl) rfl <| SegL.opE (OpT.ixSl u55 ti3 rfl (hv2.mono hl1).sl rfl (idx_bd hx2)) rfl <| SegL.opE (OpT.ldH u3 rfl rfl (hc2 0 _ rfl)) rfl <| SegL.opE (OpT.move rfl) rfl <| SegL.opE (OpT.move rfl) rfl <| SegL.opE (OpT.ixSl u55 ti3 rfl (hv2.mono hl1).sl rfl (idx_bd hx3)) rfl ?_
  refine SegL.opE (OpT.ldH u3 rfl rfl (hc3 0 _ rfl)) rfl <| SegL.opE (OpT.eql rfl rfl) rfl <| SegL.doneE <| EndL.is (t := 0) rfl <| EndL.is (t := 1) rfl <| EndL.is (t := 2) rfl <| EndL.is (t := 7) rfl <| EndL.is (t := 9) rfl ?_
  refine EndL.is (t := 10) rfl <| EndL.is (t := 11) rfl <| EndL.is (t := 24) rfl <| EndL.seg <| Seg.nilT ?_
  refine Wp.cond (b := decide (x2 = x3)) rfl (fun hb3 => ?_) (fun hb3 => ?_)
  ·
   replace hd := brT hb3 hd
   replace hb3 := of_decide_eq_true hb3
   refine Wp.sr <| Seg.op (OpT.move rfl) rfl <| Seg.op (OpT.assign rfl) rfl <| Seg.nilT <| Wp.ret <| At.blk_r <| At.then_r <| At.then_r ?_
   refine At.blk_r <| At.then_r ?_
   obtain rfl := Option.some.inj hd
   exact At.res1 rfl (RV.tmp (v := (.int .i64 (k1:Int))) rfl) (fun w hs => ⟨rfl, (hs.dropN 0).weaken hl1⟩)
  replace hd := brF hb3 hd
  replace hb3 := of_decide_eq_false hb3
  refine Wp.skip <| At.blk_n <| At.then_n <| Wp.region <| Seg.op (OpT.add rfl rfl (fits64 (by omega))) rfl <| Seg.op (OpT.move rfl) rfl <| Seg.nil ?_
  refine At.nextF (Hp.le.refl _) ⟨(k1 + 1), rfl, rfl, (by rw [← hn1]; exact hd)⟩ (Sub.of rfl)
 replace hd := brF hb2 hd
 replace hb2 := of_decide_eq_false hb2
 refine Wp.exit <| At.then_x <| At.then_x <| At.blk_hit <| At.then_n <| Wp.sr <| Seg.op (OpT.move rfl) rfl ?_
 have hb4 := hv1.le
 refine Seg.op (OpT.len u55 rfl (hv1.mono hl1).sl) rfl <| Seg.op (OpT.assign rfl) rfl <| Seg.nilT <| Wp.ret ?_
 obtain rfl := Option.some.inj hd
 exact At.res1 rfl (RV.tmp (v := (.int .i64 (a0.length:Int))) rfl) (fun w hs => ⟨rfl, (hs.dropN 0).weaken hl1⟩)
set_option maxRecDepth 100000 in
set_option maxHeartbeats 4000000 in
theorem r05_Minimal_w {fu : Nat} {a0 : List (Bool × (List (Int × Int × Int)))} {v1 : Value} {r : (List (Bool × (List (Int × Int × Int)))) × Int} (hv1 : SlD (cP cB (cL (cP cU8 (cP cU8 cI64)))) H a0 v1) (hd : r05_Minimal fu a0 = some r) :
    Tri Tryz.prog 9 [v1] H O (fun v H' O' => (∃ v2 : Value, (.tuple #[(.agg #[v2]), (.int .i64 r.2)]) = v ∧ SlD (cP cB (cL (cP cU8 (cP cU8 cI64)))) H' r.1 v2) ∧ O = O') := by
 intro w hs
 refine wp_of Tryz.func9 rfl rfl rfl ?_ hs
 clear hs w
 unfold r05_Minimal at hd
 refine Wp.sr <| Seg.alloc (cs := #[(.slice none 0 0)]) ti26 rfl rfl fun B2 => Seg.op (OpT.assign rfl) rfl <| Seg.nilT <| Wp.seq <| Wp.seq ?_
 obtain ⟨x1, hx1, hd⟩ := bnd_some hd
 refine Wp.region <| Seg.op (OpT.move rfl) rfl <| Seg.op (OpT.call ent16 rfl (r05_Wellformed_w hv1 hx1)) rfl <| Seg.op (OpT.not rfl) rfl <| Seg.nilT ?_
 refine Wp.cond (b := !x1) rfl (fun hb1 => ?_) (fun hb1 => ?_)
 ·
  replace hd := brT hb1 hd
  refine Wp.sr <| Seg.op (OpT.buildS (vs := []) (cs := #[(.slice none 0 0)]) plf26 ti26 rfl rfl (vc_nil) rfl) rfl <| Seg.stBlkW (i := 0) (cs' := #[(.slice none 0 0)]) rfl rfl ti26 rfl rfl (onesA (ones_cons rfl (ones_nil))) rfl ?_
  refine Seg.own (O := .blk B2 (.cells #[(.slice none 0 0)] 26 (0, 0)) :: O) ?_ rfl
  refine Seg.op (OpT.assign rfl) rfl <| Seg.nilT <| Wp.ret <| At.then_r ?_
  obtain rfl := Option.some.inj hd
  exact At.res2 rfl (RV.cellA (i := 0) rfl u26 rfl ti26 rfl rfl) (RV.tmp (v := (.int .i64 11)) rfl) (fun w hs => ⟨_, _, _, rfl, (Hp.le.refl _), (hs.dropN 1), ⟨⟨(.slice none 0 0), rfl, SlD.nil⟩, rfl⟩⟩)
 replace hd := brF hb1 hd
 refine Wp.skip <| At.then_n <| Wp.seq <| Wp.seq ?_
 rcases Bool.eq_false_or_eq_true (decide ((a0.length:Int) = 0)) with hg1 | hg1
 ·
  replace hd := brT hg1 hd
  have hg1_ := of_decide_eq_true hg1
  refine Wp.region <| Seg.op (OpT.move rfl) rfl ?_
  have hb2 := hv1.le
  refine Seg.op (OpT.len u22 rfl hv1.sl) rfl <| Seg.op (OpT.asB (b := decide ((a0.length:Int) = 0)) (c := true) (OpT.eql rfl rfl) hg1) rfl <| Seg.op (OpT.move rfl) rfl <| Seg.skipG rfl rfl rfl rfl <| Seg.skipG rfl rfl rfl rfl <| Seg.skipG rfl rfl rfl rfl <| Seg.skipG rfl rfl rfl rfl <| Seg.skipG rfl rfl rfl rfl ?_
  refine Seg.op (OpT.pickT rfl rfl) rfl <| Seg.nilT <| Wp.condT rfl <| Wp.sr <| Seg.op (OpT.buildS (vs := []) (cs := #[(.slice none 0 0)]) plf26 ti26 rfl rfl (vc_nil) rfl) rfl <| Seg.stBlkW (i := 0) (cs' := #[(.slice none 0 0)]) rfl rfl ti26 rfl rfl (onesA (ones_cons rfl (ones_nil))) rfl ?_
  refine Seg.own (O := .blk B2 (.cells #[(.slice none 0 0)] 26 (0, 0)) :: O) ?_ rfl
  refine Seg.op (OpT.assign rfl) rfl <| Seg.nilT <| Wp.ret <| At.then_r ?_
  obtain rfl := Option.some.inj hd
  exact At.res2 rfl (RV.cellA (i := 0) rfl u26 rfl ti26 rfl rfl) (RV.tmp (v := (.int .i64 0)) rfl) (fun w hs => ⟨_, _, _, rfl, (Hp.le.refl _), (hs.dropN 1), ⟨⟨(.slice none 0 0), rfl, SlD.nil⟩, rfl⟩⟩)
 replace hd := brF hg1 hd
 have hg1_ := of_decide_eq_false hg1
 obtain ⟨x2, hx2, hd⟩ := bnd_some hd
 obtain ⟨x3, hx3, hd⟩ := bnd_some hd
 have hx3_ := idx_bd hx3
 refine Wp.region <| Seg.op (OpT.move rfl) rfl ?_
 have hb2 := hv1.le
 refine Seg.op (OpT.len u22 rfl hv1.sl) rfl <| Seg.op (OpT.asB (b := decide ((a0.length:Int) = 0)) (c := false) (OpT.eql rfl rfl) hg1) rfl <| Seg.op (OpT.move rfl) rfl <| Seg.opG rfl rfl (OpT.move rfl) rfl <| Seg.opSG rfl rfl (OpS.call ent27 rfl (r05_alive_w hv1 hx2)) rfl ?_
 rintro _ H1 _ hl1 ⟨⟨v3, rfl, hv2⟩, rfl⟩
 obtain ⟨_, rfl, hc1⟩ := SlD.get hv2 hx3
 refine Seg.opG rfl rfl (OpT.ixSl u52 ti4 rfl hv2.sl rfl (idx_bd hx3)) rfl <| Seg.opG rfl rfl (OpT.ldH u4 rfl rfl (hc1 0 _ rfl)) rfl <| Seg.opG rfl rfl (OpT.not rfl) rfl <| Seg.op (OpT.pickF rfl rfl) rfl <| Seg.nilT ?_
 refine Wp.cond (b := !x3) rfl (fun hb3 => ?_) (fun hb3 => ?_)
 ·
  replace hd := brT hb3 hd
  refine Wp.sr <| Seg.op (OpT.buildS (vs := []) (cs := #[(.slice none 0 0)]) plf26 ti26 rfl rfl (vc_nil) rfl) rfl <| Seg.stBlkW (i := 0) (cs' := #[(.slice none 0 0)]) rfl rfl ti26 rfl rfl (onesA (ones_cons rfl (ones_nil))) rfl ?_
  refine Seg.own (O := .blk B2 (.cells #[(.slice none 0 0)] 26 (0, 0)) :: O) ?_ rfl
  refine Seg.op (OpT.assign rfl) rfl <| Seg.nilT <| Wp.ret <| At.then_r ?_
  obtain rfl := Option.some.inj hd
  exact At.res2 rfl (RV.cellA (i := 0) rfl u26 rfl ti26 rfl rfl) (RV.tmp (v := (.int .i64 0)) rfl) (fun w hs => ⟨_, _, _, rfl, hl1, (hs.dropN 1), ⟨⟨(.slice none 0 0), rfl, SlD.nil⟩, rfl⟩⟩)
 replace hd := brF hb3 hd
 refine Wp.skip <| At.then_n <| Wp.seq ?_
 obtain ⟨x4, hx4, hd⟩ := bnd_some hd
 obtain ⟨x5, hx5, hd⟩ := bnd_some hd
 refine Wp.region <| Seg.op (OpT.move rfl) rfl <| Seg.opS (OpS.call ent29 rfl (r05_reached_w (hv1.mono hl1) hx4)) rfl ?_
 rintro _ H2 _ hl2 ⟨⟨v4, rfl, hv3⟩, rfl⟩
 refine Seg.opS (OpS.call ent28 rfl (r05_trimmed_w hv3 hx5)) rfl ?_
 rintro _ H3 _ hl3 ⟨⟨v5, rfl, hv4⟩, rfl⟩
 refine Seg.op (OpT.assign rfl) rfl <| Seg.nilT <| Wp.seq ?_
 obtain ⟨x6, hx6, hd⟩ := bnd_some hd
 refine Wp.region <| Seg.op (OpT.move rfl) rfl <| Seg.opS (OpS.call ent30 rfl (r05_Starts_w hv4 hx6)) rfl ?_
 rintro _ H4 _ hl4 ⟨⟨v6, rfl, hv5⟩, rfl⟩
 refine Seg.op (OpT.assign rfl) rfl <| Seg.nilT <| Wp.seq ?_
 obtain ⟨x7, hx7, hd⟩ := bnd_some hd
 refine Wp.region <| Seg.op (OpT.move rfl) rfl <| Seg.op (OpT.move rfl) rfl <| Seg.opS (OpS.call ent31 rfl (r05_classes_w (hv4.mono hl4) hv5 hx7)) rfl ?_
 rintro _ H5 _ hl5 ⟨⟨v7, rfl, hv6⟩, rfl⟩
 refine Seg.op (OpT.assign rfl) rfl <| Seg.nilT <| Wp.sr <| Seg.buildD1 (c := cI64) (y := 0) (cs := [(.int .i64 0)]) u55 ti3 rfl rfl rfl rfl (rfl) rfl fun v8 xs1 hq1 => Seg.op (OpT.assign rfl) rfl <| Seg.nilT <| Wp.sr <| Seg.alloc (cs := #[(.slice none 0 0)]) ti26 rfl rfl fun B3 => ?_
 refine Seg.nilT <| Wp.seq <| Wp.sr <| Seg.op (OpT.assign rfl) rfl <| Seg.nilT <| Wp.block <| Wp.nilRow 43 2 <| Wp.loopF (fun m LL HH OO => ∃ (l1 : List Int), ∃ (l2 : List (Bool × (List (Int × Int × Int)))), ∃ (k1 : Nat), ∃ (v9 : Value), ∃ (xs2 : List Value), ∃ (v10 : Value), ∃ (xs3 : List Value), [(2, (ptr B2 0)), (4, v5), (5, v6), (6, v7), (7, v9), (8, (ptr B3 0)), (9, (.int .i64 (k1:Int)))] = LL ∧ .row v10 43 2 l2.length xs3 :: .blk B3 (.cells #[v10] 26 (0, 0)) :: .row v9 3 1 l1.length xs2 :: .blk B2 (.cells #[(.slice none 0 0)] 26 (0, 0)) :: O = OO ∧ loopK m (fun p nx => r05_Minimal_b13 fu x5 x6 x7 p.1 p.2.1 p.2.2 nx) (l1, l2, k1) = some r ∧ LayL cI64 HH l1 xs2 ∧ LayL (cP cB (cL (cP cU8 (cP cU8 cI64)))) HH l2 xs3) fu ⟨([0] : List Int), ([] : List (Bool × (List (Int × Int × Int)))), 0, v8, xs1, (.slice none 0 0), [], rfl, rfl, hd, hq1, (LayL.nil (c := (cP cB (cL (cP cU8 (cP cU8 cI64))))) (H := H5))⟩ (Sub.of rfl) ?_
 intro m1 L1 H6 O1 hl6 hI1
 obtain ⟨l1, l2, k1, v9, xs2, v10, xs3, rfl, rfl, hd, hq2, hq3⟩ := hI1
 replace hd := loopK_some hd; obtain ⟨m2, rfl, hd⟩ := hd
 obtain ⟨nx1, hn1⟩ : ∃ f, f = loopK m2 (fun p nx => r05_Minimal_b13 fu x5 x6 x7 p.1 p.2.1 p.2.2 nx) := ⟨_, rfl⟩
 rw [← hn1] at hd
 replace hd : r05_Minimal_b13 fu x5 x6 x7 l1 l2 k1 nx1 = some r := hd
 unfold r05_Minimal_b13 at hd
 refine Wp.seq <| Wp.sr <| Seg.op (OpT.move rfl) rfl <| Seg.op (OpT.move rfl) rfl ?_
 refine Seg.rowLe (i := 2) rfl fun hb4 => ?_
 refine Seg.op (OpT.lenRow (i := 2) u55 rfl rfl) rfl <| Seg.op (OpT.lss rfl rfl) rfl <| Seg.nilT ?_
 refine Wp.cond (b := decide ((k1:Int) < (l1.length:Int))) rfl (fun hb5 => ?_) (fun hb5 => ?_)
 ·
  replace hd := brT hb5 hd
  replace hb5 := of_decide_eq_true hb5
  refine Wp.skip <| At.then_n <| Wp.seq <| Wp.block <| Wp.seq ?_
  obtain ⟨x8, hx8, hd⟩ := bnd_some hd
  have hx8_ := idx_bd hx8
  obtain ⟨x9, hx9, hd⟩ := bnd_some hd
  have hx9_ := idx_bd hx9
  refine Wp.region <| Seg.op (OpT.move rfl) rfl <| Seg.op (OpT.move rfl) rfl <| Seg.op (OpT.move rfl) rfl ?_
  obtain ⟨_, rfl, hc2, hc2_⟩ := LayL.get hq2 (idx_some hx8).2
  refine Seg.op (OpT.ixRow (j := 2) u55 ti3 rfl rfl rfl (idx_bd hx8)) rfl <| Seg.op (OpT.ldRow (i := 2) (k := k1 * 1 + 0) u3 rfl rfl rfl (hc2 0 _ rfl)) rfl ?_
  obtain ⟨_, ⟨_, _, rfl, rfl, ⟨v11, rfl, hv7⟩⟩, hc3⟩ := SlD.get (hv4.mono ((hl4.trans hl5).trans hl6)) hx9
  refine Seg.op (OpT.ixSl u22 ti43 rfl (hv4.mono ((hl4.trans hl5).trans hl6)).sl rfl (idx_bd hx9)) rfl <| Seg.op (OpT.fldE fl43_0 rfl (hv4.mono ((hl4.trans hl5).trans hl6)).sl (by omega)) rfl <| Seg.op (OpT.ldH u4 rfl rfl (hc3 0 _ rfl)) rfl <| Seg.op (OpT.buildS (vs := [(0, (.bool x9.1))]) (cs := #[(.bool x9.1), (.slice none 0 0)]) plf43 ti43 rfl rfl (vc_cons rfl (vc_nil)) rfl) rfl <| Seg.alloc (cs := #[(.bool false), (.slice none 0 0)]) ti43 rfl rfl fun B4 => Seg.stBlkW (i := 0) (cs' := #[(.bool x9.1), (.slice none 0 0)]) rfl rfl ti43 rfl rfl (onesA (ones_cons rfl (ones_cons rfl (ones_nil)))) rfl ?_
  refine Seg.own (O := .blk B4 (.cells #[(.bool x9.1), (.slice none 0 0)] 43 (0, 0)) :: .row v10 43 2 l2.length xs3 :: .blk B3 (.cells #[v10] 26 (0, 0)) :: .row v9 3 1 l1.length xs2 :: .blk B2 (.cells #[(.slice none 0 0)] 26 (0, 0)) :: O) ?_ rfl
  refine Seg.nilT <| Wp.seq <| Wp.sr <| Seg.op (OpT.move rfl) rfl ?_
  have hb6 := hv5.le
  refine Seg.op (OpT.len u55 rfl (hv5.mono (hl5.trans hl6)).sl) rfl <| Seg.op (OpT.move rfl) rfl <| Seg.nilT <| Wp.block <| Wp.nilRow 46 3 <| Wp.loopF (fun m LL HH OO => ∃ (l3 : List Int), ∃ (l4 : List (Int × Int × Int)), ∃ (k2 : Nat), ∃ (v12 : Value), ∃ (xs4 : List Value), ∃ (v13 : Value), ∃ (xs5 : List Value), [(2, (ptr B2 0)), (4, v5), (5, v6), (6, v7), (7, v12), (8, (ptr B3 0)), (9, (.int .i64 (k1:Int))), (10, (ptr B4 0)), (56, v6), (57, (.int .i64 (x6.length:Int))), (58, (.int .i64 (k2:Int)))] = LL ∧ .row v13 46 3 l4.length xs5 :: .blk B4 (.cells #[(.bool x9.1), v13] 43 (0, 0)) :: .row v10 43 2 l2.length xs3 :: .blk B3 (.cells #[v10] 26 (0, 0)) :: .row v12 3 1 l3.length xs4 :: .blk B2 (.cells #[(.slice none 0 0)] 26 (0, 0)) :: O = OO ∧ loopK m (fun p nx => r05_Minimal_b18 fu x5 x6 x7 l2 k1 nx1 x9 p.1 p.2.1 p.2.2 nx) (l3, l4, k2) = some r ∧ LayL cI64 HH l3 xs4 ∧ LayL (cP cU8 (cP cU8 cI64)) HH l4 xs5) fu ⟨l1, ([] : List (Int × Int × Int)), 0, v9, xs2, (.slice none 0 0), [], rfl, rfl, hd, hq2, (LayL.nil (c := (cP cU8 (cP cU8 cI64))) (H := H6))⟩ (Sub.of rfl) ?_
  intro m3 L2 H7 O2 hl7 hI2
  obtain ⟨l3, l4, k2, v12, xs4, v13, xs5, rfl, rfl, hd, hq4, hq5⟩ := hI2
  replace hd := loopK_some hd; obtain ⟨m4, rfl, hd⟩ := hd
  obtain ⟨nx2, hn2⟩ : ∃ f, f = loopK m4 (fun p nx => r05_Minimal_b18 fu x5 x6 x7 l2 k1 nx1 x9 p.1 p.2.1 p.2.2 nx) := ⟨_, rfl⟩
  rw [← hn2] at hd
  replace hd : r05_Minimal_b18 fu x5 x6 x7 l2 k1 nx1 x9 l3 l4 k2 nx2 = some r := hd
  unfold r05_Minimal_b18 at hd
  refine Wp.sr <| Seg.op (OpT.lss rfl rfl) rfl <| Seg.nilT <| Wp.seq ?_
  refine Wp.cond (b := decide ((k2:Int) < (x6.length:Int))) rfl (fun hb7 => ?_) (fun hb7 => ?_)
  ·
   replace hd := brT hb7 hd
   replace hb7 := of_decide_eq_true hb7
   refine Wp.skip <| At.then_n <| Wp.seq <| Wp.block <| Wp.seq ?_
   obtain ⟨x10, hx10, hd⟩ := bnd_some hd
   have hx10_ := idx_bd hx10
   refine Wp.region <| Seg.op (OpT.move rfl) rfl ?_
   obtain ⟨_, rfl, hc4⟩ := SlD.get (hv5.mono ((hl5.trans hl6).trans hl7)) hx10
   refine Seg.op (OpT.ixSl u55 ti3 rfl (hv5.mono ((hl5.trans hl6).trans hl7)).sl rfl (idx_bd hx10)) rfl <| Seg.op (OpT.ldH u3 rfl rfl (hc4 0 _ rfl)) rfl <| Seg.op (OpT.assign rfl) rfl <| Seg.op (OpT.assign rfl) rfl <| Seg.nilT <| Wp.seq ?_
   obtain ⟨x11, hx11, hd⟩ := bnd_some hd
   have hx11_ := idx_bd hx11
   obtain ⟨ha1, hd⟩ := chk_some hd
   have := ha1
   obtain ⟨x12, hx12, hd⟩ := bnd_some hd
   refine Wp.region <| Seg.op (OpT.move rfl) rfl <| Seg.op (OpT.move rfl) rfl <| Seg.op (OpT.move rfl) rfl ?_
   obtain ⟨_, rfl, hc5, hc5_⟩ := LayL.get hq4 (idx_some hx11).2
   refine Seg.op (OpT.ixRow (j := 4) u55 ti3 rfl rfl rfl (idx_bd hx11)) rfl <| Seg.op (OpT.ldRow (i := 4) (k := k1 * 1 + 0) u3 rfl rfl rfl (hc5 0 _ rfl)) rfl <| Seg.op (OpT.move rfl) rfl <| Seg.op (OpT.conv u3 u5 rfl (fitsU8 ha1)) rfl <| Seg.op (OpT.call ent32 rfl (r05_Step_w (hv4.mono (((hl4.trans hl5).trans hl6).trans hl7)) (by omega) (by omega) hx12)) rfl <| Seg.op (OpT.assign rfl) rfl <| Seg.nilT <| Wp.seq ?_
   refine Wp.sr <| Seg.op (OpT.move rfl) rfl <| Seg.op (OpT.lss rfl rfl) rfl <| Seg.nilT ?_
   refine Wp.cond (b := decide (x12 < 0)) rfl (fun hb8 => ?_) (fun hb8 => ?_)
   ·
    replace hd := brT hb8 hd
    replace hb8 := of_decide_eq_true hb8
    refine Wp.exit <| At.then_x <| At.blk_hit <| At.then_n <| Wp.region <| Seg.op (OpT.add rfl rfl (fits64 (by omega))) rfl <| Seg.op (OpT.move rfl) rfl <| Seg.nil ?_
    refine At.nextF (Hp.le.refl _) ⟨l3, l4, (k2 + 1), v12, xs4, v13, xs5, rfl, rfl, (by rw [← hn2]; exact hd), hq4, hq5⟩ (Sub.of rfl)
   replace hd := brF hb8 hd
   replace hb8 := of_decide_eq_false hb8
   refine Wp.skip <| At.then_n <| Wp.sr <| Seg.op (OpT.assign rfl) rfl <| Seg.nilT <| Wp.seq <| Wp.sr <| Seg.op (OpT.move rfl) rfl ?_
   refine Seg.op (OpT.add rfl rfl (fits64 (by omega))) rfl <| Seg.op (OpT.move rfl) rfl ?_
   have hb9 := hv5.le
   refine Seg.op (OpT.len u55 rfl (hv5.mono ((hl5.trans hl6).trans hl7)).sl) rfl <| Seg.op (OpT.lss rfl rfl) rfl <| Seg.nilT ?_
   refine Wp.joinT (fun LL HH OO => ∃ (i1 : Int), [(2, (ptr B2 0)), (4, v5), (5, v6), (6, v7), (7, v12), (8, (ptr B3 0)), (9, (.int .i64 (k1:Int))), (10, (ptr B4 0)), (12, (.int .i64 x10)), (13, (.int .i64 x12)), (14, (.int .i64 i1)), (56, v6), (57, (.int .i64 (x6.length:Int))), (58, (.int .i64 (k2:Int)))] = LL ∧ .row v13 46 3 l4.length xs5 :: .blk B4 (.cells #[(.bool x9.1), v13] 43 (0, 0)) :: .row v10 43 2 l2.length xs3 :: .blk B3 (.cells #[v10] 26 (0, 0)) :: .row v12 3 1 l3.length xs4 :: .blk B2 (.cells #[(.slice none 0 0)] 26 (0, 0)) :: O = OO ∧ r05_Minimal_j19 fu x7 l3 l4 k2 nx2 x10 x12 i1 = some r) ?_ ?_
   ·
    refine Wp.cond (b := decide (((k2:Int) + 1) < (x6.length:Int))) rfl (fun hb10 => ?_) (fun hb10 => ?_)
    ·
     replace hd := brT hb10 hd
     replace hb10 := of_decide_eq_true hb10
     obtain ⟨x13, hx13, hd⟩ := bnd_some hd
     have hx13_ := idx_bd hx13
     obtain ⟨ha2, hd⟩ := chk_some hd
     refine Wp.region <| Seg.op (OpT.move rfl) rfl <| Seg.op (OpT.move rfl) rfl <| Seg.op (OpT.add rfl rfl (fits64 (by omega))) rfl ?_
     obtain ⟨_, rfl, hc6⟩ := SlD.get (hv5.mono ((hl5.trans hl6).trans hl7)) hx13
     refine Seg.op (OpT.ixSl u55 ti3 rfl (hv5.mono ((hl5.trans hl6).trans hl7)).sl rfl (idx_bd hx13)) rfl <| Seg.op (OpT.ldH u3 rfl rfl (hc6 0 _ rfl)) rfl <| Seg.op (OpT.sub rfl rfl (fits64 ha2)) rfl <| Seg.op (OpT.assign rfl) rfl <| Seg.nil ?_
     refine At.joinF (Hp.le.refl _) ⟨(x13 - 1), rfl, rfl, hd⟩ (Sub.of rfl)
    replace hd := brF hb10 hd
    replace hb10 := of_decide_eq_false hb10
    refine Wp.skip ?_
    refine At.joinF (Hp.le.refl _) ⟨255, rfl, rfl, hd⟩ (Sub.of rfl)
   intro L3 H8 O3 hl8 hI3
   obtain ⟨i1, rfl, rfl, hd⟩ := hI3
   unfold r05_Minimal_j19 at hd
   refine Wp.seq ?_
   obtain ⟨x14, hx14, hd⟩ := bnd_some hd
   refine Wp.region <| Seg.op (OpT.move rfl) rfl <| Seg.op (OpT.move rfl) rfl <| Seg.op (OpT.move rfl) rfl <| Seg.op (OpT.call ent33 rfl (TriV.lend (c := cI64) 4 rfl (hq4.mono hl8) (fun _ e1 d1 => r05_numbered_w d1 ((hv6.mono ((hl6.trans hl7).trans hl8)).mono e1) hx14))) rfl <| Seg.op (OpT.assign rfl) rfl <| Seg.nilT <| Wp.seq ?_
   refine Wp.sr <| Seg.op (OpT.move rfl) rfl <| Seg.op (OpT.move rfl) rfl ?_
   refine Seg.rowLe (i := 4) rfl fun hb11 => ?_
   refine Seg.op (OpT.lenRow (i := 4) u55 rfl rfl) rfl <| Seg.op (OpT.eql rfl rfl) rfl <| Seg.nilT ?_
   refine Wp.joinT (fun LL HH OO => ∃ (l5 : List Int), ∃ (v14 : Value), ∃ (xs6 : List Value), [(2, (ptr B2 0)), (4, v5), (5, v6), (6, v7), (7, v14), (8, (ptr B3 0)), (9, (.int .i64 (k1:Int))), (10, (ptr B4 0)), (12, (.int .i64 x10)), (14, (.int .i64 i1)), (15, (.int .i64 x14)), (56, v6), (57, (.int .i64 (x6.length:Int))), (58, (.int .i64 (k2:Int)))] = LL ∧ .row v13 46 3 l4.length xs5 :: .blk B4 (.cells #[(.bool x9.1), v13] 43 (0, 0)) :: .row v10 43 2 l2.length xs3 :: .blk B3 (.cells #[v10] 26 (0, 0)) :: .row v14 3 1 l5.length xs6 :: .blk B2 (.cells #[(.slice none 0 0)] 26 (0, 0)) :: O = OO ∧ r05_Minimal_j20 fu l4 k2 nx2 x10 i1 x14 l5 = some r ∧ LayL cI64 HH l5 xs6) ?_ ?_
   ·
    refine Wp.cond (b := decide (x14 = (l3.length:Int))) rfl (fun hb12 => ?_) (fun hb12 => ?_)
    ·
     replace hd := brT hb12 hd
     replace hb12 := of_decide_eq_true hb12
     obtain ⟨ha3, hd⟩ := chk_some hd
     refine Wp.region <| Seg.op (OpT.move rfl) rfl <| Seg.op (OpT.move rfl) rfl <| Seg.buildD1 (c := cI64) (y := x12) (cs := [(.int .i64 x12)]) u55 ti3 rfl rfl rfl rfl (rfl) rfl fun v15 xs7 hq6 => Seg.appD (i := 5) (j := 0) (hq4.mono hl8) hq6 u55 ti3 rfl (by decide) rfl rfl rfl rfl (by decide) ha3 rfl fun v16 xs8 hq7 => Seg.drop (i := 0) <| Seg.op (OpT.assign rfl) rfl <| Seg.nil ?_
     refine At.joinF (Hp.le.refl _) ⟨(l3 ++ ([x12] : List Int)), v16, xs8, rfl, rfl, hd, hq7⟩ (Sub.of rfl)
    replace hd := brF hb12 hd
    replace hb12 := of_decide_eq_false hb12
    refine Wp.skip ?_
    refine At.joinF (Hp.le.refl _) ⟨l3, v12, xs4, rfl, rfl, hd, (hq4.mono hl8)⟩ (Sub.of rfl)
   intro L4 H9 O4 hl9 hI4
   obtain ⟨l5, v14, xs6, rfl, rfl, hd, hq8⟩ := hI4
   unfold r05_Minimal_j20 at hd
   refine Wp.seq ?_
   obtain ⟨ha4, hd⟩ := chk_some hd
   refine Wp.region <| Seg.op (OpT.fld (o' := 1) fl43_1 rfl rfl) rfl <| Seg.op (OpT.ldBlk (i := 1) (v := v13) u41 rfl rfl rfl rfl) rfl ?_
   refine Seg.rowLe (i := 0) rfl fun hb13 => ?_
   refine Seg.op (OpT.lenRow (i := 0) u41 rfl rfl) rfl <| Seg.op (OpT.sub rfl rfl (fits64 ha4)) rfl <| Seg.op (OpT.assign rfl) rfl <| Seg.nilT <| Wp.seq ?_
   rcases Bool.eq_false_or_eq_true (decide (0 ≤ ((l4.length:Int) - 1))) with hg2 | hg2
   ·
    replace hd := brT hg2 hd
    have hg2_ := of_decide_eq_true hg2
    obtain ⟨x15, hx15, hd⟩ := bnd_some hd
    have hx15_ := idx_bd hx15
    rcases Bool.eq_false_or_eq_true (decide (x15.2.2 = x14)) with hg3 | hg3
    ·
     replace hd := brT hg3 hd
     have hg3_ := of_decide_eq_true hg3
     obtain ⟨x16, hx16, hd⟩ := bnd_some hd
     have hx16_ := idx_bd hx16
     obtain ⟨ha5, hd⟩ := chk_some hd
     refine Wp.region <| Seg.op (OpT.move rfl) rfl <| Seg.op (OpT.asB (b := decide (0 ≤ ((l4.length:Int) - 1))) (c := true) (OpT.geq rfl rfl) hg2) rfl <| Seg.op (OpT.move rfl) rfl <| Seg.opG rfl rfl (OpT.fld (o' := 1) fl43_1 rfl rfl) rfl <| Seg.opG rfl rfl (OpT.ldBlk (i := 1) (v := v13) u41 rfl rfl rfl rfl) rfl <| Seg.opG rfl rfl (OpT.move rfl) rfl ?_
     obtain ⟨_, ⟨_, _, rfl, ⟨rfl, hr1, hr2⟩, ⟨_, _, rfl, ⟨rfl, hr3, hr4⟩, rfl⟩⟩, hc7, hc7_⟩ := LayL.get (hq5.mono (hl8.trans hl9)) (idx_some hx15).2
     refine Seg.opG rfl rfl (OpT.ixRow (j := 0) u41 ti46 rfl rfl rfl (idx_bd hx15)) rfl <| Seg.opG rfl rfl (OpT.fldRow (q := 0) fl46_2 rfl rfl (by omega)) rfl <| Seg.opG rfl rfl (OpT.ldRow (i := 0) (k := (((l4.length:Int) - 1).toNat) * 3 + 2) u3 rfl rfl rfl (hc7 2 _ rfl)) rfl <| Seg.opG rfl rfl (OpT.move rfl) rfl <| Seg.opG rfl rfl (OpT.asB (b := decide (x15.2.2 = x14)) (c := true) (OpT.eql rfl rfl) hg3) rfl <| Seg.op (OpT.pickT rfl rfl) rfl <| Seg.op (OpT.move rfl) rfl <| Seg.opG rfl rfl (OpT.fld (o' := 1) fl43_1 rfl rfl) rfl ?_
     refine Seg.opG rfl rfl (OpT.ldBlk (i := 1) (v := v13) u41 rfl rfl rfl rfl) rfl <| Seg.opG rfl rfl (OpT.move rfl) rfl ?_
     obtain ⟨_, ⟨_, _, rfl, ⟨rfl, hr5, hr6⟩, ⟨_, _, rfl, ⟨rfl, hr7, hr8⟩, rfl⟩⟩, hc8, hc8_⟩ := LayL.get (hq5.mono (hl8.trans hl9)) (idx_some hx16).2
     refine Seg.opG rfl rfl (OpT.ixRow (j := 0) u41 ti46 rfl rfl rfl (idx_bd hx16)) rfl <| Seg.opG rfl rfl (OpT.fldRow (q := 0) fl46_1 rfl rfl (by omega)) rfl <| Seg.opG rfl rfl (OpT.ldRow (i := 0) (k := (((l4.length:Int) - 1).toNat) * 3 + 1) u5 rfl rfl rfl (hc8 1 _ rfl)) rfl <| Seg.opG rfl rfl (OpT.conv u5 u3 rfl (fits64 (by omega))) rfl <| Seg.opG rfl rfl (OpT.add rfl rfl (fits64 ha5)) rfl <| Seg.opG rfl rfl (OpT.move rfl) rfl <| Seg.opG rfl rfl (OpT.eql rfl rfl) rfl <| Seg.op (OpT.pickT rfl rfl) rfl ?_
     refine Seg.nilT ?_
     refine Wp.cond (b := decide ((x16.2.1 + 1) = x10)) rfl (fun hb14 => ?_) (fun hb14 => ?_)
     ·
      replace hd := brT hb14 hd
      replace hb14 := of_decide_eq_true hb14
      obtain ⟨ha6, hd⟩ := chk_some hd
      have := ha6
      obtain ⟨x17, hx17, hd⟩ := bnd_some hd
      have hx17_ := idx_bd hx17
      refine Wp.region <| Seg.op (OpT.fld (o' := 1) fl43_1 rfl rfl) rfl <| Seg.op (OpT.ldBlk (i := 1) (v := v13) u41 rfl rfl rfl rfl) rfl <| Seg.op (OpT.move rfl) rfl <| Seg.op (OpT.move rfl) rfl <| Seg.op (OpT.conv u3 u5 rfl (fitsU8 ha6)) rfl ?_
      obtain ⟨_, ⟨_, _, rfl, ⟨rfl, hr9, hr10⟩, ⟨_, _, rfl, ⟨rfl, hr11, hr12⟩, rfl⟩⟩, hc9, hc9_⟩ := LayL.get (hq5.mono (hl8.trans hl9)) (idx_some hx17).2
      refine Seg.op (OpT.ixRow (j := 0) u41 ti46 rfl rfl rfl (idx_bd hx17)) rfl <| Seg.op (OpT.fldRow (q := 0) fl46_1 rfl rfl (by omega)) rfl ?_
      refine Seg.stD (q := 0) (off := 1) (vs := [(.int .u8 i1)]) (y := (x17.1, i1, x17.2.2)) (cs := [(.int .u8 x17.1), (.int .u8 x17.2.1), (.int .i64 x17.2.2)]) (hq5.mono (hl8.trans hl9)) hx17 hc9_ rfl rfl rfl ti5 rfl rfl (ones_cons rfl (ones_nil)) rfl (⟨[(.int .u8 x17.1)], [(.int .u8 i1), (.int .i64 x17.2.2)], rfl, ⟨rfl, (show (0 : Int) ≤ x17.1 by omega), (show x17.1 ≤ (255 : Int) by omega)⟩, ⟨[(.int .u8 i1)], [(.int .i64 x17.2.2)], rfl, ⟨rfl, (show (0 : Int) ≤ i1 by omega), (show i1 ≤ (255 : Int) by omega)⟩, rfl⟩⟩) rfl (fun xs9 hq9 => ?_)
      refine Seg.nil <| At.blk_n <| At.then_n <| Wp.region <| Seg.op (OpT.add rfl rfl (fits64 (by omega))) rfl <| Seg.op (OpT.move rfl) rfl <| Seg.nil ?_
      refine At.nextF (hl8.trans hl9) ⟨l5, (l4.set (((l4.length:Int) - 1).toNat) (x17.1, i1, x17.2.2)), (k2 + 1), v14, xs6, v13, xs9, rfl, rfl, (by rw [← hn2]; exact hd), hq8, hq9⟩ (Sub.of rfl)
     replace hd := brF hb14 hd
     replace hb14 := of_decide_eq_false hb14
     obtain ⟨ha7, hd⟩ := chk_some hd
     have := ha7
     obtain ⟨ha8, hd⟩ := chk_some hd
     have := ha8
     obtain ⟨ha9, hd⟩ := chk_some hd
     refine Wp.region <| Seg.op (OpT.fld (o' := 1) fl43_1 rfl rfl) rfl <| Seg.op (OpT.ldBlk (i := 1) (v := v13) u41 rfl rfl rfl rfl) rfl <| Seg.op (OpT.move rfl) rfl <| Seg.op (OpT.conv u3 u5 rfl (fitsU8 ha7)) rfl <| Seg.op (OpT.move rfl) rfl <| Seg.op (OpT.conv u3 u5 rfl (fitsU8 ha8)) rfl <| Seg.op (OpT.move rfl) rfl ?_
     refine Seg.op (OpT.buildS (vs := [(0, (.int .u8 x10)), (1, (.int .u8 i1)), (2, (.int .i64 x14))]) (cs := #[(.int .u8 x10), (.int .u8 i1), (.int .i64 x14)]) plf46 ti46 rfl rfl (vc_cons rfl (vc_cons rfl (vc_cons rfl (vc_nil)))) rfl) rfl <| Seg.buildD1 (c := (cP cU8 (cP cU8 cI64))) (y := (x10, i1, x14)) (cs := [(.int .u8 x10), (.int .u8 i1), (.int .i64 x14)]) u41 ti46 rfl rfl rfl rfl (⟨[(.int .u8 x10)], [(.int .u8 i1), (.int .i64 x14)], rfl, ⟨rfl, (show (0 : Int) ≤ x10 by omega), (show x10 ≤ (255 : Int) by omega)⟩, ⟨[(.int .u8 i1)], [(.int .i64 x14)], rfl, ⟨rfl, (show (0 : Int) ≤ i1 by omega), (show i1 ≤ (255 : Int) by omega)⟩, rfl⟩⟩) rfl fun v17 xs10 hq10 => Seg.appD (i := 1) (j := 0) (hq5.mono (hl8.trans hl9)) hq10 u41 ti46 rfl (by decide) rfl rfl rfl rfl (by decide) ha9 rfl fun v18 xs11 hq11 => Seg.drop (i := 0) <| Seg.op (OpT.fld (o' := 1) fl43_1 rfl rfl) rfl <| Seg.rowOne (i := 0) rfl fun ho1 => Seg.stBlk1 (i := 1) rfl rfl ho1 ti41 rfl (Nat.le_of_ble_eq_true rfl) ?_
     refine Seg.own (O := .row v18 46 3 (l4 ++ ([(x10, i1, x14)] : List (Int × Int × Int))).length xs11 :: .blk B4 (.cells #[(.bool x9.1), v18] 43 (0, 0)) :: .row v10 43 2 l2.length xs3 :: .blk B3 (.cells #[v10] 26 (0, 0)) :: .row v14 3 1 l5.length xs6 :: .blk B2 (.cells #[(.slice none 0 0)] 26 (0, 0)) :: O) ?_ rfl
     refine Seg.nil <| At.blk_n <| At.then_n <| Wp.region <| Seg.op (OpT.add rfl rfl (fits64 (by omega))) rfl <| Seg.op (OpT.move rfl) rfl <| Seg.nil ?_
     refine At.nextF (hl8.trans hl9) ⟨l5, (l4 ++ ([(x10, i1, x14)] : List (Int × Int × Int))), (k2 + 1), v14, xs6, v18, xs11, rfl, rfl, (by rw [← hn2]; exact hd), hq8, hq11⟩ (Sub.of rfl)
    replace hd := brF hg3 hd
    have hg3_ := of_decide_eq_false hg3
    refine Wp.region <| Seg.op (OpT.move rfl) rfl <| Seg.op (OpT.asB (b := decide (0 ≤ ((l4.length:Int) - 1))) (c := true) (OpT.geq rfl rfl) hg2) rfl <| Seg.op (OpT.move rfl) rfl <| Seg.opG rfl rfl (OpT.fld (o' := 1) fl43_1 rfl rfl) rfl <| Seg.opG rfl rfl (OpT.ldBlk (i := 1) (v := v13) u41 rfl rfl rfl rfl) rfl <| Seg.opG rfl rfl (OpT.move rfl) rfl ?_
    obtain ⟨_, ⟨_, _, rfl, ⟨rfl, hr1, hr2⟩, ⟨_, _, rfl, ⟨rfl, hr3, hr4⟩, rfl⟩⟩, hc7, hc7_⟩ := LayL.get (hq5.mono (hl8.trans hl9)) (idx_some hx15).2
    refine Seg.opG rfl rfl (OpT.ixRow (j := 0) u41 ti46 rfl rfl rfl (idx_bd hx15)) rfl <| Seg.opG rfl rfl (OpT.fldRow (q := 0) fl46_2 rfl rfl (by omega)) rfl <| Seg.opG rfl rfl (OpT.ldRow (i := 0) (k := (((l4.length:Int) - 1).toNat) * 3 + 2) u3 rfl rfl rfl (hc7 2 _ rfl)) rfl <| Seg.opG rfl rfl (OpT.move rfl) rfl <| Seg.opG rfl rfl (OpT.asB (b := decide (x15.2.2 = x14)) (c := false) (OpT.eql rfl rfl) hg3) rfl <| Seg.op (OpT.pickT rfl rfl) rfl <| Seg.op (OpT.move rfl) rfl <| Seg.skipG rfl rfl rfl rfl ?_
    refine Seg.skipG rfl rfl rfl rfl <| Seg.skipG rfl rfl rfl rfl <| Seg.skipG rfl rfl rfl rfl <| Seg.skipG rfl rfl rfl rfl <| Seg.skipG rfl rfl rfl rfl <| Seg.skipG rfl rfl rfl rfl <| Seg.skipG rfl rfl rfl rfl <| Seg.skipG rfl rfl rfl rfl ?_
    refine Seg.skipG rfl rfl rfl rfl <| Seg.op (OpT.pickF rfl rfl) rfl <| Seg.nilT <| Wp.condF rfl ?_
    obtain ⟨ha10, hd⟩ := chk_some hd
    have := ha10
    obtain ⟨ha11, hd⟩ := chk_some hd
    have := ha11
    obtain ⟨ha12, hd⟩ := chk_some hd
    refine Wp.region <| Seg.op (OpT.fld (o' := 1) fl43_1 rfl rfl) rfl <| Seg.op (OpT.ldBlk (i := 1) (v := v13) u41 rfl rfl rfl rfl) rfl <| Seg.op (OpT.move rfl) rfl <| Seg.op (OpT.conv u3 u5 rfl (fitsU8 ha10)) rfl <| Seg.op (OpT.move rfl) rfl <| Seg.op (OpT.conv u3 u5 rfl (fitsU8 ha11)) rfl <| Seg.op (OpT.move rfl) rfl ?_
    refine Seg.op (OpT.buildS (vs := [(0, (.int .u8 x10)), (1, (.int .u8 i1)), (2, (.int .i64 x14))]) (cs := #[(.int .u8 x10), (.int .u8 i1), (.int .i64 x14)]) plf46 ti46 rfl rfl (vc_cons rfl (vc_cons rfl (vc_cons rfl (vc_nil)))) rfl) rfl <| Seg.buildD1 (c := (cP cU8 (cP cU8 cI64))) (y := (x10, i1, x14)) (cs := [(.int .u8 x10), (.int .u8 i1), (.int .i64 x14)]) u41 ti46 rfl rfl rfl rfl (⟨[(.int .u8 x10)], [(.int .u8 i1), (.int .i64 x14)], rfl, ⟨rfl, (show (0 : Int) ≤ x10 by omega), (show x10 ≤ (255 : Int) by omega)⟩, ⟨[(.int .u8 i1)], [(.int .i64 x14)], rfl, ⟨rfl, (show (0 : Int) ≤ i1 by omega), (show i1 ≤ (255 : Int) by omega)⟩, rfl⟩⟩) rfl fun v19 xs12 hq12 => Seg.appD (i := 1) (j := 0) (hq5.mono (hl8.trans hl9)) hq12 u41 ti46 rfl (by decide) rfl rfl rfl rfl (by decide) ha12 rfl fun v20 xs13 hq13 => Seg.drop (i := 0) <| Seg.op (OpT.fld (o' := 1) fl43_1 rfl rfl) rfl <| Seg.rowOne (i := 0) rfl fun ho2 => Seg.stBlk1 (i := 1) rfl rfl ho2 ti41 rfl (Nat.le_of_ble_eq_true rfl) ?_
    refine Seg.own (O := .row v20 46 3 (l4 ++ ([(x10, i1, x14)] : List (Int × Int × Int))).length xs13 :: .blk B4 (.cells #[(.bool x9.1), v20] 43 (0, 0)) :: .row v10 43 2 l2.length xs3 :: .blk B3 (.cells #[v10] 26 (0, 0)) :: .row v14 3 1 l5.length xs6 :: .blk B2 (.cells #[(.slice none 0 0)] 26 (0, 0)) :: O) ?_ rfl
    refine Seg.nil <| At.blk_n <| At.then_n <| Wp.region <| Seg.op (OpT.add rfl rfl (fits64 (by omega))) rfl <| Seg.op (OpT.move rfl) rfl <| Seg.nil ?_
    refine At.nextF (hl8.trans hl9) ⟨l5, (l4 ++ ([(x10, i1, x14)] : List (Int × Int × Int))), (k2 + 1), v14, xs6, v20, xs13, rfl, rfl, (by rw [← hn2]; exact hd), hq8, hq13⟩ (Sub.of rfl)
   replace hd := brF hg2 hd
   have hg2_ := of_decide_eq_false hg2
   refine Wp.region <| Seg.op (OpT.move rfl) rfl <| Seg.op (OpT.asB (b := decide (0 ≤ ((l4.length:Int) - 1))) (c := false) (OpT.geq rfl rfl) hg2) rfl <| Seg.op (OpT.move rfl) rfl <| Seg.skipG rfl rfl rfl rfl <| Seg.skipG rfl rfl rfl rfl <| Seg.skipG rfl rfl rfl rfl <| Seg.skipG rfl rfl rfl rfl ?_
   refine Seg.skipG rfl rfl rfl rfl <| Seg.skipG rfl rfl rfl rfl <| Seg.skipG rfl rfl rfl rfl <| Seg.skipG rfl rfl rfl rfl <| Seg.op (OpT.pickF rfl rfl) rfl <| Seg.op (OpT.move rfl) rfl <| Seg.skipG rfl rfl rfl rfl <| Seg.skipG rfl rfl rfl rfl ?_
   refine Seg.skipG rfl rfl rfl rfl <| Seg.skipG rfl rfl rfl rfl <| Seg.skipG rfl rfl rfl rfl <| Seg.skipG rfl rfl rfl rfl <| Seg.skipG rfl rfl rfl rfl <| Seg.skipG rfl rfl rfl rfl <| Seg.skipG rfl rfl rfl rfl <| Seg.skipG rfl rfl rfl rfl ?_
   refine Seg.op (OpT.pickF rfl rfl) rfl <| Seg.nilT <| Wp.condF rfl ?_
   obtain ⟨ha13, hd⟩ := chk_some hd
   have := ha13
   obtain ⟨ha14, hd⟩ := chk_some hd
   have := ha14
   obtain ⟨ha15, hd⟩ := chk_some hd
   refine Wp.region <| Seg.op (OpT.fld (o' := 1) fl43_1 rfl rfl) rfl <| Seg.op (OpT.ldBlk (i := 1) (v := v13) u41 rfl rfl rfl rfl) rfl <| Seg.op (OpT.move rfl) rfl <| Seg.op (OpT.conv u3 u5 rfl (fitsU8 ha13)) rfl <| Seg.op (OpT.move rfl) rfl <| Seg.op (OpT.conv u3 u5 rfl (fitsU8 ha14)) rfl <| Seg.op (OpT.move rfl) rfl ?_
   refine Seg.op (OpT.buildS (vs := [(0, (.int .u8 x10)), (1, (.int .u8 i1)), (2, (.int .i64 x14))]) (cs := #[(.int .u8 x10), (.int .u8 i1), (.int .i64 x14)]) plf46 ti46 rfl rfl (vc_cons rfl (vc_cons rfl (vc_cons rfl (vc_nil)))) rfl) rfl <| Seg.buildD1 (c := (cP cU8 (cP cU8 cI64))) (y := (x10, i1, x14)) (cs := [(.int .u8 x10), (.int .u8 i1), (.int .i64 x14)]) u41 ti46 rfl rfl rfl rfl (⟨[(.int .u8 x10)], [(.int .u8 i1), (.int .i64 x14)], rfl, ⟨rfl, (show (0 : Int) ≤ x10 by omega), (show x10 ≤ (255 : Int) by omega)⟩, ⟨[(.int .u8 i1)], [(.int .i64 x14)], rfl, ⟨rfl, (show (0 : Int) ≤ i1 by omega), (show i1 ≤ (255 : Int) by omega)⟩, rfl⟩⟩) rfl fun v21 xs14 hq14 => Seg.appD (i := 1) (j := 0) (hq5.mono (hl8.trans hl9)) hq14 u41 ti46 rfl (by decide) rfl rfl rfl rfl (by decide) ha15 rfl fun v22 xs15 hq15 => Seg.drop (i := 0) <| Seg.op (OpT.fld (o' := 1) fl43_1 rfl rfl) rfl <| Seg.rowOne (i := 0) rfl fun ho3 => Seg.stBlk1 (i := 1) rfl rfl ho3 ti41 rfl (Nat.le_of_ble_eq_true rfl) ?_
   refine Seg.own (O := .row v22 46 3 (l4 ++ ([(x10, i1, x14)] : List (Int × Int × Int))).length xs15 :: .blk B4 (.cells #[(.bool x9.1), v22] 43 (0, 0)) :: .row v10 43 2 l2.length xs3 :: .blk B3 (.cells #[v10] 26 (0, 0)) :: .row v14 3 1 l5.length xs6 :: .blk B2 (.cells #[(.slice none 0 0)] 26 (0, 0)) :: O) ?_ rfl
   refine Seg.nil <| At.blk_n <| At.then_n <| Wp.region <| Seg.op (OpT.add rfl rfl (fits64 (by omega))) rfl <| Seg.op (OpT.move rfl) rfl <| Seg.nil ?_
   refine At.nextF (hl8.trans hl9) ⟨l5, (l4 ++ ([(x10, i1, x14)] : List (Int × Int × Int))), (k2 + 1), v14, xs6, v22, xs15, rfl, rfl, (by rw [← hn2]; exact hd), hq8, hq15⟩ (Sub.of rfl)
  replace hd := brF hb7 hd
  replace hb7 := of_decide_eq_false hb7
  refine Wp.exit <| At.then_x <| At.then_x <| At.blk_hit <| At.then_n ?_
  obtain ⟨ha16, hd⟩ := chk_some hd
  refine Wp.region <| Seg.op (OpT.fld (o' := 0) fl26_0 rfl rfl) rfl <| Seg.op (OpT.ldBlk (i := 3) (v := v10) u22 rfl rfl rfl rfl) rfl <| Seg.op (OpT.ldBlkW (i := 1) u43 rfl ti43 rfl rfl rfl) rfl ?_
  refine Seg.rowLe (i := 0) rfl fun hb15 => ?_
  refine Seg.freeze (i := 0) rfl fun H10 hl10 hs1 => ?_
  have hv8 := SlD.of (c := (cP cU8 (cP cU8 cI64))) hs1 rfl (hq5.mono hl10) hb15
  refine Seg.buildD1 (c := (cP cB (cL (cP cU8 (cP cU8 cI64))))) (y := (x9.1, l4)) (cs := [(.bool x9.1), v13]) u22 ti43 rfl rfl rfl rfl (⟨[(.bool x9.1)], [v13], rfl, rfl, ⟨_, rfl, hv8⟩⟩) rfl fun v23 xs16 hq16 => Seg.appD (i := 2) (j := 0) (hq3.mono (hl7.trans hl10)) hq16 u22 ti43 rfl (by decide) rfl rfl rfl rfl (by decide) ha16 rfl fun v24 xs17 hq17 => Seg.drop (i := 0) <| Seg.op (OpT.fld (o' := 0) fl26_0 rfl rfl) rfl <| Seg.rowOne (i := 1) rfl fun ho4 => Seg.stBlk1 (i := 2) rfl rfl ho4 ti22 rfl (Nat.le_of_ble_eq_true rfl) ?_
  refine Seg.own (O := .blk B4 (.cells #[(.bool x9.1), v13] 43 (0, 0)) :: .row v24 43 2 (l2 ++ ([(x9.1, l4)] : List (Bool × (List (Int × Int × Int))))).length xs17 :: .blk B3 (.cells #[v24] 26 (0, 0)) :: .row v12 3 1 l3.length xs4 :: .blk B2 (.cells #[(.slice none 0 0)] 26 (0, 0)) :: O) ?_ rfl
  refine Seg.nil <| At.blk_n <| At.then_n <| Wp.region <| Seg.op (OpT.move rfl) rfl <| Seg.op (OpT.add rfl rfl (fits64 (by omega))) rfl <| Seg.op (OpT.assign rfl) rfl <| Seg.nil ?_
  refine At.permK [1, 2, 3, 4] 5 rfl rfl rfl ?_
  refine At.nextF (hl7.trans hl10) ⟨l3, (l2 ++ ([(x9.1, l4)] : List (Bool × (List (Int × Int × Int))))), (k1 + 1), v12, xs4, v24, xs17, rfl, rfl, (by rw [← hn1]; exact hd), (hq4.mono hl10), hq17⟩ (Sub.of rfl)
 replace hd := brF hb5 hd
 replace hb5 := of_decide_eq_false hb5
 refine Wp.exit <| At.then_x <| At.then_x <| At.blk_hit <| At.then_n <| Wp.sr <| Seg.op (OpT.ldBlkW (i := 1) u26 rfl ti26 rfl rfl rfl) rfl <| Seg.rowOne (i := 0) rfl fun ho5 => ?_
 refine Seg.stBlkW (i := 3) (cs' := #[v10]) rfl rfl ti26 rfl rfl (onesA (ones_cons ho5 (ones_nil))) rfl ?_
 refine Seg.own (O := .row v10 43 2 l2.length xs3 :: .blk B3 (.cells #[v10] 26 (0, 0)) :: .row v9 3 1 l1.length xs2 :: .blk B2 (.cells #[v10] 26 (0, 0)) :: O) ?_ rfl
 refine Seg.op (OpT.assign rfl) rfl <| Seg.nilT <| Wp.ret ?_
 refine At.rowLe (i := 0) rfl fun hb16 => ?_
 refine At.freeze (i := 0) rfl fun H11 hl11 hs2 => ?_
 have hv9 := SlD.of (c := (cP cB (cL (cP cU8 (cP cU8 cI64))))) hs2 rfl (hq3.mono hl11) hb16
 obtain rfl := Option.some.inj hd
 exact At.res2 rfl (RV.cellA (i := 2) rfl u26 rfl ti26 rfl rfl) (RV.tmp (v := (.int .i64 0)) rfl) (fun w hs => ⟨_, _, _, rfl, ((((((hl1.trans hl2).trans hl3).trans hl4).trans hl5).trans hl6).trans hl11), (hs.dropN 3), ⟨⟨v10, rfl, hv9⟩, rfl⟩⟩)
set_option maxRecDepth 100000 in
set_option maxHeartbeats 4000000 in
theorem r05_Valid_w {fu : Nat} {a0 : List (Bool × (List (Int × Int × Int)))} {v1 : Value} {r : Bool} (hv1 : SlD (cP cB (cL (cP cU8 (cP cU8 cI64)))) H a0 v1) (hd : r05_Valid fu a0 = some r) :
    TriV Tryz.prog 12 [(.agg #[v1])] H O (.bool r) := by
 intro w hs
 refine wp_of Tryz.func12 rfl rfl rfl ?_ hs
 clear hs w
 unfold r05_Valid at hd
 refine Wp.sr <| Seg.box (cs := #[v1]) rfl rfl rfl fun B2 => Seg.op (OpT.assign rfl) rfl <| Seg.nilT <| Wp.seq ?_
 obtain ⟨x1, hx1, hd⟩ := bnd_some hd
 refine Wp.region <| Seg.op (OpT.fld (o' := 0) fl26_0 rfl rfl) rfl <| Seg.op (OpT.ldBlk (i := 0) (v := v1) u22 rfl rfl rfl rfl) rfl <| Seg.opS (OpS.call ent9 rfl (r05_Minimal_w hv1 hx1)) rfl ?_
 rintro _ H1 _ hl1 ⟨⟨v2, rfl, hv2⟩, rfl⟩
 refine Seg.op (OpT.move rfl) rfl <| Seg.op (OpT.extract rfl rfl) rfl <| Seg.op (OpT.extract rfl rfl) rfl <| Seg.alloc (cs := #[(.slice none 0 0)]) ti26 rfl rfl fun B3 => Seg.stBlkW (i := 0) (cs' := #[v2]) rfl rfl ti26 rfl rfl (onesA (ones_cons hv2.one (ones_nil))) rfl ?_
 refine Seg.own (O := .blk B3 (.cells #[v2] 26 (0, 0)) :: .blk B2 (.cells #[v1] 26 (0, 0)) :: O) ?_ rfl
 refine Seg.op (OpT.assign rfl) rfl <| Seg.nilT <| Wp.seq ?_
 rcases Bool.eq_false_or_eq_true (decide (x1.2 = 0)) with hg1 | hg1
 ·
  replace hd := brT hg1 hd
  have hg1_ := of_decide_eq_true hg1
  obtain ⟨x2, hx2, hd⟩ := bnd_some hd
  refine Wp.region <| Seg.op (OpT.move rfl) rfl <| Seg.op (OpT.asB (b := decide (x1.2 = 0)) (c := true) (OpT.eql rfl rfl) hg1) rfl <| Seg.op (OpT.move rfl) rfl <| Seg.opG rfl rfl (OpT.ldBlkW (i := 1) u26 rfl ti26 rfl rfl rfl) rfl <| Seg.opG rfl rfl (OpT.ldBlkW (i := 0) u26 rfl ti26 rfl rfl rfl) rfl <| Seg.opG rfl rfl (OpT.call ent10 rfl (r05_Same_w (hv1.mono hl1) hv2 hx2)) rfl <| Seg.op (OpT.pickT rfl rfl) rfl ?_
  refine Seg.op (OpT.assign rfl) rfl <| Seg.nilT <| Wp.ret ?_
  obtain rfl := Option.some.inj hd
  exact At.res1 rfl (RV.tmp (v := (.bool x2)) rfl) (fun w hs => ⟨rfl, (hs.dropN 2).weaken hl1⟩)
 replace hd := brF hg1 hd
 have hg1_ := of_decide_eq_false hg1
 refine Wp.region <| Seg.op (OpT.move rfl) rfl <| Seg.op (OpT.asB (b := decide (x1.2 = 0)) (c := false) (OpT.eql rfl rfl) hg1) rfl <| Seg.op (OpT.move rfl) rfl <| Seg.skipG rfl rfl rfl rfl <| Seg.skipG rfl rfl rfl rfl <| Seg.skipG rfl rfl rfl rfl <| Seg.op (OpT.pickF rfl rfl) rfl ?_
 refine Seg.op (OpT.assign rfl) rfl <| Seg.nilT <| Wp.ret ?_
 obtain rfl := Option.some.inj hd
 exact At.res1 rfl (RV.tmp (v := (.bool false)) rfl) (fun w hs => ⟨rfl, (hs.dropN 2).weaken hl1⟩)
end Go.Proofs.YtjmbmodmepdmjaaGreatDoor
namespace Go.GK
def w05_AutomatonMinimal (fu : Nat) (a0 : List (Bool × (List (Int × Int × Int)))) : Option Bool :=
  bnd (w05_few fu a0) (fun x3 => bif !x3 then (bnd (w05_alive fu) (fun x6 => some x6)) else (bnd (au_Minimal fu a0) (fun x8 => bnd (r05_Minimal fu a0) (fun x16 => bnd (r05_Same fu x8.1 x16.1) (fun x24 => bif x24 then (bif decide (x8.2 = x16.2) then (bnd (au_Valid fu a0) (fun x29 => bnd (r05_Valid fu a0) (fun x32 => bif x29 == x32 then (bnd (w05_alive fu) (fun x37 => some x37)) else (some false)))) else (some false)) else (some false))))))
end Go.GK
namespace Go.Proofs.YtjmbmodmepdmjaaGreatDoor
open Go.GK
variable {H : Hp} {O : List Res}
set_option maxRecDepth 100000 in
set_option maxHeartbeats 4000000 in
theorem w05_AutomatonMinimal_w {fu : Nat} {a0 : List (Bool × (List (Int × Int × Int)))} {v1 : Value} {r : Bool} (hv1 : SlD (cP cB (cL (cP cU8 (cP cU8 cI64)))) H a0 v1) (hG : LaidH Tryz.prog H) (hd : w05_AutomatonMinimal fu a0 = some r) :
    TriV Tryz.prog 3 [v1] H O (.bool r) := by
 intro w hs
 refine wp_of Tryz.func3 rfl rfl rfl ?_ hs
 clear hs w
 unfold w05_AutomatonMinimal at hd
 refine Wp.sr <| Seg.op (OpT.assign rfl) rfl <| Seg.nilT <| Wp.seq <| Wp.seq ?_
 obtain ⟨x1, hx1, hd⟩ := bnd_some hd
 refine Wp.region <| Seg.op (OpT.move rfl) rfl <| Seg.op (OpT.call ent6 rfl (w05_few_w hv1 hx1)) rfl <| Seg.op (OpT.not rfl) rfl <| Seg.nilT ?_
 refine Wp.cond (b := !x1) rfl (fun hb1 => ?_) (fun hb1 => ?_)
 ·
  replace hd := brT hb1 hd
  refine Wp.seq ?_
  obtain ⟨x2, hx2, hd⟩ := bnd_some hd
  refine Wp.region <| Seg.op (OpT.call ent7 rfl (w05_alive_w hG hx2)) rfl <| Seg.op (OpT.assign rfl) rfl <| Seg.nilT <| Wp.ret <| At.then_r ?_
  obtain rfl := Option.some.inj hd
  exact At.res1 rfl (RV.tmp (v := (.bool x2)) rfl) (fun w hs => ⟨rfl, (hs.dropN 0).weaken (Hp.le.refl _)⟩)
 replace hd := brF hb1 hd
 refine Wp.skip <| At.then_n <| Wp.seq ?_
 obtain ⟨x3, hx3, hd⟩ := bnd_some hd
 refine Wp.region <| Seg.op (OpT.move rfl) rfl <| Seg.opS (OpS.call ent8 rfl (au_Minimal_w hv1 hG hx3)) rfl ?_
 rintro _ H1 _ hl1 ⟨⟨v2, rfl, hv2⟩, rfl⟩
 refine Seg.op (OpT.move rfl) rfl <| Seg.op (OpT.extract rfl rfl) rfl <| Seg.op (OpT.extract rfl rfl) rfl <| Seg.alloc (cs := #[(.slice none 0 0)]) ti26 rfl rfl fun B2 => Seg.stBlkW (i := 0) (cs' := #[v2]) rfl rfl ti26 rfl rfl (onesA (ones_cons hv2.one (ones_nil))) rfl ?_
 refine Seg.own (O := .blk B2 (.cells #[v2] 26 (0, 0)) :: O) ?_ rfl
 refine Seg.op (OpT.assign rfl) rfl <| Seg.nilT <| Wp.seq ?_
 obtain ⟨x4, hx4, hd⟩ := bnd_some hd
 refine Wp.region <| Seg.op (OpT.move rfl) rfl <| Seg.opS (OpS.call ent9 rfl (r05_Minimal_w (hv1.mono hl1) hx4)) rfl ?_
 rintro _ H2 _ hl2 ⟨⟨v3, rfl, hv3⟩, rfl⟩
 refine Seg.op (OpT.move rfl) rfl <| Seg.op (OpT.extract rfl rfl) rfl <| Seg.op (OpT.extract rfl rfl) rfl <| Seg.alloc (cs := #[(.slice none 0 0)]) ti26 rfl rfl fun B3 => Seg.stBlkW (i := 0) (cs' := #[v3]) rfl rfl ti26 rfl rfl (onesA (ones_cons hv3.one (ones_nil))) rfl ?_
 refine Seg.own (O := .blk B3 (.cells #[v3] 26 (0, 0)) :: .blk B2 (.cells #[v2] 26 (0, 0)) :: O) ?_ rfl
 refine Seg.op (OpT.assign rfl) rfl <| Seg.nilT <| Wp.seq ?_
 obtain ⟨x5, hx5, hd⟩ := bnd_some hd
 rcases Bool.eq_false_or_eq_true (x5) with hg1 | hg1
 ·
  replace hd := brT hg1 hd
  rcases Bool.eq_false_or_eq_true (decide (x3.2 = x4.2)) with hg2 | hg2
  ·
   replace hd := brT hg2 hd
   have hg2_ := of_decide_eq_true hg2
   obtain ⟨x6, hx6, hd⟩ := bnd_some hd
   obtain ⟨x7, hx7, hd⟩ := bnd_some hd
   rcases Bool.eq_false_or_eq_true (x6 == x7) with hg3 | hg3
   ·
    replace hd := brT hg3 hd
    obtain ⟨x8, hx8, hd⟩ := bnd_some hd
    refine Wp.region <| Seg.op (OpT.ldBlkW (i := 1) u26 rfl ti26 rfl rfl rfl) rfl <| Seg.op (OpT.ldBlkW (i := 0) u26 rfl ti26 rfl rfl rfl) rfl <| Seg.op (OpT.asB (b := x5) (c := true) (OpT.call ent10 rfl (r05_Same_w (hv2.mono hl2) hv3 hx5)) hg1) rfl <| Seg.op (OpT.move rfl) rfl <| Seg.opG rfl rfl (OpT.move rfl) rfl <| Seg.opG rfl rfl (OpT.move rfl) rfl <| Seg.opG rfl rfl (OpT.asB (b := decide (x3.2 = x4.2)) (c := true) (OpT.eql rfl rfl) hg2) rfl ?_
    refine Seg.op (OpT.pickT rfl rfl) rfl <| Seg.op (OpT.move rfl) rfl <| Seg.opG rfl rfl (OpT.move rfl) rfl <| Seg.opG rfl rfl (OpT.buildS (vs := [(0, v1)]) (cs := #[v1]) plf26 ti26 rfl rfl (vc_cons (cells1 hv1.one) (vc_nil)) rfl) rfl <| Seg.opG rfl rfl (OpT.call ent11 rfl (au_Valid_w (hv1.mono (hl1.trans hl2)) (hG.mono (hl1.trans hl2)) hx6)) rfl <| Seg.opG rfl rfl (OpT.move rfl) rfl <| Seg.opG rfl rfl (OpT.buildS (vs := [(0, v1)]) (cs := #[v1]) plf26 ti26 rfl rfl (vc_cons (cells1 hv1.one) (vc_nil)) rfl) rfl <| Seg.opG rfl rfl (OpT.call ent12 rfl (r05_Valid_w (hv1.mono (hl1.trans hl2)) hx7)) rfl ?_
    refine Seg.opG rfl rfl (OpT.asB (b := x6 == x7) (c := true) (OpT.eqB u4 rfl rfl) hg3) rfl <| Seg.op (OpT.pickT rfl rfl) rfl <| Seg.op (OpT.move rfl) rfl <| Seg.opG rfl rfl (OpT.call ent7 rfl (w05_alive_w (hG.mono (hl1.trans hl2)) hx8)) rfl <| Seg.op (OpT.pickT rfl rfl) rfl <| Seg.op (OpT.assign rfl) rfl <| Seg.nilT <| Wp.ret ?_
    obtain rfl := Option.some.inj hd
    exact At.res1 rfl (RV.tmp (v := (.bool x8)) rfl) (fun w hs => ⟨rfl, (hs.dropN 2).weaken (hl1.trans hl2)⟩)
   replace hd := brF hg3 hd
   refine Wp.region <| Seg.op (OpT.ldBlkW (i := 1) u26 rfl ti26 rfl rfl rfl) rfl <| Seg.op (OpT.ldBlkW (i := 0) u26 rfl ti26 rfl rfl rfl) rfl <| Seg.op (OpT.asB (b := x5) (c := true) (OpT.call ent10 rfl (r05_Same_w (hv2.mono hl2) hv3 hx5)) hg1) rfl <| Seg.op (OpT.move rfl) rfl <| Seg.opG rfl rfl (OpT.move rfl) rfl <| Seg.opG rfl rfl (OpT.move rfl) rfl <| Seg.opG rfl rfl (OpT.asB (b := decide (x3.2 = x4.2)) (c := true) (OpT.eql rfl rfl) hg2) rfl ?_
   refine Seg.op (OpT.pickT rfl rfl) rfl <| Seg.op (OpT.move rfl) rfl <| Seg.opG rfl rfl (OpT.move rfl) rfl <| Seg.opG rfl rfl (OpT.buildS (vs := [(0, v1)]) (cs := #[v1]) plf26 ti26 rfl rfl (vc_cons (cells1 hv1.one) (vc_nil)) rfl) rfl <| Seg.opG rfl rfl (OpT.call ent11 rfl (au_Valid_w (hv1.mono (hl1.trans hl2)) (hG.mono (hl1.trans hl2)) hx6)) rfl <| Seg.opG rfl rfl (OpT.move rfl) rfl <| Seg.opG rfl rfl (OpT.buildS (vs := [(0, v1)]) (cs := #[v1]) plf26 ti26 rfl rfl (vc_cons (cells1 hv1.one) (vc_nil)) rfl) rfl <| Seg.opG rfl rfl (OpT.call ent12 rfl (r05_Valid_w (hv1.mono (hl1.trans hl2)) hx7)) rfl ?_
   refine Seg.opG rfl rfl (OpT.asB (b := x6 == x7) (c := false) (OpT.eqB u4 rfl rfl) hg3) rfl <| Seg.op (OpT.pickT rfl rfl) rfl <| Seg.op (OpT.move rfl) rfl <| Seg.skipG rfl rfl rfl rfl <| Seg.op (OpT.pickF rfl rfl) rfl <| Seg.op (OpT.assign rfl) rfl <| Seg.nilT <| Wp.ret ?_
   obtain rfl := Option.some.inj hd
   exact At.res1 rfl (RV.tmp (v := (.bool false)) rfl) (fun w hs => ⟨rfl, (hs.dropN 2).weaken (hl1.trans hl2)⟩)
  replace hd := brF hg2 hd
  have hg2_ := of_decide_eq_false hg2
  refine Wp.region <| Seg.op (OpT.ldBlkW (i := 1) u26 rfl ti26 rfl rfl rfl) rfl <| Seg.op (OpT.ldBlkW (i := 0) u26 rfl ti26 rfl rfl rfl) rfl <| Seg.op (OpT.asB (b := x5) (c := true) (OpT.call ent10 rfl (r05_Same_w (hv2.mono hl2) hv3 hx5)) hg1) rfl <| Seg.op (OpT.move rfl) rfl <| Seg.opG rfl rfl (OpT.move rfl) rfl <| Seg.opG rfl rfl (OpT.move rfl) rfl <| Seg.opG rfl rfl (OpT.asB (b := decide (x3.2 = x4.2)) (c := false) (OpT.eql rfl rfl) hg2) rfl ?_
  refine Seg.op (OpT.pickT rfl rfl) rfl <| Seg.op (OpT.move rfl) rfl <| Seg.skipG rfl rfl rfl rfl <| Seg.skipG rfl rfl rfl rfl <| Seg.skipG rfl rfl rfl rfl <| Seg.skipG rfl rfl rfl rfl <| Seg.skipG rfl rfl rfl rfl <| Seg.skipG rfl rfl rfl rfl ?_
  refine Seg.skipG rfl rfl rfl rfl <| Seg.op (OpT.pickF rfl rfl) rfl <| Seg.op (OpT.move rfl) rfl <| Seg.skipG rfl rfl rfl rfl <| Seg.op (OpT.pickF rfl rfl) rfl <| Seg.op (OpT.assign rfl) rfl <| Seg.nilT <| Wp.ret ?_
  obtain rfl := Option.some.inj hd
  exact At.res1 rfl (RV.tmp (v := (.bool false)) rfl) (fun w hs => ⟨rfl, (hs.dropN 2).weaken (hl1.trans hl2)⟩)
 replace hd := brF hg1 hd
 refine Wp.region <| Seg.op (OpT.ldBlkW (i := 1) u26 rfl ti26 rfl rfl rfl) rfl <| Seg.op (OpT.ldBlkW (i := 0) u26 rfl ti26 rfl rfl rfl) rfl <| Seg.op (OpT.asB (b := x5) (c := false) (OpT.call ent10 rfl (r05_Same_w (hv2.mono hl2) hv3 hx5)) hg1) rfl <| Seg.op (OpT.move rfl) rfl <| Seg.skipG rfl rfl rfl rfl <| Seg.skipG rfl rfl rfl rfl <| Seg.skipG rfl rfl rfl rfl ?_
 refine Seg.op (OpT.pickF rfl rfl) rfl <| Seg.op (OpT.move rfl) rfl <| Seg.skipG rfl rfl rfl rfl <| Seg.skipG rfl rfl rfl rfl <| Seg.skipG rfl rfl rfl rfl <| Seg.skipG rfl rfl rfl rfl <| Seg.skipG rfl rfl rfl rfl <| Seg.skipG rfl rfl rfl rfl ?_
 refine Seg.skipG rfl rfl rfl rfl <| Seg.op (OpT.pickF rfl rfl) rfl <| Seg.op (OpT.move rfl) rfl <| Seg.skipG rfl rfl rfl rfl <| Seg.op (OpT.pickF rfl rfl) rfl <| Seg.op (OpT.assign rfl) rfl <| Seg.nilT <| Wp.ret ?_
 obtain rfl := Option.some.inj hd
 exact At.res1 rfl (RV.tmp (v := (.bool false)) rfl) (fun w hs => ⟨rfl, (hs.dropN 2).weaken (hl1.trans hl2)⟩)
end Go.Proofs.YtjmbmodmepdmjaaGreatDoor
namespace Go.GL
open Go.GK
def Ok {α : Type} (x : Option α) (P : α → Prop) : Prop := ∃ r, x = some r ∧ P r
section
variable {α β X R : Type} {P Q : R → Prop}
theorem Ok.some {r : R} (h : P r) : Ok (some r) P := ⟨r, rfl, h⟩
theorem Ok.mono {x : Option R} (h : Ok x P) (k : ∀ r, P r → Q r) : Ok x Q := by obtain ⟨r, e, h⟩ := h; exact ⟨r, e, k r h⟩
theorem Ok.eq {x : Option R} {r : R} (h : Ok x (fun a => a = r)) : x = .some r := by obtain ⟨_, e, rfl⟩ := h; exact e
theorem Ok.of_eq {x : Option R} {r : R} (h : x = .some r) (hp : P r) : Ok x P := ⟨r, h, hp⟩
theorem Ok.chk {p : Prop} [Decidable p] {x : Option R} (hp : p) (h : Ok x P) : Ok (chk p x) P := by unfold GK.chk; rw [if_pos hp]; exact h
theorem Ok.bnd {x : Option α} {Q : α → Prop} {k : α → Option R} (h : Ok x Q) (hk : ∀ a, Q a → Ok (k a) P) : Ok (bnd x k) P := by
  obtain ⟨r, rfl, h⟩ := h; exact hk r h
theorem Ok.bndE {x : Option α} {a : α} {k : α → Option R} (h : x = .some a) (hk : Ok (k a) P) : Ok (GK.bnd x k) P := by
  subst h; exact hk
theorem Ok.bif {b : Bool} {x y : Option R} (ht : b = true → Ok x P) (hf : b = false → Ok y P) : Ok (bif b then x else y) P := by
  cases b
  · exact hf rfl
  · exact ht rfl
theorem Ok.ite {p : Prop} [Decidable p] {x y : Option R} (ht : p → Ok x P) (hf : ¬ p → Ok y P) : Ok (bif decide p then x else y) P :=
  Ok.bif (fun h => ht (of_decide_eq_true h)) (fun h => hf (of_decide_eq_false h))
theorem Ok.T {b : Bool} {x y : Option R} (h : b = true) (hx : Ok x P) : Ok (bif b then x else y) P := by subst h; exact hx
theorem Ok.F {b : Bool} {x y : Option R} (h : b = false) (hy : Ok y P) : Ok (bif b then x else y) P := by subst h; exact hy
theorem Ok.iT {p : Prop} [Decidable p] {x y : Option R} (h : p) (hx : Ok x P) : Ok (bif decide p then x else y) P := Ok.T (decide_eq_true h) hx
theorem Ok.iF {p : Prop} [Decidable p] {x y : Option R} (h : ¬ p) (hy : Ok y P) : Ok (bif decide p then x else y) P := Ok.F (decide_eq_false h) hy
theorem idx_nat {l : List α} {n : Nat} (h : n < l.length) : idx l (n : Int) = .some l[n] := by
  unfold idx; rw [if_pos (by omega)]; simp [h]
theorem idx_int {l : List α} {i : Int} (h0 : 0 ≤ i) (h1 : i < (l.length : Nat)) : idx l i = .some (l[i.toNat]'(by omega)) := by
  unfold idx; rw [if_pos h0]; exact List.getElem?_eq_getElem _
theorem Ok.idxN {l : List α} {n : Nat} {k : α → Option R} (h : n < l.length) (hk : Ok (k l[n]) P) : Ok (GK.bnd (idx l (n : Int)) k) P := Ok.bndE (idx_nat h) hk
theorem Ok.idxI {l : List α} {i : Int} {k : α → Option R} (h0 : 0 ≤ i) (h1 : i < (l.length : Nat)) (hk : Ok (k (l[i.toNat]'(by omega))) P) : Ok (GK.bnd (idx l i) k) P := Ok.bndE (idx_int h0 h1) hk
theorem Ok.loop {b : X → (X → Option R) → Option R} (I : X → Prop) (m : X → Nat) : ∀ {fu : Nat} {x : X}, I x → m x < fu →
    (∀ x nx, I x → m x < fu → (∀ x', I x' → m x' < m x → Ok (nx x') P) → Ok (b x nx) P) → Ok (loopK fu b x) P
  | 0, _, _, h, _ => by omega
  | fu + 1, x, hI, hm, step => by
    show Ok (b x (loopK fu b)) P
    refine step x _ hI hm fun x' hI' hm' => Ok.loop I m hI' (by omega) fun y nx hy hmy h => step y nx hy (by omega) h
theorem Ok.range {S : Type} {b : S × Nat → (S × Nat → Option R) → Option R} (J : Nat → S → Prop) (n : Nat) {fu : Nat} {s : S} (h0 : J 0 s) (hf : n < fu)
    (step : ∀ k s nx, k < n → J k s → (∀ s', J (k + 1) s' → Ok (nx (s', k + 1)) P) → Ok (b (s, k) nx) P)
    (stop : ∀ s nx, J n s → Ok (b (s, n) nx) P) : Ok (loopK fu b (s, 0)) P := by
  refine Ok.loop (fun x => x.2 ≤ n ∧ J x.2 x.1) (fun x => n - x.2) ⟨by simp, h0⟩ (by simpa using hf) fun x nx hI _ hn => ?_
  obtain ⟨s, k⟩ := x
  obtain ⟨h1, h2⟩ := hI
  rcases Nat.lt_or_ge k n with h | h
  · exact step k s nx h h2 fun s' hs => hn (s', k + 1) ⟨by show k + 1 ≤ n; omega, hs⟩ (by show n - (k + 1) < n - k; omega)
  · have h1 : k ≤ n := h1
    obtain rfl : k = n := by omega
    exact stop s nx h2
theorem Ok.rangeG {S : Type} (mk : S → Nat → X) {b : X → (X → Option R) → Option R} (J : Nat → S → Prop) (n : Nat)
    (step : ∀ k s nx, k < n → J k s → (∀ s', J (k + 1) s' → Ok (nx (mk s' (k + 1))) P) → Ok (b (mk s k) nx) P)
    (stop : ∀ s nx, J n s → Ok (b (mk s n) nx) P) : ∀ (fu k : Nat) (s : S), J k s → k ≤ n → n - k < fu → Ok (loopK fu b (mk s k)) P
  | 0, _, _, _, _, h => by omega
  | fu + 1, k, s, hJ, hk, hf => by
    show Ok (b (mk s k) (loopK fu b)) P
    rcases Nat.lt_or_ge k n with h | h
    · exact step k s _ h hJ fun s' hs => Ok.rangeG mk J n step stop fu (k + 1) s' hs h (by omega)
    · obtain rfl : k = n := by omega
      exact stop s _ hJ
theorem Ok.range2 {S T : Type} {b : S × T × Nat → (S × T × Nat → Option R) → Option R} (J : Nat → S → T → Prop) (n : Nat) {fu : Nat} {s : S} {t : T} (h0 : J 0 s t) (hf : n < fu)
    (step : ∀ k s t nx, k < n → J k s t → (∀ s' t', J (k + 1) s' t' → Ok (nx (s', t', k + 1)) P) → Ok (b (s, t, k) nx) P)
    (stop : ∀ s t nx, J n s t → Ok (b (s, t, n) nx) P) : Ok (loopK fu b (s, t, 0)) P :=
  Ok.rangeG (fun (s : S × T) k => (s.1, s.2, k)) (fun k s => J k s.1 s.2) n (fun k s nx hk hJ hn => step k s.1 s.2 nx hk hJ fun s' t' h => hn (s', t') h) (fun s nx hJ => stop s.1 s.2 nx hJ) fu 0 (s, t) h0 (by omega) (by omega)
theorem Ok.range3 {S T U : Type} {b : S × T × U × Nat → (S × T × U × Nat → Option R) → Option R} (J : Nat → S → T → U → Prop) (n : Nat) {fu : Nat} {s : S} {t : T} {u : U} (h0 : J 0 s t u) (hf : n < fu)
    (step : ∀ k s t u nx, k < n → J k s t u → (∀ s' t' u', J (k + 1) s' t' u' → Ok (nx (s', t', u', k + 1)) P) → Ok (b (s, t, u, k) nx) P)
    (stop : ∀ s t u nx, J n s t u → Ok (b (s, t, u, n) nx) P) : Ok (loopK fu b (s, t, u, 0)) P :=
  Ok.rangeG (fun (s : S × T × U) k => (s.1, s.2.1, s.2.2, k)) (fun k s => J k s.1 s.2.1 s.2.2) n (fun k s nx hk hJ hn => step k s.1 s.2.1 s.2.2 nx hk hJ fun s' t' u' h => hn (s', t', u') h) (fun s nx hJ => stop s.1 s.2.1 s.2.2 nx hJ) fu 0 (s, t, u) h0 (by omega) (by omega)
theorem Ok.count {b : Nat → (Nat → Option R) → Option R} (J : Nat → Prop) (n : Nat) {fu : Nat} (h0 : J 0) (hf : n < fu)
    (step : ∀ k nx, k < n → J k → (J (k + 1) → Ok (nx (k + 1)) P) → Ok (b k nx) P)
    (stop : ∀ nx, J n → Ok (b n nx) P) : Ok (loopK fu b 0) P := by
  refine Ok.loop (fun x => x ≤ n ∧ J x) (fun x => n - x) ⟨by simp, h0⟩ (by simpa using hf) fun k nx hI _ hn => ?_
  obtain ⟨h1, h2⟩ := hI
  rcases Nat.lt_or_ge k n with h | h
  · exact step k nx h h2 fun hs => hn (k + 1) ⟨by omega, hs⟩ (by omega)
  · obtain rfl : k = n := by omega
    exact stop nx h2
end
end Go.GL
namespace Go.GL
abbrev Lg := List UInt8 → Bool
abbrev EdI := Int × Int × Int
abbrev StI := Bool × List EdI
abbrev Tb := List StI
def der (L : Lg) (b : Nat) : Lg := fun w => L (UInt8.ofNat b :: w)
open Classical in
noncomputable def live (L : Lg) : Bool := decide (∃ w, L w = true)
open Classical in
noncomputable def ixL (kn : List Lg) (L : Lg) : Nat := kn.findIdx fun K => decide (K = L)
theorem live_iff {L : Lg} : live L = true ↔ ∃ w, L w = true := by simp [live]
theorem live_false {L : Lg} : live L = false ↔ ∀ w, L w = false := by simp [live]
def push (es : List EdI) (lo hi n : Int) : List EdI := match es.getLast? with
  | some e => if e.2.2 = n ∧ e.2.1 + 1 = lo then es.dropLast ++ [(e.1, hi, n)] else es ++ [(lo, hi, n)]
  | none => es ++ [(lo, hi, n)]
noncomputable def kn1 (kn : List Lg) (D : Lg) : List Lg := if ixL kn D = kn.length then kn ++ [D] else kn
noncomputable def rowI (st : List Lg × List EdI) (D : Lg) (lo hi : Nat) : List Lg × List EdI :=
  if live D then (kn1 st.1 D, push st.2 (lo : Int) (hi : Int) (ixL st.1 D : Nat)) else st
noncomputable def rowB (K : Lg) (st : List Lg × List EdI) (b : Nat) : List Lg × List EdI := rowI st (der K b) b b
noncomputable def rowTo (K : Lg) (kn : List Lg) (m : Nat) : List Lg × List EdI := (List.range m).foldl (rowB K) (kn, [])
noncomputable def canGo : Nat → List Lg → Tb → Tb
  | 0, _, out => out
  | fu + 1, kn, out => match kn[out.length]? with
    | some K => canGo fu (rowTo K kn 256).1 (out ++ [(K [], (rowTo K kn 256).2)])
    | none => out
noncomputable def canL (fu : Nat) (L : Lg) : Tb := if live L then canGo fu [L] [] else []
theorem ixL_le (kn : List Lg) (D : Lg) : ixL kn D ≤ kn.length := List.findIdx_le_length
open Classical in
theorem ixL_lt {kn : List Lg} {D : Lg} (h : ixL kn D < kn.length) : kn[ixL kn D] = D := by
  have := List.findIdx_getElem (xs := kn) (w := h)
  exact (decide_eq_true_iff (p := kn[ixL kn D] = D)).1 this
theorem ixL_mem {kn : List Lg} {D : Lg} (h : D ∈ kn) : ixL kn D < kn.length := by
  refine List.findIdx_lt_length_of_exists ⟨D, h, by simp⟩
theorem ixL_not {kn : List Lg} {D : Lg} (h : D ∉ kn) : ixL kn D = kn.length := by
  have := ixL_le kn D
  rcases Nat.lt_or_eq_of_le this with h1 | h1
  · exact absurd (ixL_lt h1 ▸ List.getElem_mem h1) h
  · exact h1
theorem ixL_kn1 (kn : List Lg) (D : Lg) : ixL (kn1 kn D) D = ixL kn D := by
  unfold kn1
  split
  · rename_i h
    have hn : D ∉ kn := fun hm => by have := ixL_mem hm; omega
    unfold ixL at h ⊢
    rw [List.findIdx_append, if_neg (by omega), h]; simp
  · rfl
theorem mem_kn1 (kn : List Lg) (D : Lg) : D ∈ kn1 kn D := by
  unfold kn1; split
  · simp
  · rename_i h
    have h1 : ixL kn D < kn.length := by have := ixL_le kn D; omega
    exact ixL_lt h1 ▸ List.getElem_mem h1
theorem kn1_of_mem {kn : List Lg} {D : Lg} (h : D ∈ kn) : kn1 kn D = kn := by
  unfold kn1; rw [if_neg]; have := ixL_mem h; omega
theorem push_last (l : List EdI) (x : EdI) (lo hi n : Int) : push (l ++ [x]) lo hi n = if x.2.2 = n ∧ x.2.1 + 1 = lo then l ++ [(x.1, hi, n)] else l ++ [x] ++ [(lo, hi, n)] := by
  unfold push; simp
theorem push_nil (lo hi n : Int) : push [] lo hi n = [(lo, hi, n)] := rfl
theorem nil_or_last {α : Type} (l : List α) : l = [] ∨ ∃ l' x, l = l' ++ [x] := by
  rcases List.eq_nil_or_concat l with h | ⟨l', x, h⟩
  · exact .inl h
  · exact .inr ⟨l', x, by simpa using h⟩
theorem push_push (es : List EdI) (lo mi hi n : Int) : push (push es lo mi n) (mi + 1) hi n = push es lo hi n := by
  rcases nil_or_last es with rfl | ⟨l, x, rfl⟩
  · rw [push_nil, push_nil, show [(lo, mi, n)] = [] ++ [(lo, mi, n)] from rfl, push_last]; simp
  · rw [push_last, push_last]
    split
    · rw [push_last]; simp
    · rw [push_last]; simp
theorem rowI_range (K : Lg) (D : Lg) (st : List Lg × List EdI) (lo : Nat) : ∀ (n : Nat), (∀ b, lo ≤ b → b < lo + n + 1 → der K b = D) →
    (List.range' lo (n + 1)).foldl (rowB K) st = rowI st D lo (lo + n)
  | 0, h => by simp [rowB, h lo (by omega) (by omega)]
  | n + 1, h => by
    rw [List.range'_concat, List.foldl_append, rowI_range K D st lo n (fun b h1 h2 => h b h1 (by omega))]
    simp only [List.foldl_cons, List.foldl_nil, rowB, Nat.one_mul, h (lo + (n + 1)) (by omega) (by omega)]
    unfold rowI
    split
    · simp only [ixL_kn1, kn1_of_mem (mem_kn1 _ _), Prod.mk.injEq, true_and]
      have := push_push st.2 lo ((lo + n : Nat) : Int) ((lo + (n + 1) : Nat) : Int) (ixL st.1 D : Nat)
      rw [← this]; congr 1
    · rfl
theorem rowTo_add (K : Lg) (kn : List Lg) (D : Lg) (lo hi : Nat) (hlo : lo ≤ hi) (h : ∀ b, lo ≤ b → b ≤ hi → der K b = D) :
    rowTo K kn (hi + 1) = rowI (rowTo K kn lo) D lo hi := by
  unfold rowTo
  rw [show hi + 1 = lo + ((hi - lo) + 1) by omega, List.range_eq_range', List.range_eq_range', ← List.range'_append_1, List.foldl_append, Nat.zero_add]
  rw [rowI_range K D _ lo (hi - lo) (fun b h1 h2 => h b h1 (by omega))]
  congr 1; omega
def inE (b : Nat) (e : EdI) : Bool := decide (e.1 ≤ b) && decide ((b : Int) ≤ e.2.1)
def stepE (es : List EdI) (b : Nat) : Int := match es.find? (inE b) with
  | some e => e.2.2
  | none => -1
def rowT (l : Tb) (i : Int) : StI := l.getD i.toNat (false, [])
def stT (l : Tb) (i : Int) (b : Nat) : Int := if i < 0 then -1 else stepE (rowT l i).2 b
def runT (l : Tb) (i : Int) (w : List UInt8) : Int := w.foldl (fun q c => stT l q c.toNat) i
def fin (l : Tb) (i : Int) : Bool := decide (0 ≤ i) && (rowT l i).1
def lgT (l : Tb) (i : Int) : Lg := fun w => fin l (runT l i w)
structure EdOk (es : List EdI) (m n : Nat) : Prop where
  rg : ∀ e ∈ es, 0 ≤ e.1 ∧ e.1 ≤ e.2.1 ∧ e.2.1 < m ∧ 0 ≤ e.2.2 ∧ e.2.2 < n
  so : es.Pairwise fun a b => a.2.1 < b.1
def WfT (l : Tb) : Prop := ∀ s ∈ l, EdOk s.2 256 l.length
theorem der_lgT (l : Tb) (i : Int) (b : Nat) (hb : b < 256) : der (lgT l i) b = lgT l (stT l i b) := by
  funext w
  simp [der, lgT, runT, Nat.mod_eq_of_lt hb]
theorem stT_neg {l : Tb} {i : Int} (b : Nat) (h : i < 0) : stT l i b = -1 := by simp [stT, h]
theorem runT_neg {l : Tb} : ∀ (w : List UInt8) {i : Int}, i < 0 → runT l i w < 0
  | [], i, h => h
  | c :: w, i, h => by
    show runT l (stT l i c.toNat) w < 0
    exact runT_neg w (by rw [stT_neg _ h]; decide)
theorem lgT_neg {l : Tb} {i : Int} (h : i < 0) (w : List UInt8) : lgT l i w = false := by
  have := runT_neg (l := l) w h
  simp only [lgT, fin]
  rw [decide_eq_false (by omega)]; rfl
theorem live_neg {l : Tb} {i : Int} (h : i < 0) : live (lgT l i) = false := live_false.2 fun w => lgT_neg h w
theorem EdOk.step {es : List EdI} {m n : Nat} (h : EdOk es m n) (b : Nat) : stepE es b = -1 ∨ 0 ≤ stepE es b ∧ stepE es b < n := by
  unfold stepE
  split
  · rename_i e he
    have := h.rg e (List.mem_of_find?_eq_some he)
    exact .inr ⟨this.2.2.2.1, this.2.2.2.2⟩
  · exact .inl rfl
theorem EdOk.nil {m n : Nat} : EdOk [] m n := ⟨by simp, .nil⟩
theorem WfT.st {l : Tb} (h : WfT l) (i : Int) (b : Nat) : stT l i b = -1 ∨ 0 ≤ stT l i b ∧ stT l i b < l.length := by
  unfold stT
  split
  · exact .inl rfl
  · unfold rowT
    rw [List.getD_eq_getElem?_getD]
    cases he : l[i.toNat]? with
    | none => exact .inl rfl
    | some s => exact (h s (List.mem_of_getElem? he)).step b
theorem stepE_big {es : List EdI} {m n : Nat} (h : EdOk es m n) {b : Nat} (hb : m ≤ b) : stepE es b = -1 := by
  unfold stepE
  rw [List.find?_eq_none.2]
  intro e he
  have := h.rg e he
  simp [inE]; omega
theorem stepE_append (es fs : List EdI) (b : Nat) : stepE (es ++ fs) b = if (es.find? (inE b)).isSome then stepE es b else stepE fs b := by
  unfold stepE
  rw [List.find?_append]
  cases es.find? (inE b) <;> simp
theorem EdOk.mono {es : List EdI} {m n m' n' : Nat} (h : EdOk es m n) (hm : m ≤ m') (hn : n ≤ n') : EdOk es m' n' :=
  ⟨fun e he => by have := h.rg e he; omega, h.so⟩
theorem EdOk.push {es : List EdI} {m n : Nat} (h : EdOk es m n) {hi q : Nat} (hm : m ≤ hi) (hq : q < n) : EdOk (push es (m : Int) (hi : Int) (q : Int)) (hi + 1) n ∧ ∀ b, stepE (push es (m : Int) (hi : Int) (q : Int)) b = if m ≤ b ∧ b ≤ hi then (q : Int) else stepE es b := by
  rcases nil_or_last es with rfl | ⟨l, x, rfl⟩
  · rw [push_nil]
    refine ⟨⟨by simp; omega, by simp⟩, fun b => ?_⟩
    simp only [stepE, List.find?_cons, inE, List.find?_nil]
    by_cases hb : m ≤ b ∧ b ≤ hi
    · rw [if_pos hb]
      have h1 : ((m : Int) ≤ b) := by omega
      have h2 : ((b : Int) ≤ hi) := by omega
      simp [h1, h2]
    · rw [if_neg hb]
      have : ¬ ((m : Int) ≤ b ∧ (b : Int) ≤ hi) := by omega
      by_cases h1 : (m : Int) ≤ b
      · have h2 : ¬ ((b : Int) ≤ hi) := by omega
        simp [h2]
      · simp [h1]
  · rw [push_last]
    have hx := h.rg x (by simp)
    have hso := List.pairwise_append.1 h.so
    split
    · rename_i hc
      refine ⟨⟨fun e he => ?_, ?_⟩, fun b => ?_⟩
      · rcases List.mem_append.1 he with he | he
        · have := h.rg e (by simp [he]); omega
        · simp at he; subst he; simp; omega
      · refine List.pairwise_append.2 ⟨hso.1, by simp, fun a ha e he => ?_⟩
        simp at he; subst he; exact hso.2.2 a ha x (by simp)
      · rw [stepE_append, stepE_append]
        cases hf : l.find? (inE b) with
        | some e =>
          have hem := List.mem_of_find?_eq_some hf
          have h1 := hso.2.2 e hem x (by simp)
          have h2 := List.find?_some hf
          simp [inE] at h2
          simp only [Option.isSome_some, if_true]
          rw [if_neg (by omega)]
        | none =>
          simp only [Option.isSome_none, Bool.false_eq_true, if_false]
          simp only [stepE, List.find?_cons, inE, List.find?_nil]
          by_cases hb : m ≤ b ∧ b ≤ hi
          · rw [if_pos hb]
            have h1 : (x.1 ≤ b) := by omega
            have h2 : ((b : Int) ≤ hi) := by omega
            simp [h1, h2]
          · rw [if_neg hb]
            by_cases h1 : x.1 ≤ b
            · by_cases h2 : (b : Int) ≤ x.2.1
              · have : (b : Int) ≤ hi := by omega
                simp [h1, h2, this, hc.1]
              · have : ¬ (b : Int) ≤ hi := by omega
                simp [h2, this]
            · simp [h1]
    · refine ⟨⟨fun e he => ?_, ?_⟩, fun b => ?_⟩
      · rcases List.mem_append.1 he with he | he
        · have := h.rg e he; omega
        · simp at he; subst he; simp; omega
      · refine List.pairwise_append.2 ⟨h.so, by simp, fun a ha e he => ?_⟩
        simp at he; subst he; have := h.rg a ha; simp; omega
      · rw [stepE_append]
        cases hf : (l ++ [x]).find? (inE b) with
        | some e =>
          have hem := List.mem_of_find?_eq_some hf
          have h1 := h.rg e hem
          have h2 := List.find?_some hf
          simp [inE] at h2
          simp only [Option.isSome_some, if_true]
          rw [if_neg (by omega)]
        | none =>
          have : stepE (l ++ [x]) b = -1 := by unfold stepE; rw [hf]
          rw [this]
          simp only [Option.isSome_none, Bool.false_eq_true, if_false]
          simp only [stepE, List.find?_cons, inE, List.find?_nil]
          by_cases hb : m ≤ b ∧ b ≤ hi
          · rw [if_pos hb]
            have h1 : ((m : Int) ≤ b) := by omega
            have h2 : ((b : Int) ≤ hi) := by omega
            simp [h1, h2]
          · rw [if_neg hb]
            by_cases h1 : (m : Int) ≤ b
            · have h2 : ¬ ((b : Int) ≤ hi) := by omega
              simp [h2]
            · simp [h1]
theorem ixL_append {kn more : List Lg} {D : Lg} (h : D ∈ kn) : ixL (kn ++ more) D = ixL kn D := by
  have h1 := ixL_mem h
  unfold ixL at h1 ⊢
  rw [List.findIdx_append, if_pos h1]
def Ext (kn kn' : List Lg) : Prop := ∃ more, kn' = kn ++ more
theorem Ext.refl (kn : List Lg) : Ext kn kn := ⟨[], by simp⟩
theorem Ext.trans {a b c : List Lg} (h : Ext a b) (k : Ext b c) : Ext a c := by
  obtain ⟨x, rfl⟩ := h; obtain ⟨y, rfl⟩ := k; exact ⟨x ++ y, by simp⟩
theorem Ext.len {a b : List Lg} (h : Ext a b) : a.length ≤ b.length := by obtain ⟨x, rfl⟩ := h; simp
theorem Ext.mem {a b : List Lg} (h : Ext a b) {D : Lg} (hd : D ∈ a) : D ∈ b := by obtain ⟨x, rfl⟩ := h; simp [hd]
theorem Ext.ix {a b : List Lg} (h : Ext a b) {D : Lg} (hd : D ∈ a) : ixL b D = ixL a D := by obtain ⟨x, rfl⟩ := h; exact ixL_append hd
theorem Ext.get {a b : List Lg} (h : Ext a b) {i : Nat} {D : Lg} (hd : a[i]? = some D) : b[i]? = some D := by
  obtain ⟨x, rfl⟩ := h
  rw [List.getElem?_append_left (List.getElem?_eq_some_iff.1 hd).1]; exact hd
theorem Ext.kn1 (kn : List Lg) (D : Lg) : Ext kn (kn1 kn D) := by
  unfold GL.kn1; split
  · exact ⟨[D], rfl⟩
  · exact .refl _
def Clo (S : List Lg) : Prop := ∀ K ∈ S, ∀ b < 256, live (der K b) = true → der K b ∈ S
structure KnOk (S kn : List Lg) : Prop where
  nd : kn.Nodup
  sub : ∀ D ∈ kn, D ∈ S
  lv : ∀ D ∈ kn, live D = true
theorem KnOk.kn1 {S kn : List Lg} (h : KnOk S kn) {D : Lg} (hD : D ∈ S) (hl : live D = true) : KnOk S (kn1 kn D) := by
  unfold GL.kn1; split
  · rename_i hi
    have hn : D ∉ kn := fun hm => by have := ixL_mem hm; omega
    refine ⟨List.nodup_append.2 ⟨h.nd, by simp, fun a ha b hb => ?_⟩, fun E hE => ?_, fun E hE => ?_⟩
    · simp at hb; subst hb; rintro rfl; exact hn ha
    · rcases List.mem_append.1 hE with hE | hE
      · exact h.sub E hE
      · simp at hE; subst hE; exact hD
    · rcases List.mem_append.1 hE with hE | hE
      · exact h.lv E hE
      · simp at hE; subst hE; exact hl
  · exact h
def EdSays (K : Lg) (kn : List Lg) (es : List EdI) (m : Nat) : Prop :=
  EdOk es m kn.length ∧ ∀ b, b < m → if live (der K b) then der K b ∈ kn ∧ stepE es b = (ixL kn (der K b) : Nat) else stepE es b = -1
theorem EdSays.ext {K : Lg} {kn kn' : List Lg} {es : List EdI} {m : Nat} (h : EdSays K kn es m) (he : Ext kn kn') : EdSays K kn' es m := by
  refine ⟨h.1.mono (Nat.le_refl _) he.len, fun b hb => ?_⟩
  have := h.2 b hb
  split
  · rename_i hl
    rw [if_pos hl] at this
    exact ⟨he.mem this.1, by rw [he.ix this.1]; exact this.2⟩
  · rename_i hl
    rw [if_neg hl] at this; exact this
theorem rowTo_succ (K : Lg) (kn : List Lg) (m : Nat) : rowTo K kn (m + 1) = rowI (rowTo K kn m) (der K m) m m := by
  unfold rowTo
  rw [List.range_succ, List.foldl_append]; rfl
theorem rowTo_ok {S kn : List Lg} {K : Lg} (hS : Clo S) (hK : K ∈ S) (hkn : KnOk S kn) : ∀ m, m ≤ 256 → Ext kn (rowTo K kn m).1 ∧ KnOk S (rowTo K kn m).1 ∧ EdSays K (rowTo K kn m).1 (rowTo K kn m).2 m
  | 0, _ => ⟨.refl _, hkn, .nil, fun b hb => by omega⟩
  | m + 1, hm => by
    obtain ⟨h1, h2, h3⟩ := rowTo_ok hS hK hkn m (by omega)
    rw [rowTo_succ]
    unfold rowI
    split
    · rename_i hl
      have hD := hS K hK m (by omega) hl
      refine ⟨h1.trans (Ext.kn1 _ _), h2.kn1 hD hl, ?_⟩
      have h4 := h3.ext (Ext.kn1 (rowTo K kn m).1 (der K m))
      have hlt : ixL (rowTo K kn m).1 (der K m) < (kn1 (rowTo K kn m).1 (der K m)).length := by
        rw [← ixL_kn1]; exact ixL_mem (mem_kn1 _ _)
      obtain ⟨h5, h6⟩ := h4.1.push (Nat.le_refl m) hlt
      refine ⟨h5, fun b hb => ?_⟩
      rw [h6 b]
      by_cases hbm : b = m
      · subst hbm
        rw [if_pos hl, if_pos ⟨Nat.le_refl _, Nat.le_refl _⟩, ixL_kn1]
        exact ⟨mem_kn1 _ _, rfl⟩
      · rw [if_neg (by omega : ¬ (m ≤ b ∧ b ≤ m))]
        exact h4.2 b (by omega)
    · rename_i hl
      refine ⟨h1, h2, h3.1.mono (by omega) (Nat.le_refl _), fun b hb => ?_⟩
      by_cases hbm : b = m
      · subst hbm; rw [if_neg hl]; exact stepE_big h3.1 (Nat.le_refl _)
      · exact h3.2 b (by omega)
structure CanOk (kn : List Lg) (out : Tb) : Prop where
  le : out.length ≤ kn.length
  row : ∀ (k : Nat) (K : Lg) (s : StI), kn[k]? = some K → out[k]? = some s → s.1 = K [] ∧ EdSays K kn s.2 256
theorem nodup_le {α : Type} [BEq α] [LawfulBEq α] : ∀ {a b : List α}, a.Nodup → (∀ x ∈ a, x ∈ b) → a.length ≤ b.length
  | [], _, _, _ => by simp
  | x :: a, b, hn, hs => by
    have hn' := List.nodup_cons.1 hn
    have := nodup_le (a := a) (b := b.erase x) hn'.2 (fun y hy => (List.mem_erase_of_ne (fun e => by subst e; exact hn'.1 hy)).2 (hs y (by simp [hy])))
    rw [List.length_erase_of_mem (hs x (by simp))] at this
    have hp : 0 < b.length := List.length_pos_of_mem (hs x (by simp))
    simp; omega
open Classical in
theorem KnOk.le {S kn : List Lg} (h : KnOk S kn) : kn.length ≤ S.length := nodup_le h.nd h.sub
theorem canGo_ok {S : List Lg} (hS : Clo S) : ∀ (fu : Nat) (kn : List Lg) (out : Tb), KnOk S kn → CanOk kn out → S.length < fu + out.length →
    ∃ kn', Ext kn kn' ∧ KnOk S kn' ∧ CanOk kn' (canGo fu kn out) ∧ (canGo fu kn out).length = kn'.length
  | 0, kn, out, h1, h2, h3 => by have := h1.le; have := h2.le; omega
  | fu + 1, kn, out, h1, h2, h3 => by
    unfold canGo
    split
    · rename_i K hK
      have hKm := List.mem_of_getElem? hK
      obtain ⟨g1, g2, g3⟩ := rowTo_ok hS (h1.sub K hKm) h1 256 (Nat.le_refl _)
      have hgo : CanOk (rowTo K kn 256).1 (out ++ [(K [], (rowTo K kn 256).2)]) := by
        refine ⟨?_, ?_⟩
        · have := (List.getElem?_eq_some_iff.1 hK).1
          have := g1.len
          simp; omega
        · intro k K' s hk hs
          by_cases hlt : k < out.length
          · rw [List.getElem?_append_left hlt] at hs
            have hk0 : k < kn.length := by have := h2.le; omega
            have hk' : kn[k]? = some K' := by
              obtain ⟨more, hm⟩ := g1
              rw [hm, List.getElem?_append_left hk0] at hk; exact hk
            have := h2.row k K' s hk' hs
            exact ⟨this.1, this.2.ext g1⟩
          · rw [List.getElem?_append_right (by omega)] at hs
            have hk0 : k = out.length := by
              have := (List.getElem?_eq_some_iff.1 hs).1
              simp at this; omega
            subst hk0
            rw [Nat.sub_self] at hs
            simp at hs; subst hs
            have := g1.get hK
            rw [this] at hk
            obtain rfl : K = K' := by simpa using hk
            exact ⟨rfl, g3⟩
      obtain ⟨kn', e1, e2, e3, e4⟩ := canGo_ok hS fu (rowTo K kn 256).1 (out ++ [(K [], (rowTo K kn 256).2)]) g2 hgo (by simp; omega)
      exact ⟨kn', g1.trans e1, e2, e3, e4⟩
    · rename_i hK
      have := List.getElem?_eq_none_iff.1 hK
      exact ⟨kn, .refl _, h1, h2, by have := h2.le; omega⟩
theorem CanOk.lg {kn : List Lg} {out : Tb} (h : CanOk kn out) (he : out.length = kn.length) : ∀ (w : List UInt8) (i : Nat) (K : Lg), kn[i]? = some K → lgT out (i : Int) w = K w
  | [], i, K, hk => by
    have hi := (List.getElem?_eq_some_iff.1 hk).1
    have hs : out[i]? = some out[i] := List.getElem?_eq_getElem (by omega)
    have := (h.row i K _ hk hs).1
    simp [lgT, runT, fin, rowT, hs, this]
  | c :: w, i, K, hk => by
    have hi := (List.getElem?_eq_some_iff.1 hk).1
    have hs : out[i]? = some out[i] := List.getElem?_eq_getElem (by omega)
    have := (h.row i K _ hk hs).2.2 c.toNat c.toNat_lt
    have e : lgT out (i : Int) (c :: w) = lgT out (stT out (i : Int) c.toNat) w := rfl
    have e2 : stT out (i : Int) c.toNat = stepE out[i].2 c.toNat := by simp [stT, rowT, hs]; omega
    have e3 : K (c :: w) = der K c.toNat w := by simp [der]
    rw [e, e2, e3]
    split at this
    · rename_i hl
      rw [this.2]
      have h4 := ixL_mem this.1
      exact CanOk.lg h he w _ _ (by rw [List.getElem?_eq_getElem h4, ixL_lt h4])
    · rename_i hl
      rw [this, lgT_neg (by decide)]
      have hl : live (der K c.toNat) = false := by simpa using hl
      exact (live_false.1 hl w).symm
theorem CanOk.wf {kn : List Lg} {out : Tb} (h : CanOk kn out) (he : out.length = kn.length) : WfT out := by
  intro s hs
  obtain ⟨i, hi, rfl⟩ := List.getElem_of_mem hs
  have hk : kn[i]? = some kn[i] := List.getElem?_eq_getElem (by omega)
  have := (h.row i _ _ hk (List.getElem?_eq_getElem hi)).2.1
  rw [he]; exact this
theorem canL_ok {S : List Lg} (hS : Clo S) {L : Lg} (hL : live L = true → L ∈ S) {fu : Nat} (hf : S.length < fu) :
    WfT (canL fu L) ∧ lgT (canL fu L) 0 = L ∧ (canL fu L).length ≤ S.length ∧ (live L = true → 0 < (canL fu L).length) := by
  unfold canL
  split
  · rename_i hl
    obtain ⟨kn, h1, h2, h3, h4⟩ := canGo_ok hS fu [L] [] ⟨by simp, by simpa using hL hl, by simpa using hl⟩ ⟨by simp, by simp⟩ (by simpa using hf)
    refine ⟨h3.wf h4, funext fun w => h3.lg h4 w 0 L (h1.get rfl), by rw [h4]; exact h2.le, fun _ => ?_⟩
    rw [h4]; have := h1.len; simp at this; omega
  · rename_i hl
    have hl : live L = false := by simpa using hl
    refine ⟨by simp [WfT], funext fun w => ?_, by simp, fun h => absurd h (by simp [hl])⟩
    rw [live_false.1 hl w]; simp [lgT, fin, rowT, runT]
theorem canGo_mono {S : List Lg} (hS : Clo S) : ∀ (fu fu' : Nat) (kn : List Lg) (out : Tb), KnOk S kn → CanOk kn out → S.length < fu + out.length → S.length < fu' + out.length → canGo fu kn out = canGo fu' kn out
  | 0, _, kn, out, h1, h2, h3, _ => by have := h1.le; have := h2.le; omega
  | _, 0, kn, out, h1, h2, _, h3 => by have := h1.le; have := h2.le; omega
  | fu + 1, fu' + 1, kn, out, h1, h2, h3, h4 => by
    unfold canGo
    split
    · rename_i K hK
      have hKm := List.mem_of_getElem? hK
      obtain ⟨g1, g2, g3⟩ := rowTo_ok hS (h1.sub K hKm) h1 256 (Nat.le_refl _)
      refine canGo_mono hS fu fu' _ _ g2 ⟨?_, ?_⟩ (by simp; omega) (by simp; omega)
      · have := (List.getElem?_eq_some_iff.1 hK).1
        have := g1.len
        simp; omega
      · intro k K' s hk hs
        by_cases hlt : k < out.length
        · rw [List.getElem?_append_left hlt] at hs
          have hk0 : k < kn.length := by have := h2.le; omega
          have hk' : kn[k]? = some K' := by
            obtain ⟨more, hm⟩ := g1
            rw [hm, List.getElem?_append_left hk0] at hk; exact hk
          have := h2.row k K' s hk' hs
          exact ⟨this.1, this.2.ext g1⟩
        · rw [List.getElem?_append_right (by omega)] at hs
          have hk0 : k = out.length := by
            have := (List.getElem?_eq_some_iff.1 hs).1
            simp at this; omega
          subst hk0
          rw [Nat.sub_self] at hs
          simp at hs; subst hs
          have := g1.get hK
          rw [this] at hk
          obtain rfl : K = K' := by simpa using hk
          exact ⟨rfl, g3⟩
    · rfl
theorem canL_mono {S : List Lg} (hS : Clo S) {L : Lg} (hL : live L = true → L ∈ S) {fu fu' : Nat} (hf : S.length < fu) (hf' : S.length < fu') : canL fu L = canL fu' L := by
  unfold canL
  split
  · rename_i hl
    exact canGo_mono hS fu fu' [L] [] ⟨by simp, by simpa using hL hl, by simpa using hl⟩ ⟨by simp, by simp⟩ (by simpa using hf) (by simpa using hf')
  · rfl
def lgs (l : Tb) : List Lg := (List.range l.length).map fun i => lgT l (i : Nat)
theorem lgs_len (l : Tb) : (lgs l).length = l.length := by simp [lgs]
theorem lgs_mem {l : Tb} {i : Int} (h : 0 ≤ i) (h' : i < l.length) : lgT l i ∈ lgs l := by
  refine List.mem_map.2 ⟨i.toNat, by simp; omega, ?_⟩
  rw [Int.toNat_of_nonneg h]
theorem lgs_clo {l : Tb} (h : WfT l) : Clo (lgs l) := by
  intro K hK b hb hl
  obtain ⟨i, hi, rfl⟩ := List.mem_map.1 hK
  rw [der_lgT _ _ _ hb] at hl ⊢
  rcases h.st (i : Int) b with h1 | h1
  · rw [h1, live_neg (by decide)] at hl; cases hl
  · exact lgs_mem h1.1 h1.2
theorem lgs_zero {l : Tb} (hl : live (lgT l 0) = true) : lgT l 0 ∈ lgs l := by
  cases l with
  | nil =>
    obtain ⟨w, hw⟩ := live_iff.1 hl
    exfalso
    have : lgT [] 0 w = false := by simp [lgT, fin, rowT]
    rw [this] at hw; cases hw
  | cons s l => exact lgs_mem (by decide) (by simp)
theorem canT_ok {l : Tb} (h : WfT l) {fu : Nat} (hf : l.length < fu) :
    WfT (canL fu (lgT l 0)) ∧ lgT (canL fu (lgT l 0)) 0 = lgT l 0 ∧ (canL fu (lgT l 0)).length ≤ l.length := by
  have := canL_ok (lgs_clo h) lgs_zero (fu := fu) (by rw [lgs_len]; exact hf)
  rw [lgs_len] at this
  exact ⟨this.1, this.2.1, this.2.2.1⟩
theorem canT_mono {l : Tb} (h : WfT l) {fu fu' : Nat} (hf : l.length < fu) (hf' : l.length < fu') : canL fu (lgT l 0) = canL fu' (lgT l 0) :=
  canL_mono (lgs_clo h) lgs_zero (by rw [lgs_len]; exact hf) (by rw [lgs_len]; exact hf')
noncomputable def canT (l : Tb) : Tb := canL (l.length + 1) (lgT l 0)
theorem canT_wf {l : Tb} (h : WfT l) : WfT (canT l) := (canT_ok h (by omega)).1
theorem canT_le {l : Tb} (h : WfT l) : (canT l).length ≤ l.length := (canT_ok h (by omega)).2.2
theorem canT_congr {l l' : Tb} (h : WfT l) (h' : WfT l') (e : lgT l 0 = lgT l' 0) : canT l = canT l' := by
  have h1 : canT l = canL (l.length + l'.length + 1) (lgT l 0) := canT_mono h (by omega) (by omega)
  have h2 : canT l' = canL (l.length + l'.length + 1) (lgT l' 0) := canT_mono h' (by omega) (by omega)
  rw [h1, h2, e]
end Go.GL
namespace Go.GL
open Go.GK
def ByT (l : Tb) : Prop := ∀ s ∈ l, ∀ e ∈ s.2, (0 ≤ e.1 ∧ e.1 ≤ 255) ∧ 0 ≤ e.2.1 ∧ e.2.1 ≤ 255
def ShT (l : Tb) (n : Nat) : Prop := l.length ≤ n ∧ ∀ s ∈ l, s.2.length ≤ n
theorem EdOk.take_succ {es : List EdI} {m n j : Nat} (hj : j < es.length) :
    EdOk (es.take (j + 1)) m n ↔ EdOk (es.take j) m n ∧ (0 ≤ es[j].1 ∧ es[j].1 ≤ es[j].2.1 ∧ es[j].2.1 < m ∧ 0 ≤ es[j].2.2 ∧ es[j].2.2 < n) ∧ (0 < j → (es[j - 1]'(by omega)).2.1 < es[j].1) := by
  rw [← List.take_append_getElem hj]
  constructor
  · rintro ⟨h1, h2⟩
    have h3 := List.pairwise_append.1 h2
    refine ⟨⟨fun e he => h1 e (List.mem_append.2 (.inl he)), h3.1⟩, h1 _ (List.mem_append.2 (.inr (by simp))), fun h0 => h3.2.2 _ ?_ _ (by simp)⟩
    exact List.mem_take_iff_getElem.2 ⟨j - 1, by omega, rfl⟩
  · rintro ⟨⟨h1, h2⟩, h3, h4⟩
    refine ⟨fun e he => ?_, List.pairwise_append.2 ⟨h2, by simp, fun a ha b hb => ?_⟩⟩
    · rcases List.mem_append.1 he with he | he
      · exact h1 e he
      · simp at he; subst he; exact h3
    · simp at hb; subst hb
      obtain ⟨i, hi, rfl⟩ := List.mem_take_iff_getElem.1 ha
      have h0 : 0 < j := by omega
      have h5 := h4 h0
      rcases Nat.lt_or_ge i (j - 1) with h | h
      · have h6 := List.pairwise_iff_getElem.1 h2 i (j - 1) (by simp; omega) (by simp; omega) h
        simp only [List.getElem_take] at h6
        have h7 := h1 (es[j - 1]'(by omega)) (List.mem_take_iff_getElem.2 ⟨j - 1, by omega, rfl⟩)
        omega
      · obtain rfl : i = j - 1 := by omega
        exact h5
theorem take_full {α : Type} (l : List α) : l.take l.length = l := List.take_of_length_le (Nat.le_refl _)
theorem mem_take_succ {α : Type} {l : List α} {k : Nat} (hk : k < l.length) {x : α} : x ∈ l.take (k + 1) ↔ x ∈ l.take k ∨ x = l[k] := by
  rw [← List.take_append_getElem hk, List.mem_append]; simp only [List.mem_singleton]
theorem wellFormed_ok {l : Tb} {n fu : Nat} (hb : ByT l) (hs : ShT l n) (hf : n < fu) (hn : n < 4294967296) : Ok (au_wellFormed fu l) (fun r => r = true ↔ WfT l) := by
  unfold au_wellFormed
  refine Ok.count (fun k => ∀ s ∈ l.take k, EdOk s.2 256 l.length) l.length (by simp) (by have := hs.1; omega) (fun k nx hk hJ hn => ?_) (fun nx hJ => ?_)
  · unfold au_wellFormed_b1
    have hm : l[k] ∈ l := List.getElem_mem hk
    have hsl := hs.2 _ hm
    refine Ok.iT (by omega) (Ok.idxN hk ?_)
    refine Ok.count (fun j => EdOk (l[k].2.take j) 256 l.length) l[k].2.length (by simp; exact .nil) (by omega) (fun j nx' hj hE hn' => ?_) (fun nx' hE => ?_)
    · unfold au_wellFormed_b2
      have hbe := hb _ hm _ (List.getElem_mem hj)
      have hno : ∀ h : ¬ EdOk (l[k].2.take (j + 1)) 256 l.length, Ok (some false) (fun r => r = true ↔ WfT l) := fun h =>
        Ok.some ⟨fun h => (by cases h), fun hw => absurd ⟨fun e he => (hw _ hm).rg e (List.mem_of_mem_take he), (hw _ hm).so.sublist (List.take_sublist _ _)⟩ h⟩
      rw [EdOk.take_succ hj] at hno
      refine Ok.iT (by omega) (Ok.idxN hj ?_)
      refine Ok.ite (fun h => hno (by omega)) fun h1 => Ok.ite (fun h => hno (by omega)) fun h2 => Ok.ite (fun h => hno (by omega)) fun h3 => Ok.ite (fun h4 => ?_) (fun h4 => ?_)
      · have h5 : ((j : Int) - 1).toNat = j - 1 := by omega
        refine Ok.chk (by unfold F64; omega) (Ok.idxI (by omega) (by omega) ?_)
        refine Ok.ite (fun h => hno ?_) fun h6 => hn' ((EdOk.take_succ hj).2 ⟨hE, by omega, fun _ => ?_⟩)
        · rintro ⟨_, _, h7⟩
          have := h7 (by omega)
          simp only [h5] at h
          omega
        · simp only [h5] at h6; omega
      · exact hn' ((EdOk.take_succ hj).2 ⟨hE, by omega, fun h => by omega⟩)
    · unfold au_wellFormed_b2
      refine Ok.iF (by omega) (hn fun s hs' => ?_)
      rcases (mem_take_succ hk).1 hs' with h | rfl
      · exact hJ s h
      · rw [take_full] at hE; exact hE
  · unfold au_wellFormed_b1
    refine Ok.iF (by omega) (Ok.some ⟨fun _ s hs' => hJ s (by rw [take_full]; exact hs'), fun _ => rfl⟩)
theorem few_ok {l : Tb} {fu : Nat} (hf : l.length < fu) : Ok (w05_few fu l) (fun r => r = true → ShT l 12) := by
  unfold w05_few
  refine Ok.count (fun k => ∀ s ∈ l.take k, s.2.length ≤ 12) l.length (by simp) hf (fun k nx hk hJ hn => ?_) (fun nx hJ => ?_)
  · unfold w05_few_b1
    refine Ok.iT (by omega) (Ok.idxN hk (Ok.ite (fun _ => Ok.some fun h => (by cases h)) fun h => hn fun s hs => ?_))
    rcases (mem_take_succ hk).1 hs with h' | rfl
    · exact hJ s h'
    · omega
  · unfold w05_few_b1
    refine Ok.iF (by omega) (Ok.some fun h => ?_)
    have := of_decide_eq_true h
    rw [take_full] at hJ
    exact ⟨by omega, hJ⟩
theorem stepE_at {es : List EdI} {b j : Nat} (hj : j < es.length) (h : inE b es[j] = true) (hb : ∀ i (hi : i < j), inE b es[i] = false) : stepE es b = es[j].2.2 := by
  have : es.find? (inE b) = some es[j] := List.find?_eq_some_iff_getElem.2 ⟨h, j, hj, rfl, fun i hi => by simp [hb i hi]⟩
  unfold stepE; rw [this]
theorem stepE_none {es : List EdI} {b : Nat} (hb : ∀ i (hi : i < es.length), inE b es[i] = false) : stepE es b = -1 := by
  have : es.find? (inE b) = none := List.find?_eq_none.2 fun e he => by
    obtain ⟨i, hi, rfl⟩ := List.getElem_of_mem he
    simp [hb i hi]
  unfold stepE; rw [this]
theorem rowT_get {l : Tb} {i : Int} (h0 : 0 ≤ i) (h1 : i < l.length) : rowT l i = l[i.toNat]'(by omega) := by
  unfold rowT; rw [List.getD_eq_getElem?_getD, List.getElem?_eq_getElem (by omega)]; rfl
theorem lgT_nil (i : Int) (s : List UInt8) : lgT [] i s = false := by simp [lgT, fin, rowT]
theorem ext_take {α : Type} {a b : List α} (h : a.length = b.length) (k : ∀ j (h : j < a.length) (h' : j < b.length), a[j] = b[j]) : a = b := List.ext_getElem h fun j h1 h2 => k j h1 h2
theorem Ok.ne3 {R : Type} {P : R → Prop} {x y : EdI} {p q : Option R} (hp : x ≠ y → Ok p P) (hq : x = y → Ok q P) :
    Ok (bif !(decide (([x.1, x.2.1, x.2.2] : List Int) = [y.1, y.2.1, y.2.2])) then p else q) P := by
  have key : ([x.1, x.2.1, x.2.2] : List Int) = [y.1, y.2.1, y.2.2] ↔ x = y :=
    ⟨fun h => by simp at h; exact Prod.ext h.1 (Prod.ext h.2.1 h.2.2), fun h => by rw [h]⟩
  by_cases h : x = y
  · rw [decide_eq_true (key.2 h)]; exact hq h
  · rw [decide_eq_false (fun e => h (key.1 e))]; exact hp h
theorem slEqual_ok {a b : List EdI} {fu : Nat} (hf : a.length < fu) : Ok (slices_Equal fu a b) (fun r => r = true ↔ a = b) := by
  unfold slices_Equal
  refine Ok.ite (fun h => Ok.some ⟨fun h => (by cases h), fun h' => by subst h'; exact absurd rfl h⟩) fun h => ?_
  have hl : a.length = b.length := by omega
  refine Ok.count (fun k => ∀ j (_ : j < k) (h : j < a.length) (h' : j < b.length), a[j] = b[j]) a.length (by intro j h; omega) hf (fun k nx hk hJ hn => ?_) (fun nx hJ => ?_)
  · unfold slices_Equal_b1
    refine Ok.iT (by omega) (Ok.idxN hk (Ok.idxN (by omega) ?_))
    have hkb : k < b.length := by omega
    refine Ok.ne3 (fun h => Ok.some ⟨fun h => (by cases h), fun h' => ?_⟩) fun h => hn fun j hj h1 h2 => ?_
    · subst h'; exact absurd rfl h
    · rcases Nat.lt_or_ge j k with h3 | h3
      · exact hJ j h3 h1 h2
      · obtain rfl : j = k := by omega
        exact h
  · unfold slices_Equal_b1
    exact Ok.iF (by omega) (Ok.some ⟨fun _ => ext_take hl fun j h h' => hJ j h h h', fun _ => rfl⟩)
theorem same1_ok {a b : StI} {fu : Nat} (hf : a.2.length < fu) : Ok (au_Same_1 fu a b) (fun r => r = true ↔ a = b) := by
  unfold au_Same_1
  refine Ok.bif (fun h => Ok.bnd (slEqual_ok hf) fun r hr => Ok.some ?_) fun h => Ok.some ⟨fun h => (by cases h), fun h' => by subst h'; simp at h⟩
  rw [hr]
  exact ⟨fun h' => Prod.ext (by simpa using h) h', fun h' => by rw [h']⟩
theorem auSame_ok {a b : Tb} {n fu : Nat} (hs : ShT a n) (hf : n < fu) : Ok (au_Same fu a b) (fun r => r = true ↔ a = b) := by
  unfold au_Same
  refine Ok.bnd (Q := fun r => r = true ↔ a = b) ?_ fun r hr => Ok.some hr
  unfold slices_EqualFunc_au_Same_1
  refine Ok.ite (fun h => Ok.some ⟨fun h => (by cases h), fun h' => by subst h'; exact absurd rfl h⟩) fun h => ?_
  have hl : a.length = b.length := by omega
  refine Ok.count (fun k => ∀ j (_ : j < k) (h : j < a.length) (h' : j < b.length), a[j] = b[j]) a.length (by intro j h; omega) (by have := hs.1; omega) (fun k nx hk hJ hn => ?_) (fun nx hJ => ?_)
  · unfold slices_EqualFunc_au_Same_1_b1
    have hkb : k < b.length := by omega
    refine Ok.iT (by omega) (Ok.idxN hk (Ok.idxN (by omega) (Ok.bnd (same1_ok (by have := hs.2 _ (List.getElem_mem hk); omega)) fun r hr => ?_)))
    refine Ok.bif (fun h => Ok.some ⟨fun h => (by cases h), fun h' => ?_⟩) fun h => hn fun j hj h1 h2 => ?_
    · subst h'; simp at hr; subst hr; cases h
    · rcases Nat.lt_or_ge j k with h3 | h3
      · exact hJ j h3 h1 h2
      · obtain rfl : j = k := by omega
        exact hr.1 (by cases r; cases h; rfl)
  · unfold slices_EqualFunc_au_Same_1_b1
    exact Ok.iF (by omega) (Ok.some ⟨fun _ => ext_take hl fun j h h' => hJ j h h h', fun _ => rfl⟩)
theorem same5_ok {a b : Tb} {n fu : Nat} (hs : ShT a n) (hf : n < fu) : Ok (r05_Same fu a b) (fun r => r = true ↔ a = b) := by
  unfold r05_Same
  refine Ok.ite (fun h => Ok.some ⟨fun h => (by cases h), fun h' => by subst h'; exact absurd rfl h⟩) fun h => ?_
  have hl : a.length = b.length := by omega
  refine Ok.count (fun k => ∀ j (_ : j < k) (h : j < a.length) (h' : j < b.length), a[j] = b[j]) a.length (by intro j h; omega) (by have := hs.1; omega) (fun k nx hk hJ hn => ?_) (fun nx hJ => ?_)
  · unfold r05_Same_b1
    have hkb : k < b.length := by omega
    refine Ok.iT (by omega) (Ok.idxN hk (Ok.idxN (by omega) ?_))
    refine Ok.bif (fun h => Ok.some ⟨fun h => (by cases h), fun h' => by subst h'; simp at h⟩) fun h1 => Ok.ite (fun h => Ok.some ⟨fun h => (by cases h), fun h' => by subst h'; simp at h⟩) fun h2 => ?_
    have hl2 : a[k].2.length = b[k].2.length := by omega
    refine Ok.count (fun i => ∀ j (_ : j < i) (h : j < a[k].2.length) (h' : j < b[k].2.length), a[k].2[j] = b[k].2[j]) a[k].2.length (by intro j h; omega) (by have := hs.2 _ (List.getElem_mem hk); omega) (fun i nx' hi hE hn' => ?_) (fun nx' hE => ?_)
    · unfold r05_Same_b2
      have hib : i < b[k].2.length := by omega
      refine Ok.iT (by omega) (Ok.idxN hi (Ok.idxN hib ?_))
      refine Ok.ne3 (fun h => Ok.some ⟨fun h => (by cases h), fun h' => by subst h'; exact absurd rfl h⟩) fun h => hn' fun j hj h1 h2 => ?_
      rcases Nat.lt_or_ge j i with h3 | h3
      · exact hE j h3 h1 h2
      · obtain rfl : j = i := by omega
        exact h
    · unfold r05_Same_b2
      refine Ok.iF (by omega) (hn fun j hj h3 h4 => ?_)
      rcases Nat.lt_or_ge j k with h5 | h5
      · exact hJ j h5 h3 h4
      · obtain rfl : j = k := by omega
        exact Prod.ext (by simpa using h1) (ext_take hl2 fun j h h' => hE j h h h')
  · unfold r05_Same_b1
    exact Ok.iF (by omega) (Ok.some ⟨fun _ => ext_take hl fun j h h' => hJ j h h h', fun _ => rfl⟩)
end Go.GL
namespace Go.GL
open Go.GK Go.Lib
def valD (l : List UInt8) : Nat := l.foldl (fun a c => 10 * a + (c.toNat - 48)) 0
theorem dig_toNat {d : Nat} (h : d < 10) : (UInt8.ofNat (48 + d)).toNat = 48 + d := by
  simp; omega
theorem decDigits_val (u : Nat) : valD (decDigits u) = u := by
  induction u using Nat.strongRecOn with
  | _ u ih =>
    rw [decDigits]
    split
    · rename_i h
      unfold valD
      rw [List.foldl_cons, List.foldl_nil, dig_toNat h]; omega
    · unfold valD at ih ⊢
      rw [List.foldl_append, ih (u / 10) (by omega), List.foldl_cons, List.foldl_nil, dig_toNat (by omega)]; omega
theorem decDigits_mem (u : Nat) : ∀ c ∈ decDigits u, 48 ≤ c.toNat := by
  induction u using Nat.strongRecOn with
  | _ u ih =>
    rw [decDigits]
    split
    · intro c hc; rw [List.mem_singleton] at hc; subst hc; rw [dig_toNat (by omega)]; omega
    · intro c hc
      rcases List.mem_append.1 hc with hc | hc
      · exact ih (u / 10) (by omega) c hc
      · rw [List.mem_singleton] at hc; subst hc; rw [dig_toNat (by omega)]; omega
theorem nDigits_le : ∀ (k u : Nat), u < 10 ^ (k + 1) → nDigits u ≤ k + 1
  | 0, u, h => by rw [nDigits_small (by simpa using h)]; omega
  | k + 1, u, h => by
    by_cases hu : u < 10
    · rw [nDigits_small hu]; omega
    · have hp : 1 ≤ 10 ^ k := Nat.one_le_pow _ _ (by decide)
      rw [nDigits_big hu]
      have := nDigits_le k (u / 10) (by rw [Nat.pow_succ] at h ⊢; omega)
      omega
theorem itoa_nat (u : Nat) : itoa (u : Int) = decDigits u := by unfold itoa; rw [if_neg (by omega)]; simp
theorem itoa_len {u : Nat} (h : u < 10000000000) : (itoa (u : Int)).length ≤ 10 := by
  rw [itoa_nat, decDigits_length]; exact nDigits_le 9 u (by simpa using h)
theorem itoa_no {n : Int} (h : 0 ≤ n) : (44 : UInt8) ∉ itoa n := by
  intro hm
  obtain ⟨u, rfl⟩ : ∃ u : Nat, n = u := ⟨n.toNat, by omega⟩
  rw [itoa_nat] at hm
  have := decDigits_mem u 44 hm
  exact absurd this (by decide)
theorem itoa_inj {n m : Int} (h : 0 ≤ n) (k : 0 ≤ m) (e : itoa n = itoa m) : n = m := by
  obtain ⟨u, rfl⟩ : ∃ u : Nat, n = u := ⟨n.toNat, by omega⟩
  obtain ⟨v, rfl⟩ : ∃ u : Nat, m = u := ⟨m.toNat, by omega⟩
  rw [itoa_nat, itoa_nat] at e
  have := congrArg valD e
  rw [decDigits_val, decDigits_val] at this
  rw [this]
theorem comma_split : ∀ {A B R S : List UInt8}, 44 ∉ A → 44 ∉ B → (R = [] ∨ R.head? = some 44) → (S = [] ∨ S.head? = some 44) → A ++ R = B ++ S → A = B ∧ R = S
  | [], [], _, _, _, _, _, _, h => ⟨rfl, h⟩
  | [], b :: B, R, S, _, hB, hR, _, h => by
    simp only [List.nil_append, List.cons_append] at h
    subst h
    rcases hR with hR | hR
    · cases hR
    · simp at hR; subst hR; exact absurd (by simp) hB
  | a :: A, [], R, S, hA, _, _, hS, h => by
    simp only [List.nil_append, List.cons_append] at h
    subst h
    rcases hS with hS | hS
    · cases hS
    · simp at hS; subst hS; exact absurd (by simp) hA
  | a :: A, b :: B, R, S, hA, hB, hR, hS, h => by
    simp only [List.cons_append, List.cons.injEq] at h
    have := comma_split (fun hm => hA (by simp [hm])) (fun hm => hB (by simp [hm])) hR hS h.2
    exact ⟨by rw [h.1, this.1], this.2⟩
def tails (l : List Int) : Str := l.flatMap fun x => ([44] : Str) ++ itoa x
theorem tails_head (l : List Int) : tails l = [] ∨ (tails l).head? = some 44 := by
  cases l with
  | nil => exact .inl rfl
  | cons x l => exact .inr (by simp [tails])
theorem sig_inj : ∀ {l m : List Int} {x y : Int}, (∀ z ∈ l, 0 ≤ z) → (∀ z ∈ m, 0 ≤ z) → 0 ≤ x → 0 ≤ y → itoa x ++ tails l = itoa y ++ tails m → x = y ∧ l = m
  | l, m, x, y, hl, hm, hx, hy, h => by
    obtain ⟨h1, h2⟩ := comma_split (itoa_no hx) (itoa_no hy) (tails_head l) (tails_head m) h
    refine ⟨itoa_inj hx hy h1, ?_⟩
    clear h h1
    induction l generalizing m with
    | nil =>
      cases m with
      | nil => rfl
      | cons y m => simp [tails] at h2
    | cons x l ih =>
      cases m with
      | nil => simp [tails] at h2
      | cons y m =>
        have e1 : itoa x ++ tails l = itoa y ++ tails m := by simpa [tails] using h2
        obtain ⟨h3, h4⟩ := comma_split (itoa_no (hl x (by simp))) (itoa_no (hm y (by simp))) (tails_head l) (tails_head m) e1
        rw [itoa_inj (hl x (by simp)) (hm y (by simp)) h3, ih m (fun z hz => hl z (by simp [hz])) (fun z hz => hm z (by simp [hz])) h4]
section
variable {α : Type}
def tab (n : Nat) (f : Nat → α) : List α := (List.range n).map f
theorem tab_len (n : Nat) (f : Nat → α) : (tab n f).length = n := by simp [tab]
theorem tab_get {n : Nat} {f : Nat → α} {i : Nat} (h : i < (tab n f).length) : (tab n f)[i] = f i := by simp [tab]
theorem tab_get? {n : Nat} {f : Nat → α} {i : Nat} (h : i < n) : (tab n f)[i]? = some (f i) := by
  rw [List.getElem?_eq_getElem (by rw [tab_len]; exact h), tab_get]
theorem tab_congr {n : Nat} {f g : Nat → α} (h : ∀ i, i < n → f i = g i) : tab n f = tab n g :=
  List.map_congr_left fun i hi => h i (List.mem_range.1 hi)
theorem tab_set (n : Nat) (f : Nat → α) (i : Nat) (x : α) : (tab n f).set i x = tab n (fun j => if j = i then x else f j) := by
  refine List.ext_getElem (by simp [tab]) fun j h1 h2 => ?_
  rw [List.getElem_set, tab_get, tab_get]
  by_cases h : i = j
  · rw [if_pos h, if_pos h.symm]
  · rw [if_neg h, if_neg (fun e => h e.symm)]
theorem tab_rep (n : Nat) (x : α) : List.replicate n x = tab n (fun _ => x) := by
  refine List.ext_getElem (by simp [tab]) fun j h1 h2 => by rw [tab_get]; simp
theorem tab_succ (n : Nat) (f : Nat → α) : tab (n + 1) f = tab n f ++ [f n] := by simp [tab, List.range_succ]
theorem mem_tab {n : Nat} {f : Nat → α} {x : α} : x ∈ tab n f ↔ ∃ i, i < n ∧ f i = x := by simp [tab]
theorem tab_inj {n : Nat} {f g : Nat → α} : tab n f = tab n g ↔ ∀ i, i < n → f i = g i := by
  refine ⟨fun h i hi => ?_, tab_congr⟩
  have := congrArg (·[i]?) h
  simpa [tab_get? hi] using this
theorem idx_tab {n : Nat} {f : Nat → α} {i : Nat} (h : i < n) : idx (tab n f) (i : Int) = some (f i) := by
  rw [idx_nat (by rw [tab_len]; exact h), tab_get]
end
theorem idx_tabI {α : Type} {n : Nat} {f : Nat → α} {i : Int} (h0 : 0 ≤ i) (h : i.toNat < n) : idx (tab n f) i = some (f i.toNat) := by
  rw [idx_int h0 (by rw [tab_len]; omega), tab_get]
section
variable {α β : Type}
theorem nodup_le' [DecidableEq α] : ∀ {a b : List α}, a.Nodup → (∀ x ∈ a, x ∈ b) → a.length ≤ b.length
  | [], _, _, _ => by simp
  | x :: a, b, hn, hs => by
    have hn' := List.nodup_cons.1 hn
    have := nodup_le' (a := a) (b := b.erase x) hn'.2 (fun y hy => (List.mem_erase_of_ne (fun e => by subst e; exact hn'.1 hy)).2 (hs y (by simp [hy])))
    rw [List.length_erase_of_mem (hs x (by simp))] at this
    have hp : 0 < b.length := List.length_pos_of_mem (hs x (by simp))
    simp; omega
theorem nodup_of_le [DecidableEq α] : ∀ {b a : List α}, a.Nodup → (∀ x ∈ a, x ∈ b) → b.length ≤ a.length → b.Nodup
  | [], _, _, _, _ => .nil
  | x :: b, a, hn, hs, hl => by
    by_cases hx : x ∈ b
    · have := nodup_le' (b := b) hn (fun y hy => by
        rcases List.mem_cons.1 (hs y hy) with rfl | h
        · exact hx
        · exact h)
      simp at hl; omega
    · refine List.nodup_cons.2 ⟨hx, nodup_of_le (a := a.erase x) (hn.erase x) (fun y hy => ?_) ?_⟩
      · have h1 := List.Nodup.mem_erase_iff hn |>.1 hy
        rcases List.mem_cons.1 (hs y h1.2) with rfl | h
        · exact absurd rfl h1.1
        · exact h
      · have := List.length_erase (a := x) (l := a)
        split at this <;> simp at hl <;> omega
structure Vals (n : Nat) (f : Nat → α) (u : List α) : Prop where
  nd : u.Nodup
  mem : ∀ x, x ∈ u ↔ ∃ s, s < n ∧ f s = x
open Classical in
theorem Vals.le {n : Nat} {f : Nat → α} {u : List α} (h : Vals n f u) : u.length ≤ n := by
  have := nodup_le' (b := tab n f) h.nd (fun x hx => mem_tab.2 ((h.mem x).1 hx))
  rwa [tab_len] at this
open Classical in
theorem Vals.fine {n : Nat} {f : Nat → α} {g : Nat → β} {u : List α} {v : List β} (hu : Vals n f u) (hv : Vals n g v) (hr : ∀ s t, s < n → t < n → g s = g t → f s = f t) :
    u.length ≤ v.length ∧ (u.length = v.length → ∀ s t, s < n → t < n → f s = f t → g s = g t) := by
  have hc : ∀ x ∈ v, ∃ s, s < n ∧ g s = x := fun x hx => (hv.mem x).1 hx
  let p : β → α := fun x => if h : ∃ s, s < n ∧ g s = x then f (Classical.choose h) else f 0
  have hp : ∀ s, s < n → p (g s) = f s := fun s hs => by
    have h : ∃ t, t < n ∧ g t = g s := ⟨s, hs, rfl⟩
    have h1 := Classical.choose_spec h
    show (if h : ∃ t, t < n ∧ g t = g s then f (Classical.choose h) else f 0) = f s
    rw [dif_pos h]; exact hr _ _ h1.1 hs h1.2
  have hs : ∀ y ∈ u, y ∈ v.map p := fun y hy => by
    obtain ⟨s, hs, rfl⟩ := (hu.mem y).1 hy
    exact List.mem_map.2 ⟨g s, (hv.mem _).2 ⟨s, hs, rfl⟩, hp s hs⟩
  refine ⟨by have := nodup_le' hu.nd hs; simpa using this, fun he s t hs' ht' hf => ?_⟩
  have hnd := nodup_of_le hu.nd hs (by simp [he])
  have h1 := (hv.mem _).2 ⟨s, hs', rfl⟩
  have h2 := (hv.mem _).2 ⟨t, ht', rfl⟩
  have h3 : p (g s) = p (g t) := by rw [hp s hs', hp t ht', hf]
  obtain ⟨i, hi, e1⟩ := List.getElem_of_mem h1
  obtain ⟨j, hj, e2⟩ := List.getElem_of_mem h2
  have h4 : (v.map p)[i]'(by simpa using hi) = (v.map p)[j]'(by simpa using hj) := by simp [e1, e2, h3]
  have : i = j := by
    rcases Nat.lt_trichotomy i j with h5 | h5 | h5
    · exact absurd h4 (List.pairwise_iff_getElem.1 hnd _ _ (by simpa using hi) (by simpa using hj) h5)
    · exact h5
    · exact absurd h4.symm (List.pairwise_iff_getElem.1 hnd _ _ (by simpa using hj) (by simpa using hi) h5)
  subst this
  rw [← e1, ← e2]
theorem Vals.zero (f : Nat → α) : Vals 0 f [] := ⟨.nil, by simp⟩
theorem Vals.new {n : Nat} {f : Nat → α} {u : List α} (h : Vals n f u) (hn : f n ∉ u) : Vals (n + 1) f (u ++ [f n]) := by
  refine ⟨List.nodup_append.2 ⟨h.nd, by simp, fun a ha b hb => ?_⟩, fun x => ?_⟩
  · simp at hb; subst hb; rintro rfl; exact hn ha
  · rw [List.mem_append, h.mem, List.mem_singleton]
    constructor
    · rintro (⟨s, hs, e⟩ | rfl)
      · exact ⟨s, by omega, e⟩
      · exact ⟨n, by omega, rfl⟩
    · rintro ⟨s, hs, rfl⟩
      rcases Nat.lt_or_ge s n with h1 | h1
      · exact .inl ⟨s, h1, rfl⟩
      · obtain rfl : s = n := by omega
        exact .inr rfl
theorem Vals.old {n : Nat} {f : Nat → α} {u : List α} (h : Vals n f u) (hn : f n ∈ u) : Vals (n + 1) f u := by
  refine ⟨h.nd, fun x => ?_⟩
  rw [h.mem]
  constructor
  · rintro ⟨s, hs, e⟩; exact ⟨s, by omega, e⟩
  · rintro ⟨s, hs, rfl⟩
    rcases Nat.lt_or_ge s n with h1 | h1
    · exact ⟨s, h1, rfl⟩
    · obtain rfl : s = n := by omega
      exact (h.mem _).1 hn
end
end Go.GL
namespace Go.GL
open Go.GK
def Ends (l : Tb) (b : Nat) : Prop := b = 0 ∨ ∃ s ∈ l, ∃ e ∈ s.2, e.1 = (b : Int) ∨ e.2.1 + 1 = (b : Int)
structure CutOk (cs : List Int) : Prop where
  zero : cs[0]? = some 0
  asc : cs.Pairwise (· < ·)
  rg : ∀ c ∈ cs, 0 ≤ c ∧ c < 256
def hiC (cs : List Int) (i : Nat) : Int := if i + 1 < cs.length then cs.getD (i + 1) 0 - 1 else 255
def CutFor (cs : List Int) (l : Tb) : Prop := ∀ b : Nat, b < 256 → Ends l b → (b : Int) ∈ cs
theorem CutOk.pos {cs : List Int} (h : CutOk cs) : 0 < cs.length := (List.getElem?_eq_some_iff.1 h.zero).1
theorem CutOk.le {cs : List Int} (h : CutOk cs) : cs.length ≤ 256 := by
  have h1 : (cs.map Int.toNat).Nodup := by
    refine (List.pairwise_map.2 ?_)
    refine List.Pairwise.imp_of_mem (fun {a b} ha hb hab => ?_) h.asc
    have := h.rg a ha; have := h.rg b hb; omega
  have := nodup_le' (b := List.range 256) h1 (fun x hx => by
    obtain ⟨c, hc, rfl⟩ := List.mem_map.1 hx
    have := h.rg c hc
    exact List.mem_range.2 (by omega))
  simpa using this
theorem CutOk.lt {cs : List Int} (h : CutOk cs) {i j : Nat} (hi : i < cs.length) (hj : j < cs.length) (hij : i < j) : cs[i] < cs[j] := List.pairwise_iff_getElem.1 h.asc i j hi hj hij
theorem CutOk.get0 {cs : List Int} (h : CutOk cs) : cs[0]'h.pos = 0 := by
  have := h.zero; rw [List.getElem?_eq_getElem h.pos] at this; simpa using this
theorem hiC_some {cs : List Int} {i : Nat} (h : i + 1 < cs.length) : hiC cs i = cs[i + 1] - 1 := by
  unfold hiC; rw [if_pos h, List.getD_eq_getElem?_getD, List.getElem?_eq_getElem h]; rfl
theorem hiC_last {cs : List Int} {i : Nat} (h : ¬ i + 1 < cs.length) : hiC cs i = 255 := by unfold hiC; rw [if_neg h]
theorem CutOk.hi {cs : List Int} (h : CutOk cs) {i : Nat} (hi : i < cs.length) : cs[i] ≤ hiC cs i ∧ hiC cs i < 256 := by
  have h0 := h.rg _ (List.getElem_mem hi)
  by_cases h1 : i + 1 < cs.length
  · rw [hiC_some h1]
    have := h.lt hi h1 (by omega)
    have := h.rg _ (List.getElem_mem h1)
    omega
  · rw [hiC_last h1]; omega
theorem CutOk.no {cs : List Int} (h : CutOk cs) {i : Nat} (hi : i < cs.length) {c : Int} (h1 : cs[i] < c) (h2 : c ≤ hiC cs i) : c ∉ cs := by
  intro hm
  obtain ⟨j, hj, rfl⟩ := List.getElem_of_mem hm
  have hij : i < j := by
    rcases Nat.lt_trichotomy i j with h3 | h3 | h3
    · exact h3
    · subst h3; omega
    · have := h.lt hj hi h3; omega
  have hs : i + 1 < cs.length := by omega
  rw [hiC_some hs] at h2
  rcases Nat.lt_or_ge (i + 1) j with h3 | h3
  · have := h.lt hs hj h3; omega
  · obtain rfl : i + 1 = j := by omega
    omega
theorem CutFor.const {cs : List Int} {l : Tb} (h : CutOk cs) (hc : CutFor cs l) (hw : WfT l) {i : Nat} (hi : i < cs.length) {b : Nat} (h1 : cs[i] ≤ b) (h2 : (b : Int) ≤ hiC cs i) (q : Int) : stT l q b = stT l q cs[i].toNat := by
  have hr := h.rg _ (List.getElem_mem hi)
  have hh := h.hi hi
  unfold stT
  split
  · rfl
  · have hE : ∀ e ∈ (rowT l q).2, inE b e = inE cs[i].toNat e := by
      intro e he
      have hm : ∃ s ∈ l, e ∈ s.2 := by
        unfold rowT at he
        rw [List.getD_eq_getElem?_getD] at he
        cases hx : l[q.toNat]? with
        | none => rw [hx] at he; simp at he
        | some s => rw [hx] at he; exact ⟨s, List.mem_of_getElem? hx, he⟩
      obtain ⟨s, hs, he⟩ := hm
      have hg := (hw s hs).rg e he
      have n1 : ¬ (cs[i] < e.1 ∧ e.1 ≤ hiC cs i) := fun ⟨a1, a2⟩ => h.no hi a1 a2 (by
        have := hc e.1.toNat (by omega) (.inr ⟨s, hs, e, he, .inl (by omega)⟩)
        rwa [show ((e.1.toNat : Nat) : Int) = e.1 by omega] at this)
      have n2 : ¬ (cs[i] < e.2.1 + 1 ∧ e.2.1 + 1 ≤ hiC cs i) := fun ⟨a1, a2⟩ => h.no hi a1 a2 (by
        have := hc (e.2.1 + 1).toNat (by omega) (.inr ⟨s, hs, e, he, .inr (by omega)⟩)
        rwa [show (((e.2.1 + 1).toNat : Nat) : Int) = e.2.1 + 1 by omega] at this)
      simp only [inE]
      rw [show ((cs[i].toNat : Nat) : Int) = cs[i] by omega]
      congr 1
      · exact decide_eq_decide.2 (by omega)
      · exact decide_eq_decide.2 (by omega)
    unfold stepE
    rw [show (rowT l q).2.find? (inE b) = (rowT l q).2.find? (inE cs[i].toNat) from ?_]
    generalize (rowT l q).2 = es at hE
    induction es with
    | nil => rfl
    | cons e es ih =>
      rw [List.find?_cons, List.find?_cons, hE e (by simp), ih fun e he => hE e (by simp [he])]
theorem CutOk.find {cs : List Int} (h : CutOk cs) (b : Nat) (hb : b < 256) : ∃ i, ∃ hi : i < cs.length, cs[i] ≤ b ∧ (b : Int) ≤ hiC cs i := by
  have key : ∀ k, k < cs.length → (∃ i, ∃ hi : i < cs.length, cs[i] ≤ b ∧ (b : Int) ≤ hiC cs i) ∨ ∃ hk : k < cs.length, cs[k] ≤ b := by
    intro k
    induction k with
    | zero => intro hk; exact .inr ⟨hk, by rw [h.get0]; omega⟩
    | succ k ih =>
      intro hk
      rcases ih (by omega) with h1 | ⟨h1, h2⟩
      · exact .inl h1
      · by_cases h3 : cs[k + 1] ≤ b
        · exact .inr ⟨hk, h3⟩
        · exact .inl ⟨k, h1, h2, by rw [hiC_some hk]; omega⟩
  rcases key (cs.length - 1) (by have := h.pos; omega) with h1 | ⟨h1, h2⟩
  · exact h1
  · exact ⟨_, h1, h2, by rw [hiC_last (by omega)]; omega⟩
theorem filter_range_succ (p : Nat → Bool) (k : Nat) : (List.range (k + 1)).filter p = (List.range k).filter p ++ (if p k then [k] else []) := by
  rw [List.range_succ, List.filter_append]; simp [List.filter_cons]
def ints (l : List Nat) : List Int := l.map fun (n : Nat) => (n : Int)
theorem ints_app (a b : List Nat) : ints (a ++ b) = ints a ++ ints b := by simp [ints]
theorem cutOk_of {p : Nat → Bool} (h0 : p 0 = true) : CutOk (ints ((List.range 256).filter p)) := by
  refine ⟨?_, ?_, ?_⟩
  · have : List.range 256 = 0 :: (List.range' 1 255) := by rw [List.range_eq_range']; rfl
    rw [this, List.filter_cons, if_pos h0]; rfl
  · refine List.pairwise_map.2 (List.Pairwise.imp (fun {a b} h => by omega) (List.Pairwise.filter _ List.pairwise_lt_range))
  · intro c hc
    obtain ⟨x, hx, rfl⟩ := List.mem_map.1 hc
    have := List.mem_range.1 (List.mem_filter.1 hx).1
    omega
theorem cut_ok {l : Tb} {n fu : Nat} (hw : WfT l) (hs : ShT l n) (hf : n < fu) (hf' : 256 < fu) : Ok (au_cut fu l) (fun cs => CutOk cs ∧ CutFor cs l) := by
  unfold au_cut
  refine Ok.bndE (a := false) (by rw [tab_rep]; exact idx_tab (i := 0) (by decide)) ?_
  rw [tab_rep, tab_set]
  let E : Nat → Nat → Nat → Prop := fun k j b => b = 0 ∨ (∃ s ∈ l.take k, ∃ e ∈ s.2, e.1 = (b : Int) ∨ e.2.1 + 1 = (b : Int)) ∨ ∃ s, l[k]? = some s ∧ ∃ e ∈ s.2.take j, e.1 = (b : Int) ∨ e.2.1 + 1 = (b : Int)
  refine Ok.range (fun k x => ∃ p, x = tab 257 p ∧ ∀ b, b < 257 → (p b = true ↔ E k 0 b)) l.length ⟨_, rfl, fun b hb => ?_⟩ (by have := hs.1; omega) (fun k x nx hk hJ hn => ?_) (fun x nx hJ => ?_)
  · by_cases h : b = 0 <;> simp [E, h]
  · unfold au_cut_b1
    have hm : l[k] ∈ l := List.getElem_mem hk
    have hsl := hs.2 _ hm
    refine Ok.iT (by simp only; omega) (Ok.idxN hk ?_)
    refine Ok.range (fun j x => ∃ p, x = tab 257 p ∧ ∀ b, b < 257 → (p b = true ↔ E k j b)) l[k].2.length hJ (by omega) (fun j x nx' hj hE hn' => ?_) (fun x nx' hE => ?_)
    · unfold au_cut_b2
      obtain ⟨p, rfl, hp⟩ := hE
      have hg := (hw _ hm).rg _ (List.getElem_mem hj)
      refine Ok.iT (by simp only; omega) (Ok.idxN hj ?_)
      simp only
      have e1 : l[k].2[j].1 = ((l[k].2[j].1.toNat : Nat) : Int) := by omega
      have e2 : l[k].2[j].2.1 + 1 = (((l[k].2[j].2.1 + 1).toNat : Nat) : Int) := by omega
      refine Ok.bndE (by rw [e1]; exact idx_tab (by omega)) (Ok.chk (by unfold F64; omega) ?_)
      rw [tab_set]
      refine Ok.bndE (by rw [e2]; exact idx_tab (by omega)) ?_
      rw [tab_set]
      refine hn' _ ⟨_, rfl, fun b hb => ?_⟩
      have hE : E k (j + 1) b ↔ E k j b ∨ l[k].2[j].1 = (b : Int) ∨ l[k].2[j].2.1 + 1 = (b : Int) := by
        simp only [E, List.getElem?_eq_getElem hk, Option.some.injEq, exists_eq_left', mem_take_succ hj]
        constructor
        · rintro (h | h | ⟨e, h | rfl, h2⟩)
          · exact .inl (.inl h)
          · exact .inl (.inr (.inl h))
          · exact .inl (.inr (.inr ⟨e, h, h2⟩))
          · exact .inr h2
        · rintro ((h | h | ⟨e, h, h2⟩) | h)
          · exact .inl h
          · exact .inr (.inl h)
          · exact .inr (.inr ⟨e, .inl h, h2⟩)
          · exact .inr (.inr ⟨_, .inr rfl, h⟩)
      rw [hE]
      by_cases h1 : b = (l[k].2[j].2.1 + 1).toNat
      · simp only [h1, if_true, true_iff]; exact .inr (.inr e2)
      · by_cases h2 : b = l[k].2[j].1.toNat
        · simp only [h1, if_false]; simp only [h2, if_true, true_iff]; exact .inr (.inl e1)
        · simp only [h1, h2, if_false, hp b hb]
          constructor
          · exact .inl
          · rintro (h | h | h)
            · exact h
            · omega
            · omega
    · unfold au_cut_b2
      refine Ok.iF (by simp only; omega) (hn _ ?_)
      obtain ⟨p, rfl, hp⟩ := hE
      refine ⟨p, rfl, fun b hb => ?_⟩
      rw [hp b hb]
      simp only [E, List.getElem?_eq_getElem hk, Option.some.injEq, exists_eq_left', mem_take_succ hk, take_full, List.take_zero]
      constructor
      · rintro (h | ⟨s, h1, h2⟩ | h)
        · exact .inl h
        · exact .inr (.inl ⟨s, .inl h1, h2⟩)
        · exact .inr (.inl ⟨_, .inr rfl, h⟩)
      · rintro (h | ⟨s, h1 | rfl, h2⟩ | ⟨s, _, e, he, _⟩)
        · exact .inl h
        · exact .inr (.inl ⟨s, h1, h2⟩)
        · exact .inr (.inr h2)
        · cases he
  · unfold au_cut_b1
    obtain ⟨p, rfl, hp⟩ := hJ
    have hp' : ∀ b, b < 257 → (p b = true ↔ Ends l b) := fun b hb => by
      rw [hp b hb]
      simp only [E, take_full]
      constructor
      · rintro (h | h | ⟨s, h, _⟩)
        · exact .inl h
        · exact .inr h
        · rw [List.getElem?_eq_none (Nat.le_refl _)] at h; cases h
      · rintro (h | h)
        · exact .inl h
        · exact .inr (.inl h)
    refine Ok.iF (by simp only; omega) ?_
    refine Ok.range (fun k x => x = ints ((List.range k).filter p)) 256 rfl hf' (fun k x nx' hk hx hn => ?_) (fun x nx' hx => ?_)
    · subst hx
      unfold au_cut_b3
      refine Ok.iT (by simp only; omega) (Ok.bndE (idx_tab (by omega)) (Ok.bif (fun h => Ok.chk ?_ (hn _ ?_)) fun h => hn _ ?_))
      · have := List.length_filter_le p (List.range k)
        rw [List.length_range] at this
        simp [ints]; unfold capN; omega
      · rw [filter_range_succ, ints_app, if_pos h]; rfl
      · rw [filter_range_succ, if_neg (by rw [h]; decide), List.append_nil]
    · subst hx
      unfold au_cut_b3
      refine Ok.iF (by simp only; omega) (Ok.some ⟨cutOk_of ((hp' 0 (by decide)).2 (.inl rfl)), fun b hb hE => ?_⟩)
      exact List.mem_map.2 ⟨b, List.mem_filter.2 ⟨List.mem_range.2 hb, (hp' b (by omega)).2 hE⟩, rfl⟩
end Go.GL
namespace Go.GL
open Go.GK
def sk (n : Nat) (t : Int) : Int := if t < 0 then n else t
def nxF (l : Tb) (cs : List Int) (q i : Nat) : Int := sk l.length (stT l (q : Nat) (cs.getD i 0).toNat)
def acF (l : Tb) (q : Nat) : Bool := (rowT l (q : Nat)).1
def nxR (l : Tb) (cs : List Int) (q : Nat) : List Int := tab cs.length (nxF l cs q)
def cmpD (l : Tb) (cs cl : List Int) : List Int × List (List Int) × List Bool × List Int := (cs, tab (l.length + 1) (nxR l cs), tab (l.length + 1) (acF l), cl)
theorem getD_at {cs : List Int} {i : Nat} (h : i < cs.length) : cs.getD i 0 = cs[i] := by rw [List.getD_eq_getElem?_getD, List.getElem?_eq_getElem h]; rfl
theorem lgT_sk (l : Tb) (t : Int) (h : t < l.length) : lgT l (sk l.length t) = lgT l t := by
  unfold sk
  split
  · rename_i h
    funext w
    rw [lgT_neg h]
    have hr : rowT l (l.length : Nat) = (false, []) := by unfold rowT; simp
    cases w with
    | nil => simp [lgT, runT, fin, hr]
    | cons c w =>
      have : stT l (l.length : Nat) c.toNat = -1 := by unfold stT; rw [if_neg (by omega), hr]; rfl
      show lgT l (stT l (l.length : Nat) c.toNat) w = false
      rw [this]; exact lgT_neg (by decide) w
  · rfl
theorem sk_rg {l : Tb} (hw : WfT l) (q : Int) (b : Nat) : 0 ≤ sk l.length (stT l q b) ∧ sk l.length (stT l q b) < (l.length + 1 : Nat) := by
  have := hw.st q b
  unfold sk; split <;> omega
theorem last_find {c : Nat} : ∀ {es : List EdI} {m n : Nat} (_ : EdOk es m n) (a : Int), es.foldl (fun a e => if inE c e then e.2.2 else a) a = match es.find? (inE c) with | some e => e.2.2 | none => a
  | [], _, _, _, _ => rfl
  | e :: es, m, n, h, a => by
    have h' : EdOk es m n := ⟨fun x hx => h.rg x (by simp [hx]), (List.pairwise_cons.1 h.so).2⟩
    rw [List.foldl_cons, last_find h', List.find?_cons]
    by_cases he : inE c e = true
    · rw [he, if_pos rfl]
      have : es.find? (inE c) = none := List.find?_eq_none.2 fun x hx => by
        have h1 := (List.pairwise_cons.1 h.so).1 x hx
        simp [inE] at he ⊢; omega
      rw [this]
    · rw [if_neg he]; simp [he]
theorem step_last {c : Nat} {es : List EdI} {m n : Nat} (h : EdOk es m n) : es.foldl (fun a e => if inE c e then e.2.2 else a) (n : Int) = sk n (stepE es c) := by
  rw [last_find h]
  unfold stepE
  cases he : es.find? (inE c) with
  | some e =>
    have := h.rg e (List.mem_of_find?_eq_some he)
    simp only [sk]; rw [if_neg (by omega)]
  | none => rfl
theorem complete_ok {l : Tb} {n fu : Nat} (hw : WfT l) (hs : ShT l n) (hn : n < 4294967296) (hf : n < fu) (hf' : 256 < fu) : Ok (au_complete fu l) (fun x => ∃ cs, CutOk cs ∧ CutFor cs l ∧ x = cmpD l cs []) := by
  unfold au_complete
  refine Ok.bnd (cut_ok hw hs hf hf') fun cs ⟨hc1, hc2⟩ => ?_
  have hcl := hc1.le
  have hln := hs.1
  refine Ok.range2 (fun k y x => x = tab k (acF l) ∧ y = tab k (nxR l cs)) l.length ⟨rfl, rfl⟩ (by omega) (fun k x y nx hk hJ hnx => ?_) (fun x y nx hJ => ?_)
  · obtain ⟨rfl, rfl⟩ := hJ
    unfold au_complete_b1; dsimp only
    have hm : l[k] ∈ l := List.getElem_mem hk
    have hsl := hs.2 _ hm
    have hE := hw _ hm
    have hrow : rowT l (k : Nat) = l[k] := rowT_get (by omega) (by omega)
    refine Ok.iT (by omega) (Ok.idxN hk (Ok.chk (by unfold capN; omega) ?_))
    rw [tab_rep]
    refine Ok.range (fun i x => x = tab cs.length (fun j => if j < i then nxF l cs k j else 0)) cs.length (by simp) (by omega) (fun i x nx' hi hE' hn' => ?_) (fun x nx' hE' => ?_)
    · subst hE'
      unfold au_complete_b2; dsimp only
      refine Ok.iT (by omega) (Ok.idxN hi (Ok.bndE (idx_tab hi) ?_))
      rw [tab_set]
      have hci := hc1.rg _ (List.getElem_mem hi)
      refine Ok.range (fun j x => x = tab cs.length (fun q => if q = i then (l[k].2.take j).foldl (fun a e => if inE cs[i].toNat e then e.2.2 else a) (l.length : Int) else if q < i then nxF l cs k q else 0)) l[k].2.length (by simp) (by omega) (fun j x nx2 hj hx hn2 => ?_) (fun x nx2 hx => ?_)
      · subst hx
        unfold au_complete_b3; dsimp only
        refine Ok.iT (by omega) (Ok.idxN hj ?_)
        have hs : (l[k].2.take (j + 1)).foldl (fun a e => if inE cs[i].toNat e then e.2.2 else a) (l.length : Int) = if inE cs[i].toNat l[k].2[j] then l[k].2[j].2.2 else (l[k].2.take j).foldl (fun a e => if inE cs[i].toNat e then e.2.2 else a) (l.length : Int) := by
          rw [← List.take_append_getElem hj, List.foldl_append]; rfl
        have hno : inE cs[i].toNat l[k].2[j] = false → Ok (nx2 (tab cs.length (fun q => if q = i then (l[k].2.take j).foldl (fun a e => if inE cs[i].toNat e then e.2.2 else a) (l.length : Int) else if q < i then nxF l cs k q else 0), j + 1)) (fun x => ∃ cs, CutOk cs ∧ CutFor cs l ∧ x = cmpD l cs []) := fun h => hn2 _ (by rw [hs, h]; rfl)
        refine Ok.ite (fun h1 => Ok.ite (fun h2 => Ok.bndE (idx_tab hi) ?_) fun h2 => ?_) fun h1 => ?_
        · rw [tab_set]
          refine hn2 _ (tab_congr fun q hq => ?_)
          rw [hs, show inE cs[i].toNat l[k].2[j] = true by simp [inE]; omega]
          by_cases h : q = i <;> simp [h]
        · exact hno (by simp only [inE, Bool.and_eq_false_iff, decide_eq_false_iff_not]; omega)
        · exact hno (by simp only [inE, Bool.and_eq_false_iff, decide_eq_false_iff_not]; omega)
      · subst hx
        unfold au_complete_b3; dsimp only
        refine Ok.iF (by omega) (hn' _ (tab_congr fun q hq => ?_))
        rw [take_full, step_last hE]
        by_cases h : q = i
        · subst h
          simp only [if_true, Nat.lt_succ_self]
          unfold nxF stT; rw [if_neg (by omega), hrow, getD_at hi]
        · rw [if_neg h]
          by_cases h2 : q < i
          · rw [if_pos h2, if_pos (by omega)]
          · rw [if_neg h2, if_neg (by omega)]
    · subst hE'
      unfold au_complete_b2; dsimp only
      refine Ok.iF (by omega) (Ok.chk (by rw [tab_len]; unfold capN; simp; omega) (Ok.chk (by rw [tab_len]; unfold capN; simp; omega) (hnx _ _ ⟨?_, ?_⟩)))
      · rw [tab_succ]; unfold acF; rw [hrow]
      · rw [tab_succ]; congr 1
        unfold nxR
        rw [tab_congr (g := nxF l cs k) fun j hj => by rw [if_pos hj]]
  · obtain ⟨rfl, rfl⟩ := hJ
    unfold au_complete_b1; dsimp only
    refine Ok.iF (by omega) (Ok.chk (by unfold capN; omega) ?_)
    have hr : rowT l (l.length : Nat) = (false, []) := by unfold rowT; simp
    refine Ok.range (fun i x => x = tab cs.length (fun j => if j < i then (l.length : Int) else 0)) cs.length (by rw [tab_rep]; rfl) (by omega) (fun i x nx' hi hx hn' => ?_) (fun x nx' hx => ?_)
    · subst hx
      unfold au_complete_b4; dsimp only
      refine Ok.iT (by simp; omega) (Ok.bndE (idx_tab hi) (hn' _ ?_))
      rw [tab_set]
      refine tab_congr fun q hq => ?_
      by_cases h : q = i
      · subst h; simp
      · rw [if_neg h]
        by_cases h2 : q < i
        · rw [if_pos h2, if_pos (by omega)]
        · rw [if_neg h2, if_neg (by omega)]
    · subst hx
      unfold au_complete_b4; dsimp only
      refine Ok.iF (by simp) (Ok.chk (by rw [tab_len]; unfold capN; simp; omega) (Ok.chk (by rw [tab_len]; unfold capN; simp; omega) (Ok.some ⟨cs, hc1, hc2, ?_⟩)))
      unfold cmpD
      rw [tab_succ, tab_succ]
      have e1 : acF l l.length = false := by unfold acF; rw [hr]
      have e2 : nxR l cs l.length = tab cs.length (fun j => if j < cs.length then (l.length : Int) else 0) := by
        unfold nxR
        refine tab_congr fun q hq => ?_
        rw [if_pos hq]
        unfold nxF stT; rw [if_neg (by omega), hr]; rfl
      rw [e1, e2]
def clN (l : Tb) : Nat := l.length + 1
theorem nx_rg {l : Tb} (hw : WfT l) (cs : List Int) (q i : Nat) : 0 ≤ nxF l cs q i ∧ nxF l cs q i < clN l := sk_rg hw _ _
theorem lg_nx {l : Tb} (hw : WfT l) {cs : List Int} (hc : CutOk cs) (q : Nat) {i : Nat} (hi : i < cs.length) : lgT l (nxF l cs q i) = der (lgT l (q : Nat)) cs[i].toNat := by
  have hr := hc.rg _ (List.getElem_mem hi)
  rw [der_lgT _ _ _ (by omega)]
  unfold nxF
  rw [lgT_sk _ _ (by have := hw.st (q : Nat) (cs.getD i 0).toNat; omega), getD_at hi]
theorem lg_const {l : Tb} (hw : WfT l) {cs : List Int} (hc : CutOk cs) (hf : CutFor cs l) (q : Int) {i b : Nat} (hi : i < cs.length) (hb : b < 256) (h1 : cs[i] ≤ b) (h2 : (b : Int) ≤ hiC cs i) : der (lgT l q) b = der (lgT l q) cs[i].toNat := by
  have hr := hc.rg _ (List.getElem_mem hi)
  rw [der_lgT _ _ _ hb, der_lgT _ _ _ (by omega), hf.const hc hw hi h1 h2]
theorem lg_nil (l : Tb) (q : Nat) : lgT l (q : Nat) [] = acF l q := by simp [lgT, runT, fin, acF]
theorem lg_cong {l : Tb} (hw : WfT l) {cs : List Int} (hc : CutOk cs) (hf : CutFor cs l) (c : Nat → Int)
    (h1 : ∀ s t, s < clN l → t < clN l → c s = c t → acF l s = acF l t)
    (h2 : ∀ s t, s < clN l → t < clN l → c s = c t → ∀ i, i < cs.length → c (nxF l cs s i).toNat = c (nxF l cs t i).toNat) :
    ∀ (w : List UInt8) (s t : Nat), s < clN l → t < clN l → c s = c t → lgT l (s : Nat) w = lgT l (t : Nat) w
  | [], s, t, hs, ht, h => by rw [lg_nil, lg_nil, h1 s t hs ht h]
  | b :: w, s, t, hs, ht, h => by
    obtain ⟨i, hi, g1, g2⟩ := hc.find b.toNat b.toNat_lt
    have e : ∀ q : Nat, lgT l (q : Nat) (b :: w) = lgT l (nxF l cs q i) w := fun q => by
      rw [lg_nx hw hc q hi, ← lg_const hw hc hf q hi b.toNat_lt g1 g2]; simp [der]
    have r1 := nx_rg hw cs s i
    have r2 := nx_rg hw cs t i
    have := lg_cong hw hc hf c h1 h2 w (nxF l cs s i).toNat (nxF l cs t i).toNat (by omega) (by omega) (h2 s t hs ht h i hi)
    rw [e, e]
    rwa [Int.toNat_of_nonneg r1.1, Int.toNat_of_nonneg r2.1] at this
def sigF (l : Tb) (cs : List Int) (c : Nat → Int) (s : Nat) : Str := Lib.itoa (c s) ++ tails (tab cs.length fun i => c (nxF l cs s i).toNat)
theorem tails_succ (n : Nat) (f : Nat → Int) : tails (tab (n + 1) f) = tails (tab n f) ++ (([44] : Str) ++ Lib.itoa (f n)) := by
  rw [tab_succ]; simp [tails]
theorem tails_len {n : Nat} {f : Nat → Int} (h : ∀ i, i < n → (Lib.itoa (f i)).length ≤ 10) : (tails (tab n f)).length ≤ 11 * n := by
  induction n with
  | zero => simp [tab, tails]
  | succ n ih =>
    rw [tails_succ, List.length_append, List.length_append]
    have := ih fun i hi => h i (by omega)
    have := h n (by omega)
    simp; omega
structure ClsB (l : Tb) (c : Nat → Int) : Prop where
  rg : ∀ s, s < clN l → 0 ≤ c s ∧ c s ≤ l.length
theorem itoa_lenI {n : Int} (h0 : 0 ≤ n) (h : n < 10000000000) : (Lib.itoa n).length ≤ 10 := by
  obtain ⟨u, rfl⟩ : ∃ u : Nat, n = u := ⟨n.toNat, by omega⟩
  exact itoa_len (by omega)
theorem signature_ok {l : Tb} {cs : List Int} {c : Nat → Int} {n fu s : Nat} (hw : WfT l) (hc : CutOk cs) (hb : ClsB l c) (hl : l.length ≤ n) (hn : n < 4294967296) (hf : 256 < fu) (hs : s < clN l) :
    Ok (au_table_signature fu (cmpD l cs (tab (clN l) c)) (s : Int)) (fun r => r = sigF l cs c s ∧ r.length ≤ 4096) := by
  unfold au_table_signature cmpD; dsimp only
  have hcl := hc.le
  have hlen : ∀ q, q < clN l → (Lib.itoa (c q)).length ≤ 10 := fun q hq => by
    have := hb.rg q hq
    exact itoa_lenI this.1 (by omega)
  have hcs := hb.rg s hs
  have h10 := hlen s hs
  refine Ok.bndE (idx_tab hs) (Ok.chk (by unfold F64; omega) (Ok.chk (by simp only [List.length_nil]; unfold capN; omega) (Ok.bndE (idx_tab hs) ?_)))
  refine Ok.range (fun i x => x = Lib.itoa (c s) ++ tails (tab i fun i => c (nxF l cs s i).toNat)) cs.length (by simp [tab, tails]) (by omega) (fun i x nx hi hx hnx => ?_) (fun x nx hx => ?_)
  · subst hx
    unfold au_table_signature_b1; dsimp only
    have hr := nx_rg hw cs s i
    have hq : (nxF l cs s i).toNat < clN l := by omega
    have h1 := hb.rg _ hq
    have h2 := hlen _ hq
    have h3 := tails_len (n := i) (f := fun i => c (nxF l cs s i).toNat) fun j hj => hlen _ (by have := nx_rg hw cs s j; omega)
    refine Ok.iT (by simp only [nxR, tab_len]; omega) (Ok.bndE (by unfold nxR; exact idx_tab hi) (Ok.bndE (a := c (nxF l cs s i).toNat) ?_ (Ok.chk (by unfold F64; omega) (Ok.chk (by simp only [List.length_cons, List.length_nil]; unfold capN; omega) (Ok.chk (by simp only [List.length_append, List.length_cons, List.length_nil]; unfold capN; omega) (hnx _ ?_))))))
    · rw [show nxF l cs s i = (((nxF l cs s i).toNat : Nat) : Int) by omega]; exact idx_tab (by omega)
    · rw [tails_succ, List.append_assoc]
  · subst hx
    unfold au_table_signature_b1; dsimp only
    refine Ok.iF (by simp only [nxR, tab_len]; omega) (Ok.some ⟨rfl, ?_⟩)
    have h3 := tails_len (n := cs.length) (f := fun i => c (nxF l cs s i).toNat) fun j hj => hlen _ (by have := nx_rg hw cs s j; omega)
    rw [List.length_append]; omega
theorem sigF_inj {l : Tb} {cs : List Int} {c : Nat → Int} (hw : WfT l) (hb : ClsB l c) {s t : Nat} (hs : s < clN l) (ht : t < clN l) :
    sigF l cs c s = sigF l cs c t ↔ c s = c t ∧ ∀ i, i < cs.length → c (nxF l cs s i).toNat = c (nxF l cs t i).toNat := by
  have hz : ∀ q, ∀ z ∈ (tab cs.length fun i => c (nxF l cs q i).toNat), 0 ≤ z := fun q z hz => by
    obtain ⟨i, _, rfl⟩ := mem_tab.1 hz
    exact (hb.rg _ (by have := nx_rg hw cs q i; omega)).1
  constructor
  · intro h
    obtain ⟨h1, h2⟩ := sig_inj (hz s) (hz t) (hb.rg s hs).1 (hb.rg t ht).1 h
    exact ⟨h1, tab_inj.1 h2⟩
  · rintro ⟨h1, h2⟩
    unfold sigF; rw [h1, tab_inj.2 h2]
def MapSays (m : List (Str × Int)) (u : List Str) : Prop := m.length = u.length ∧ ∀ x, fmGet m x = if x ∈ u then some ((u.idxOf x : Nat) : Int) else none
theorem MapSays.nil : MapSays [] [] := ⟨rfl, fun x => rfl⟩
theorem MapSays.put {m : List (Str × Int)} {u : List Str} (h : MapSays m u) {x : Str} (hx : x ∉ u) : MapSays (fmPut m x (u.length : Int)) (u ++ [x]) := by
  refine ⟨by rw [fmPut_len, h.2, if_neg hx, h.1]; simp, fun z => ?_⟩
  rw [fmGet_put, h.2]
  by_cases hz : z = x
  · subst hz
    rw [if_pos rfl, if_pos (by simp), List.idxOf_append, if_neg hx]; simp
  · rw [if_neg hz]
    by_cases hu : z ∈ u
    · rw [if_pos hu, if_pos (by simp [hu]), List.idxOf_append, if_pos hu]
    · rw [if_neg hu, if_neg (by simp [hu, hz])]
theorem MapSays.some {m : List (Str × Int)} {u : List Str} (h : MapSays m u) (x : Str) : (fmGet m x).isSome = decide (x ∈ u) := by
  rw [h.2]; by_cases hx : x ∈ u <;> simp [hx]
theorem MapSays.getD {m : List (Str × Int)} {u : List Str} (h : MapSays m u) {x : Str} (hx : x ∈ u) : (fmGet m x).getD 0 = ((u.idxOf x : Nat) : Int) := by
  rw [h.2, if_pos hx]; rfl
theorem idxOf_inj {α : Type} [BEq α] [LawfulBEq α] {u : List α} {x y : α} (hx : x ∈ u) (hy : y ∈ u) (h : u.idxOf x = u.idxOf y) : x = y := by
  have h1 := List.idxOf_lt_length_of_mem hx
  have h2 := List.idxOf_lt_length_of_mem hy
  have e1 := List.getElem_idxOf h1
  have e2 := List.getElem_idxOf h2
  rw [← e1, ← e2]; simp only [h]
structure ClsOk (l : Tb) (c : Nat → Int) : Prop extends ClsB l c where
  iff : ∀ s t, s < clN l → t < clN l → (c s = c t ↔ lgT l (s : Nat) = lgT l (t : Nat))
structure RefInv (l : Tb) (k : Nat) (c : Nat → Int) : Prop extends ClsB l c where
  fwd : ∀ s t, s < clN l → t < clN l → lgT l (s : Nat) = lgT l (t : Nat) → c s = c t
  acc : ∀ s t, s < clN l → t < clN l → c s = c t → acF l s = acF l t
  cnt : k = 0 ∨ ∃ (key : Nat → Str) (u : List Str), Vals (clN l) key u ∧ u.length = k ∧ ∀ s t, s < clN l → t < clN l → c s = c t → key s = key t
theorem refine_ok {l : Tb} {cs : List Int} {n fu : Nat} (hw : WfT l) (h0 : 0 < l.length) (hc : CutOk cs) (hf : CutFor cs l) (hl : l.length ≤ n) (hn : n < 4294967296) (hfu : n + 2 < fu) (hfu' : 256 < fu) :
    Ok (au_table_refine fu (cmpD l cs [])) (fun r => ∃ c, ClsOk l c ∧ r = cmpD l cs (tab (clN l) c)) := by
  have hN : clN l = l.length + 1 := rfl
  unfold au_table_refine cmpD; dsimp only
  simp only [tab_len]
  refine Ok.chk (by unfold capN; omega) ?_
  rw [tab_rep]
  refine Ok.range (fun k x => x = tab (clN l) (fun s => if s < k then (if acF l s then 1 else 0) else 0)) (clN l) (by simp [clN]) (by omega) (fun k x nx hk hx hnx => ?_) (fun x nx hx => ?_)
  · subst hx
    unfold au_table_refine_b1; dsimp only
    refine Ok.iT (by rw [tab_len]; omega) (Ok.bndE (idx_tab hk) (Ok.bif (fun h => Ok.bndE (idx_tab hk) (hnx _ ?_)) fun h => hnx _ (tab_congr fun s hs => ?_)))
    · rw [tab_set]
      refine tab_congr fun s hs => ?_
      by_cases h1 : s = k
      · subst h1; simp [h]
      · rw [if_neg h1]
        by_cases h2 : s < k
        · simp [h2, show s < k + 1 by omega]
        · simp [h2, show ¬ s < k + 1 by omega]
    · by_cases h1 : s = k
      · subst h1; simp [h]
      · by_cases h2 : s < k
        · simp [h2, show s < k + 1 by omega]
        · simp [h2, show ¬ s < k + 1 by omega]
  · subst hx
    unfold au_table_refine_b1; dsimp only
    refine Ok.iF (by rw [tab_len]; omega) ?_
    refine Ok.loop (X := Nat × List Int) (fun x => x.1 ≤ clN l ∧ ∃ c, x.2 = tab (clN l) c ∧ RefInv l x.1 c) (fun x => clN l - x.1) ⟨by simp, _, rfl, ⟨⟨fun s hs => ?_⟩, fun s t hs ht h => ?_, fun s t hs ht h => ?_, .inl rfl⟩⟩ (by simp only; omega) fun x nx hI _ hnx => ?_
    · rw [if_pos hs]; cases acF l s <;> simp <;> omega
    · rw [if_pos hs, if_pos ht, ← lg_nil, ← lg_nil, h]
    · simp only [hs, ht, if_true] at h
      cases h1 : acF l s <;> cases h2 : acF l t <;> simp [h1, h2] at h ⊢
    obtain ⟨k, cl⟩ := x
    obtain ⟨hk, c, hcl, hI⟩ := hI
    simp only at hk hcl hI
    subst hcl
    unfold au_table_refine_b8; dsimp only
    refine Ok.chk (by rw [tab_len]; unfold capN; omega) ?_
    rw [tab_rep, tab_len]
    refine Ok.range3 (fun j x y m => x = tab (clN l) c ∧ ∃ u, Vals j (sigF l cs c) u ∧ MapSays m u ∧ y = tab (clN l) (fun s => if s < j then ((u.idxOf (sigF l cs c s) : Nat) : Int) else 0)) (clN l) ⟨rfl, [], .zero _, .nil, by simp [clN]⟩ (by omega) (fun j x y m nx' hj hJ hnx' => ?_) (fun x y m nx' hJ => ?_)
    · obtain ⟨rfl, u, hu, hm, rfl⟩ := hJ
      have hul := hu.le
      unfold au_table_refine_b11; dsimp only
      refine Ok.iT (by rw [tab_len]; omega) (Ok.bnd (signature_ok hw hc hI.toClsB hl hn hfu' hj) fun x hx => ?_)
      obtain ⟨rfl, hxl⟩ := hx
      have hxc : (sigF l cs c j).length ≤ capN := by unfold capN; omega
      refine Ok.chk hxc (Ok.bif (fun h => ?_) fun h => ?_)
      · rw [hm.some] at h
        have hnu : sigF l cs c j ∉ u := by simpa using h
        refine Ok.chk hxc (Ok.chk (by rw [hm.1]; unfold F64; omega) (Ok.chk (by rw [hm.1]; unfold capN; omega) ?_))
        unfold au_table_refine_j12
        refine Ok.bndE (idx_tab hj) (hnx' _ _ _ ⟨rfl, u ++ [sigF l cs c j], hu.new hnu, by rw [hm.1]; exact hm.put hnu, ?_⟩)
        rw [tab_set]
        refine tab_congr fun s hs => ?_
        by_cases h1 : s = j
        · subst h1; rw [if_pos rfl, if_pos (by omega), List.idxOf_append, if_neg hnu, hm.1]; simp
        · rw [if_neg h1]
          by_cases h2 : s < j
          · rw [if_pos h2, if_pos (by omega), List.idxOf_append, if_pos ((hu.mem _).2 ⟨s, h2, rfl⟩)]
          · rw [if_neg h2, if_neg (by omega)]
      · rw [hm.some] at h
        have hnu : sigF l cs c j ∈ u := by simpa using h
        unfold au_table_refine_j12
        refine Ok.bndE (idx_tab hj) (hnx' _ _ _ ⟨rfl, u, hu.old hnu, hm, ?_⟩)
        rw [tab_set, hm.getD hnu]
        refine tab_congr fun s hs => ?_
        by_cases h1 : s = j
        · subst h1; rw [if_pos rfl, if_pos (by omega)]
        · rw [if_neg h1]
          by_cases h2 : s < j
          · rw [if_pos h2, if_pos (by omega)]
          · rw [if_neg h2, if_neg (by omega)]
    · obtain ⟨rfl, u, hu, hm, rfl⟩ := hJ
      have hul := hu.le
      have hpos : 0 < u.length := List.length_pos_of_mem ((hu.mem _).2 ⟨0, by omega, rfl⟩)
      have hmem : ∀ s, s < clN l → sigF l cs c s ∈ u := fun s hs => (hu.mem _).2 ⟨s, hs, rfl⟩
      unfold au_table_refine_b11; dsimp only
      have hcl : tab (clN l) (fun s => if s < clN l then ((u.idxOf (sigF l cs c s) : Nat) : Int) else 0) = tab (clN l) (fun s => ((u.idxOf (sigF l cs c s) : Nat) : Int)) :=
        tab_congr fun s hs => by rw [if_pos hs]
      rw [hcl]
      have hB : ClsB l (fun s => ((u.idxOf (sigF l cs c s) : Nat) : Int)) := ⟨fun s hs => by
        have := List.idxOf_lt_length_of_mem (hmem s hs)
        omega⟩
      have hiff : ∀ s t, s < clN l → t < clN l → (((u.idxOf (sigF l cs c s) : Nat) : Int) = ((u.idxOf (sigF l cs c t) : Nat) : Int) ↔ sigF l cs c s = sigF l cs c t) := fun s t hs ht =>
        ⟨fun h => idxOf_inj (hmem s hs) (hmem t ht) (Int.ofNat_inj.1 h), fun h => by rw [h]⟩
      have hfwd : ∀ s t, s < clN l → t < clN l → lgT l (s : Nat) = lgT l (t : Nat) → sigF l cs c s = sigF l cs c t := fun s t hs ht h => by
        refine (sigF_inj hw hI.toClsB hs ht).2 ⟨hI.fwd s t hs ht h, fun i hi => ?_⟩
        have r1 := nx_rg hw cs s i
        have r2 := nx_rg hw cs t i
        refine hI.fwd _ _ (by omega) (by omega) ?_
        rw [Int.toNat_of_nonneg r1.1, Int.toNat_of_nonneg r2.1, lg_nx hw hc s hi, lg_nx hw hc t hi, h]
      have hacc : ∀ s t, s < clN l → t < clN l → sigF l cs c s = sigF l cs c t → acF l s = acF l t := fun s t hs ht h =>
        hI.acc s t hs ht ((sigF_inj hw hI.toClsB hs ht).1 h).1
      refine Ok.iF (by rw [tab_len]; omega) (Ok.ite (fun h => Ok.some ⟨fun s => ((u.idxOf (sigF l cs c s) : Nat) : Int), ⟨hB, fun s t hs ht => ?_⟩, rfl⟩) fun h => ?_)
      · rw [hiff s t hs ht]
        refine ⟨fun he => ?_, hfwd s t hs ht⟩
        rw [hm.1] at h
        have hk' : u.length = k := by omega
        obtain ⟨key, v, hv, hvl, hck⟩ := hI.cnt.resolve_left (by omega)
        have hfin := (hv.fine hu (fun s t hs ht h => hck s t hs ht ((sigF_inj hw hI.toClsB hs ht).1 h).1)).2 (by omega)
        funext w
        refine lg_cong hw hc hf c (fun s t hs ht h => hI.acc s t hs ht h) (fun s t hs ht h => ?_) w s t hs ht ((sigF_inj hw hI.toClsB hs ht).1 he).1
        exact ((sigF_inj hw hI.toClsB hs ht).1 (hfin s t hs ht (hck s t hs ht h))).2
      · have hlt : k < u.length := by
          rcases hI.cnt with h0 | ⟨key, v, hv, hvl, hck⟩
          · omega
          · have := (hv.fine hu (fun s t hs ht h => hck s t hs ht ((sigF_inj hw hI.toClsB hs ht).1 h).1)).1
            rw [hm.1] at h; omega
        refine hnx (m.length, _) ⟨by rw [hm.1]; exact hul, _, rfl, ⟨hB, fun s t hs ht h => (hiff s t hs ht).2 (hfwd s t hs ht h), fun s t hs ht h => hacc s t hs ht ((hiff s t hs ht).1 h), .inr ⟨sigF l cs c, u, hu, hm.1.symm, fun s t hs ht h => (hiff s t hs ht).1 h⟩⟩⟩ ?_
        show clN l - m.length < clN l - k
        rw [hm.1]; omega
end Go.GL
namespace Go.GL
open Go.GK
def cnt : Nat → (Nat → Bool) → Nat
  | 0, _ => 0
  | n + 1, f => cnt n f + (if f n then 0 else 1)
theorem cnt_le {f g : Nat → Bool} : ∀ {n : Nat}, (∀ j, j < n → f j = true → g j = true) → cnt n g ≤ cnt n f
  | 0, _ => Nat.le_refl _
  | n + 1, h => by
    have := cnt_le (n := n) fun j hj => h j (by omega)
    have h1 := h n (by omega)
    simp only [cnt]
    cases hf : f n <;> cases hg : g n <;> simp [hf, hg] at h1 ⊢ <;> omega
theorem cnt_lt {f g : Nat → Bool} : ∀ {n : Nat}, (∀ j, j < n → f j = true → g j = true) → (∃ j, j < n ∧ f j = false ∧ g j = true) → cnt n g < cnt n f
  | 0, _, ⟨j, hj, _⟩ => by omega
  | n + 1, h, ⟨j, hj, h1, h2⟩ => by
    have h3 := h n (by omega)
    have h4 := cnt_le (n := n) (f := f) (g := g) fun j hj => h j (by omega)
    simp only [cnt]
    by_cases hjn : j = n
    · subst hjn; rw [h1, h2]; simp; omega
    · have := cnt_lt (n := n) (f := f) (g := g) (fun j hj => h j (by omega)) ⟨j, by omega, h1, h2⟩
      cases hf : f n <;> cases hg : g n <;> simp [hf, hg] at h3 ⊢ <;> omega
theorem cnt_max : ∀ (n : Nat) (f : Nat → Bool), cnt n f ≤ n
  | 0, _ => Nat.le_refl _
  | n + 1, f => by have := cnt_max n f; simp only [cnt]; split <;> omega
theorem live_of {L : Lg} {w : List UInt8} (h : L w = true) : live L = true := live_iff.2 ⟨w, h⟩
theorem live_der {L : Lg} {b : Nat} (h : live (der L b) = true) : live L = true := by
  obtain ⟨w, hw⟩ := live_iff.1 h; exact live_of (w := UInt8.ofNat b :: w) hw
def LvOk (l : Tb) (c : Nat → Int) (f : Nat → Bool) : Prop := ∀ s, s < clN l → f (c s).toNat = live (lgT l (s : Nat))
theorem ClsB.nat {l : Tb} {c : Nat → Int} (h : ClsB l c) {s : Nat} (hs : s < clN l) : (c s).toNat < clN l ∧ (((c s).toNat : Nat) : Int) = c s := by
  have := h.rg s hs
  unfold clN; omega
theorem live_ok {l : Tb} {cs : List Int} {c : Nat → Int} {n fu : Nat} (hw : WfT l) (hc : CutOk cs) (hf : CutFor cs l) (hk : ClsOk l c) (hl : l.length ≤ n) (hn : n < 4294967296) (hfu : n + 2 < fu) (hfu' : 256 < fu) :
    Ok (au_table_live fu (cmpD l cs (tab (clN l) c))) (fun r => ∃ f, r = tab (clN l) f ∧ LvOk l c f) := by
  have hN : clN l = l.length + 1 := rfl
  unfold au_table_live cmpD; dsimp only
  rw [tab_len]
  refine Ok.chk (by unfold capN; omega) ?_
  rw [tab_rep]
  let Sd : (Nat → Bool) → Prop := fun f => ∀ j, j < clN l → f j = true → ∀ s, s < clN l → (c s).toNat = j → live (lgT l (s : Nat)) = true
  refine Ok.loop (X := List Bool × Bool) (fun x => ∃ f, x.1 = tab (clN l) f ∧ Sd f ∧ (x.2 = false → LvOk l c f)) (fun x => (if x.2 then 1 else 0) + cnt (clN l) (fun j => x.1.getD j false)) ⟨_, rfl, fun j _ h => (by cases h), fun h => (by cases h)⟩ ?_ fun x nx hI _ hnx => ?_
  · have := cnt_max (clN l) (fun j => (tab (l.length + 1) fun _ => false).getD j false)
    simp only [if_true]; omega
  obtain ⟨o, again⟩ := x
  obtain ⟨f, ho, hS, hL⟩ := hI
  dsimp only at ho hL hnx
  subst ho
  unfold au_table_live_b1
  have hgD : ∀ g : Nat → Bool, ∀ j, j < clN l → (tab (clN l) g).getD j false = g j := fun g j hj => by
    rw [List.getD_eq_getElem?_getD, tab_get? hj]; rfl
  have hcg : ∀ g : Nat → Bool, cnt (clN l) (fun j => (tab (clN l) g).getD j false) = cnt (clN l) g := fun g =>
    Nat.le_antisymm (cnt_le fun j hj h => by rw [hgD g j hj]; exact h) (cnt_le fun j hj h => by rw [hgD g j hj] at h; exact h)
  refine Ok.bif (fun h => ?_) fun h => Ok.some ⟨f, rfl, hL h⟩
  subst h
  have hnat := fun s hs => hk.toClsB.nat (s := s) hs
  refine Ok.range2 (fun k o ag => ∃ g, o = tab (clN l) g ∧ Sd g ∧ (∀ j, j < clN l → f j = true → g j = true) ∧
      (ag = false → (∀ j, j < clN l → g j = f j) ∧ ∀ s, s < k → (acF l s = true ∨ ∃ i, i < cs.length ∧ f (c (nxF l cs s i).toNat).toNat = true) → f (c s).toNat = true) ∧
      (ag = true → ∃ j, j < clN l ∧ f j = false ∧ g j = true)) (clN l) ⟨f, rfl, hS, fun _ _ h => h, fun _ => ⟨fun _ _ => rfl, fun s hs => by omega⟩, fun h => (by cases h)⟩ (by omega) (fun k o ag nx' hkl hJ hnx' => ?_) (fun o ag nx' hJ => ?_)
  · obtain ⟨g, rfl, hSg, hfg, hg0, hg1⟩ := hJ
    unfold au_table_live_b2; dsimp only
    refine Ok.iT (by rw [tab_len]; omega) (Ok.bndE (idx_tab hkl) (Ok.bndE (idx_tab hkl) ?_))
    refine Ok.range (fun i b => b = true ↔ acF l k = true ∨ ∃ j, j < i ∧ g (c (nxF l cs k j).toNat).toNat = true) cs.length (by simp) (by have := hc.le; omega) (fun i b nx2 hi hb hn2 => ?_) (fun b nx2 hb => ?_)
    · have hr := nx_rg hw cs k i
      have hq : (nxF l cs k i).toNat < clN l := by omega
      have hcq := hnat _ hq
      unfold au_table_live_b3; dsimp only
      refine Ok.iT (by unfold nxR; rw [tab_len]; omega) (Ok.bndE (by unfold nxR; exact idx_tab hi) (Ok.bif (fun h => hn2 _ ?_) fun h => ?_))
      · subst h
        simp only [true_iff] at hb ⊢
        rcases hb with hb | ⟨j, hj, hb⟩
        · exact .inl hb
        · exact .inr ⟨j, by omega, hb⟩
      · refine Ok.bndE (a := c (nxF l cs k i).toNat) (by rw [show nxF l cs k i = (((nxF l cs k i).toNat : Nat) : Int) by omega]; exact idx_tab (by omega)) (Ok.bndE (a := g (c (nxF l cs k i).toNat).toNat) (by rw [← hcq.2]; exact idx_tab (by omega)) (hn2 _ ?_))
        subst h
        simp only [Bool.false_eq_true, false_iff] at hb
        constructor
        · exact fun h => .inr ⟨i, by omega, h⟩
        · rintro (h | ⟨j, hj, h⟩)
          · exact absurd (.inl h) hb
          · rcases Nat.lt_or_ge j i with h1 | h1
            · exact absurd (.inr ⟨j, h1, h⟩) hb
            · obtain rfl : j = i := by omega
              exact h
    · have hck := hnat k hkl
      have e1 : idx (tab (clN l) c) (k : Int) = some (c k) := idx_tab hkl
      have e2 : idx (tab (clN l) g) (c k) = some (g (c k).toNat) := by rw [← hck.2]; exact idx_tab hck.1
      unfold au_table_live_b3; dsimp only
      have hkeep : ∀ (hno : ¬ (b = true ∧ g (c k).toNat = false)), Ok (nx' (tab (clN l) g, ag, k + 1)) fun r => ∃ f, r = tab (clN l) f ∧ LvOk l c f := fun hno => by
        refine hnx' _ _ ⟨g, rfl, hSg, hfg, fun h => ⟨(hg0 h).1, fun s hs hor => ?_⟩, hg1⟩
        rcases Nat.lt_or_ge s k with h1 | h1
        · exact (hg0 h).2 s h1 hor
        · obtain rfl : s = k := by omega
          have hgf := (hg0 h).1
          rw [← hgf _ hck.1]
          have hbt : b = true := hb.2 (by
            rcases hor with hor | ⟨i, hi, hor⟩
            · exact .inl hor
            · refine .inr ⟨i, hi, ?_⟩
              have hr := nx_rg hw cs s i
              rw [hgf _ (hnat _ (by omega)).1]; exact hor)
          cases hgk : g (c s).toNat
          · exact absurd ⟨hbt, hgk⟩ hno
          · rfl
      refine Ok.iF (by unfold nxR; rw [tab_len]; omega) (Ok.bif (fun h => Ok.bndE e1 (Ok.bndE e2 (Ok.bif (fun h2 => Ok.bndE e1 (Ok.bndE e2 ?_)) fun h2 => hkeep ?_))) fun h => hkeep ?_)
      · have hgk : g (c k).toNat = false := by cases hh : g (c k).toNat <;> simp [hh] at h2 ⊢
        have hlv : live (lgT l (k : Nat)) = true := by
          rcases hb.1 h with h3 | ⟨j, hj, h3⟩
          · exact live_of (w := []) (by rw [lg_nil]; exact h3)
          · have hr := nx_rg hw cs k j
            have := hSg _ (hnat _ (by omega)).1 h3 _ (by omega : (nxF l cs k j).toNat < clN l) rfl
            rw [Int.toNat_of_nonneg hr.1, lg_nx hw hc k hj] at this
            exact live_der this
        rw [tab_set]
        refine hnx' _ _ ⟨_, rfl, fun j hj hgj s hs hcs => ?_, fun j hj hfj => ?_, fun h => (by cases h), fun _ => ⟨(c k).toNat, hck.1, ?_, by simp⟩⟩
        · by_cases hjk : j = (c k).toNat
          · have hcc : c s = c k := by have := (hnat s hs).2; omega
            rw [(hk.iff s k hs hkl).1 hcc]; exact hlv
          · simp only [hjk, if_false] at hgj
            exact hSg j hj hgj s hs hcs
        · by_cases hjk : j = (c k).toNat
          · simp [hjk]
          · simp only [hjk, if_false]; exact hfg j hj hfj
        · cases hfk : f (c k).toNat
          · rfl
          · have := hfg _ hck.1 hfk; rw [this] at hgk; cases hgk
      · rintro ⟨_, h3⟩; rw [h3] at h2; cases h2
      · rintro ⟨h3, _⟩; rw [h3] at h; cases h
  · obtain ⟨g, rfl, hSg, hfg, hg0, hg1⟩ := hJ
    unfold au_table_live_b2; dsimp only
    refine Ok.iF (by rw [tab_len]; omega) (hnx (_, ag) ⟨g, rfl, hSg, fun h => ?_⟩ ?_)
    · obtain ⟨h1, h2⟩ := hg0 h
      have hcl : ∀ (w : List UInt8) (s : Nat), s < clN l → lgT l (s : Nat) w = true → f (c s).toNat = true := by
        intro w
        induction w with
        | nil => intro s hs hw'; exact h2 s hs (.inl (by rw [← lg_nil]; exact hw'))
        | cons b w ih =>
          intro s hs hw'
          obtain ⟨i, hi, g1, g2⟩ := hc.find b.toNat b.toNat_lt
          have hr := nx_rg hw cs s i
          refine h2 s hs (.inr ⟨i, hi, ih _ (by omega) ?_⟩)
          rw [Int.toNat_of_nonneg hr.1, lg_nx hw hc s hi, ← lg_const hw hc hf s hi b.toNat_lt g1 g2]
          simpa [der] using hw'
      intro s hs
      have hcs := hnat s hs
      rw [h1 _ hcs.1]
      cases hfs : f (c s).toNat
      · cases hlv : live (lgT l (s : Nat))
        · rfl
        · obtain ⟨w, hw'⟩ := live_iff.1 hlv
          rw [hcl w s hs hw'] at hfs; cases hfs
      · exact (hS _ hcs.1 hfs s hs rfl).symm
    · rw [hcg, hcg]
      cases ag with
      | true =>
        have := cnt_lt (n := clN l) (f := f) (g := g) (fun j hj => hfg j hj) (hg1 rfl)
        simp only [if_true]; omega
      | false =>
        have := cnt_le (n := clN l) (f := f) (g := g) (fun j hj => hfg j hj)
        simp only [if_true, Bool.false_eq_true, if_false]; omega
theorem end_ok {l : Tb} {cs : List Int} {cl : List Int} {fu i : Nat} (hc : CutOk cs) (hi : i < cs.length) : Ok (au_table_end fu (cmpD l cs cl) (i : Int)) (fun r => r = hiC cs i) := by
  unfold au_table_end cmpD; dsimp only
  have hcl := hc.le
  refine Ok.chk (by unfold F64; omega) (Ok.ite (fun h => Ok.chk (by unfold F64; omega) ?_) fun h => Ok.some (by rw [hiC_last (by omega)]))
  have h1 : i + 1 < cs.length := by omega
  have hh := hc.hi hi
  have hr := hc.rg _ (List.getElem_mem hi)
  rw [hiC_some h1] at hh
  rw [show ((i : Int) + 1) = ((i + 1 : Nat) : Int) by omega]
  refine Ok.idxN h1 (Ok.chk (by unfold F64; omega) (Ok.chk (by unfold F8; omega) (Ok.some (by rw [hiC_some h1]))))
def pos (cs : List Int) (i : Nat) : Nat := if h : i < cs.length then cs[i].toNat else 256
theorem pos_zero {cs : List Int} (h : CutOk cs) : pos cs 0 = 0 := by unfold pos; rw [dif_pos h.pos, h.get0]; rfl
theorem pos_at {cs : List Int} (h : CutOk cs) {i : Nat} (hi : i < cs.length) : ((pos cs i : Nat) : Int) = cs[i] := by
  unfold pos; rw [dif_pos hi]; have := h.rg _ (List.getElem_mem hi); omega
theorem pos_end {cs : List Int} : pos cs cs.length = 256 := by unfold pos; rw [dif_neg (by omega)]
theorem pos_succ {cs : List Int} (h : CutOk cs) {i : Nat} (hi : i < cs.length) : ((pos cs (i + 1) : Nat) : Int) = hiC cs i + 1 := by
  by_cases h1 : i + 1 < cs.length
  · rw [pos_at h h1, hiC_some h1]; omega
  · rw [hiC_last h1]; unfold pos; rw [dif_neg h1]; rfl
theorem pos_le {cs : List Int} (h : CutOk cs) (i : Nat) : pos cs i ≤ 256 := by
  unfold pos; split
  · rename_i hi; have := h.rg _ (List.getElem_mem hi); omega
  · omega
theorem set_last {α : Type} {l : List α} {x : α} (h : 0 < l.length) : l.set (l.length - 1) x = l.dropLast ++ [x] := by
  rcases nil_or_last l with rfl | ⟨l', y, rfl⟩
  · simp at h
  · simp
theorem push_set {es : List EdI} {lo hi n : Int} (h : 0 < es.length) : push es lo hi n = if (es[es.length - 1]'(by omega)).2.2 = n ∧ (es[es.length - 1]'(by omega)).2.1 + 1 = lo then es.set (es.length - 1) ((es[es.length - 1]'(by omega)).1, hi, n) else es ++ [(lo, hi, n)] := by
  rw [set_last h]
  rcases nil_or_last es with rfl | ⟨l', y, rfl⟩
  · simp at h
  · rw [push_last]; simp
theorem push_len (es : List EdI) (lo hi n : Int) : (push es lo hi n).length ≤ es.length + 1 := by
  rcases nil_or_last es with rfl | ⟨l', y, rfl⟩
  · simp [push_nil]
  · rw [push_last]; split <;> simp
theorem j11_ok {l : Tb} {cs cl : List Int} {es : List EdI} {i q fu : Nat} {x : Int} {ord : List Int} {m : List (Int × Int)} {nx : (List Int × List EdI × List (Int × Int) × Nat) → Option Tb} {P : Tb → Prop}
    (hc : CutOk cs) (hi : i < cs.length) (hE : EdOk es (pos cs i) q) (hel : es.length ≤ 256) (hx : F64 x) {n : Int} (hm : fmGet m x = some n)
    (h : Ok (nx (ord, push es cs[i] (hiC cs i) n, m, i + 1)) P) :
    Ok (au_table_canonical_j11 fu (cmpD l cs cl) es i nx x ord m) P := by
  have hci := hc.rg _ (List.getElem_mem hi)
  have hh := hc.hi hi
  have hg : (fmGet m x).getD 0 = n := by rw [hm]; rfl
  have hadd : push es cs[i] (hiC cs i) n = es ++ [(cs[i], hiC cs i, n)] → Ok (bnd (idx cs (i : Int)) fun x1839 => chk (F8 x1839) (bnd (au_table_end fu (cmpD l cs cl) (i : Int)) fun x1843 => chk (F8 x1843) (chk (F64 x) (chk (es.length + ([(x1839, x1843, (fmGet m x).getD 0)] : List (Int × Int × Int)).length ≤ capN) (nx (ord, es ++ ([(x1839, x1843, (fmGet m x).getD 0)] : List (Int × Int × Int)), m, i + 1)))))) P := fun he => by
    refine Ok.idxN hi (Ok.chk (by unfold F8; omega) (Ok.bnd (end_ok hc hi) fun a ha => ?_))
    subst ha
    refine Ok.chk (by unfold F8; omega) (Ok.chk hx (Ok.chk (by simp; unfold capN; omega) ?_))
    rw [hg]; rw [he] at h; exact h
  unfold au_table_canonical_j11
  simp only [show (cmpD l cs cl).1 = cs from rfl]
  refine Ok.ite (fun h0 => ?_) fun h0 => hadd ?_
  · have hpos : 0 < es.length := by omega
    have e1 : ((es.length : Int) - 1) = ((es.length - 1 : Nat) : Int) := by omega
    have hll : es.length - 1 < es.length := by omega
    have hr := hE.rg _ (List.getElem_mem hll)
    have hp := pos_at hc hi
    have hpl := pos_le hc i
    have hps := push_set (lo := cs[i]) (hi := hiC cs i) (n := n) hpos
    rw [hg, e1]
    rw [hg] at hadd
    simp only [Int.toNat_natCast]
    refine Ok.chk (by unfold F64; omega) (Ok.idxN hll (Ok.chk hx (Ok.ite (fun h1 => Ok.chk (by unfold F64; omega) (Ok.idxN hll (Ok.chk (by unfold F64; omega) (Ok.idxN hi (Ok.ite (fun h2 => ?_) fun h2 => ?_))))) fun h1 => ?_)))
    · refine Ok.chk (by unfold F64; omega) (Ok.bnd (end_ok hc hi) fun a ha => ?_)
      subst ha
      refine Ok.chk (by unfold F8; omega) (Ok.idxN hll ?_)
      rw [if_pos ⟨h1, h2⟩] at hps
      rw [hps] at h
      rw [h1]; exact h
    · exact hadd (by rw [hps, if_neg (fun hh => h2 hh.2)])
    · exact hadd (by rw [hps, if_neg (fun hh => h1 hh.1)])
  · obtain rfl : es = [] := List.length_eq_zero_iff.1 (by omega)
    rfl
theorem live_sink (l : Tb) : live (lgT l (l.length : Nat)) = false := by
  have := lgT_sk l (-1) (by omega)
  rw [show sk l.length (-1) = ((l.length : Nat) : Int) from rfl] at this
  rw [this]; exact live_neg (by decide)
structure KO (l : Tb) (c : Nat → Int) (kn : List Lg) (ord : List Int) (m : List (Int × Int)) : Prop extends KnOk (lgs l) kn where
  len : ord.length = kn.length
  ord : ∀ (i : Nat) (q : Int), ord[i]? = some q → (0 ≤ q ∧ q < l.length) ∧ kn[i]? = some (lgT l q)
  mlen : m.length = kn.length
  map : ∀ s, s < clN l → (lgT l (s : Nat) ∈ kn → fmGet m (c s) = some ((ixL kn (lgT l (s : Nat)) : Nat) : Int)) ∧ (lgT l (s : Nat) ∉ kn → fmGet m (c s) = none)
theorem KO.nil (l : Tb) (c : Nat → Int) : KO l c [] [] [] := ⟨⟨.nil, by simp, by simp⟩, rfl, by simp, rfl, fun s hs => ⟨by simp, fun _ => rfl⟩⟩
theorem KO.put {l : Tb} {c : Nat → Int} {kn : List Lg} {ord : List Int} {m : List (Int × Int)} (hw : WfT l) (hk : ClsOk l c) (h : KO l c kn ord m) {s : Nat} (hs : s < l.length) (hn : lgT l (s : Nat) ∉ kn) (hl : live (lgT l (s : Nat)) = true) :
    KO l c (kn1 kn (lgT l (s : Nat))) (ord ++ [(s : Int)]) (fmPut m (c s) (ord.length : Int)) := by
  have hN : clN l = l.length + 1 := rfl
  have hsN : s < clN l := by omega
  have h1 := h.toKnOk.kn1 (D := lgT l (s : Nat)) (lgs_mem (by omega) (by omega)) hl
  have e : kn1 kn (lgT l (s : Nat)) = kn ++ [lgT l (s : Nat)] := by unfold kn1; rw [if_pos (ixL_not hn)]
  refine ⟨h1, ?_, ?_, ?_, ?_⟩
  · rw [e]; simp [h.len]
  · intro i q hq
    rw [e]
    by_cases hi : i < ord.length
    · rw [List.getElem?_append_left hi] at hq
      have := h.ord i q hq
      exact ⟨this.1, by rw [List.getElem?_append_left (by rw [← h.len]; exact hi)]; exact this.2⟩
    · rw [List.getElem?_append_right (by omega)] at hq
      have hi2 : i = ord.length := by
        have := (List.getElem?_eq_some_iff.1 hq).1; simp at this; omega
      subst hi2
      simp at hq; subst hq
      exact ⟨⟨by omega, by omega⟩, by rw [h.len]; simp⟩
  · rw [fmPut_len, (h.map s hsN).2 hn, e, h.mlen]; simp
  · intro t ht
    rw [e, fmGet_put]
    by_cases hts : c t = c s
    · have hL := (hk.iff t s ht hsN).1 hts
      rw [if_pos hts, hL, h.len]
      refine ⟨fun _ => ?_, fun hno => absurd (by simp) hno⟩
      have := ixL_kn1 kn (lgT l (s : Nat))
      rw [e, ixL_not hn] at this
      rw [this]
    · have hL : lgT l (t : Nat) ≠ lgT l (s : Nat) := fun hh => hts ((hk.iff t s ht hsN).2 hh)
      rw [if_neg hts]
      refine ⟨fun hm => ?_, fun hm => (h.map t ht).2 fun hh => hm (by simp [hh])⟩
      have hm' : lgT l (t : Nat) ∈ kn := by
        rcases List.mem_append.1 hm with hm | hm
        · exact hm
        · simp at hm; exact absurd hm hL
      rw [ixL_append hm']; exact (h.map t ht).1 hm'
theorem canonical_ok {l : Tb} {cs : List Int} {c : Nat → Int} {n fu : Nat} (hw : WfT l) (h0 : 0 < l.length) (hc : CutOk cs) (hf : CutFor cs l) (hk : ClsOk l c) (hl : l.length ≤ n) (hn : n < 4294967296) (hfu : n + 2 < fu) (hfu' : 256 < fu) :
    Ok (au_table_canonical fu (cmpD l cs (tab (clN l) c))) (fun r => r = canT l) := by
  have hN : clN l = l.length + 1 := rfl
  have hcl := hc.le
  unfold au_table_canonical
  refine Ok.bnd (live_ok hw hc hf hk hl hn hfu hfu') fun lv hlv => ?_
  obtain ⟨f, rfl, hf'⟩ := hlv
  have hnat := fun s hs => hk.toClsB.nat (s := s) hs
  have hc0 := hnat 0 (by omega)
  have e0 : idx (cmpD l cs (tab (clN l) c)).2.2.2 0 = some (c 0) := by unfold cmpD; exact idx_tab (i := 0) (by omega)
  refine Ok.bndE e0 (Ok.bndE (a := f (c 0).toNat) (by rw [← hc0.2]; exact idx_tab hc0.1) ?_)
  rw [hf' 0 (by omega)]
  have hzero : lgT l ((0 : Nat) : Int) = lgT l 0 := rfl
  rw [hzero]
  refine Ok.bif (fun h => Ok.some ?_) fun h => ?_
  · have h : live (lgT l 0) = false := by cases hh : live (lgT l 0) <;> simp [hh] at h ⊢
    unfold canT canL; rw [h]; rfl
  have hlv : live (lgT l 0) = true := by cases hh : live (lgT l 0) <;> simp [hh] at h ⊢
  have hcr := hk.rg 0 (by omega)
  refine Ok.bndE e0 (Ok.chk (by unfold F64; omega) (Ok.chk (by simp) ?_))
  have hKO0 := (KO.nil l c).put hw hk (s := 0) h0 (by simp) hlv
  refine Ok.loop (X := List Int × Tb × List (Int × Int) × Nat) (fun x => ∃ kn F, KO l c kn x.1 x.2.2.1 ∧ x.2.2.2 = x.2.1.length ∧ x.2.1.length ≤ kn.length ∧ l.length < F + x.2.1.length ∧ canGo F kn x.2.1 = canT l) (fun x => l.length + 1 - x.2.2.2)
    ⟨[lgT l 0], l.length + 1, hKO0, rfl, by simp, by simp, by unfold canT canL; rw [if_pos hlv]⟩ (by simp only; omega) fun x nx hI _ hnx => ?_
  obtain ⟨ord, out, m, k⟩ := x
  obtain ⟨kn, F, hKO, hkl, hol, hF, hgo⟩ := hI
  dsimp only at hKO hkl hol hF hgo
  subst hkl
  have hkn : kn.length ≤ l.length := by have := hKO.toKnOk.le; rw [lgs_len] at this; exact this
  have hlen := hKO.len
  unfold au_table_canonical_b7; dsimp only
  refine Ok.ite (fun hlt => ?_) fun hlt => Ok.some ?_
  · have hko : out.length < ord.length := by omega
    obtain ⟨⟨hq0, hq1⟩, hK⟩ := hKO.ord out.length _ (List.getElem?_eq_getElem hko)
    generalize hqe : ord[out.length] = q at hq0 hq1 hK
    obtain ⟨qn, rfl⟩ : ∃ qn : Nat, q = qn := ⟨q.toNat, by omega⟩
    have hqN : qn < clN l := by omega
    have e1 : idx ord (out.length : Int) = some (qn : Int) := by rw [idx_nat hko, hqe]
    obtain ⟨F, rfl⟩ : ∃ F', F = F' + 1 := ⟨F - 1, by omega⟩
    have hKm := List.mem_of_getElem? hK
    refine Ok.bndE e1 (Ok.bndE (by unfold cmpD; exact idx_tab hqN) (Ok.bndE e1 (Ok.bndE (by unfold cmpD; exact idx_tab hqN) ?_)))
    have hrow := fun i hi => rowTo_ok (lgs_clo hw) (hKO.sub _ hKm) hKO.toKnOk (pos cs i) hi
    refine Ok.range3 (fun i o es m' => o.length = (rowTo (lgT l (qn : Nat)) kn (pos cs i)).1.length ∧ es = (rowTo (lgT l (qn : Nat)) kn (pos cs i)).2 ∧ es.length ≤ i ∧ KO l c (rowTo (lgT l (qn : Nat)) kn (pos cs i)).1 o m') cs.length
      (by rw [pos_zero hc]; exact ⟨hlen, rfl, by simp, hKO⟩) (by omega) (fun i o es m' nx' hi hJ hnx' => ?_) (fun o es m' nx' hJ => ?_)
    · obtain ⟨hol', rfl, hesl, hKO'⟩ := hJ
      have hpl := pos_le hc i
      obtain ⟨g1, g2, g3⟩ := hrow i hpl
      have hr := nx_rg hw cs qn i
      obtain ⟨tn, htn⟩ : ∃ tn : Nat, nxF l cs qn i = tn := ⟨(nxF l cs qn i).toNat, by omega⟩
      have htN : tn < clN l := by omega
      have hct := hnat tn htN
      have hcr := hk.rg tn htN
      have hpa := pos_at hc hi
      have hps := pos_succ hc hi
      have hhi := hc.hi hi
      have hD : ∀ b, pos cs i ≤ b → b ≤ (hiC cs i).toNat → der (lgT l (qn : Nat)) b = lgT l (tn : Nat) := fun b b1 b2 => by
        rw [lg_const hw hc hf qn hi (by omega) (by omega) (by omega), ← lg_nx hw hc qn hi, htn]
      have hstep : rowTo (lgT l (qn : Nat)) kn (pos cs (i + 1)) = rowI (rowTo (lgT l (qn : Nat)) kn (pos cs i)) (lgT l (tn : Nat)) (pos cs i) (hiC cs i).toNat := by
        rw [show pos cs (i + 1) = (hiC cs i).toNat + 1 by omega]
        exact rowTo_add _ _ _ _ _ (by omega) hD
      unfold au_table_canonical_b10; dsimp only
      refine Ok.iT (by unfold nxR; rw [tab_len]; omega) (Ok.bndE (a := (tn : Int)) (by unfold nxR; rw [← htn]; exact idx_tab hi) (Ok.bndE (a := c tn) (by unfold cmpD; exact idx_tab htN) (Ok.bndE (a := f (c tn).toNat) (by rw [← hct.2]; exact idx_tab hct.1) ?_)))
      rw [hf' tn htN]
      refine Ok.bif (fun hdead => hnx' _ _ _ ?_) fun hlive => ?_
      · have hdead : live (lgT l (tn : Nat)) = false := by cases hh : live (lgT l (tn : Nat)) <;> simp [hh] at hdead ⊢
        have e : rowTo (lgT l (qn : Nat)) kn (pos cs (i + 1)) = rowTo (lgT l (qn : Nat)) kn (pos cs i) := by rw [hstep]; unfold rowI; rw [hdead]; rfl
        rw [e]; exact ⟨hol', rfl, by omega, hKO'⟩
      · have hlive : live (lgT l (tn : Nat)) = true := by cases hh : live (lgT l (tn : Nat)) <;> simp [hh] at hlive ⊢
        have htl : tn < l.length := by
          rcases Nat.lt_or_ge tn l.length with h1 | h1
          · exact h1
          · obtain rfl : tn = l.length := by omega
            rw [live_sink] at hlive; cases hlive
        have hst : rowTo (lgT l (qn : Nat)) kn (pos cs (i + 1)) = (kn1 (rowTo (lgT l (qn : Nat)) kn (pos cs i)).1 (lgT l (tn : Nat)), push (rowTo (lgT l (qn : Nat)) kn (pos cs i)).2 cs[i] (hiC cs i) (ixL (rowTo (lgT l (qn : Nat)) kn (pos cs i)).1 (lgT l (tn : Nat)) : Nat)) := by
          rw [hstep]; unfold rowI; rw [if_pos hlive, hpa, Int.toNat_of_nonneg (by omega)]
        have hx64 : F64 (c tn) := by unfold F64; omega
        have hkl' := g2.le
        rw [lgs_len] at hkl'
        have hpush := push_len (rowTo (lgT l (qn : Nat)) kn (pos cs i)).2 cs[i] (hiC cs i) (ixL (rowTo (lgT l (qn : Nat)) kn (pos cs i)).1 (lgT l (tn : Nat)) : Nat)
        refine Ok.chk hx64 (Ok.bif (fun hnew => ?_) fun hold => ?_)
        · have hnm : lgT l (tn : Nat) ∉ (rowTo (lgT l (qn : Nat)) kn (pos cs i)).1 := fun hm => by
            rw [(hKO'.map tn htN).1 hm] at hnew; simp at hnew
          have hput := hKO'.put hw hk htl hnm hlive
          have hix := ixL_not hnm
          have hmem := mem_kn1 (rowTo (lgT l (qn : Nat)) kn (pos cs i)).1 (lgT l (tn : Nat))
          refine Ok.chk hx64 (Ok.chk (by unfold F64; omega) (Ok.chk (by rw [hKO'.mlen]; unfold capN; omega) (Ok.chk (by simp; unfold capN; omega) ?_)))
          refine j11_ok hc hi g3.1 (by omega) hx64 (((hput.map tn htN).1 hmem).trans (by rw [ixL_kn1])) (hnx' _ _ _ ?_)
          rw [hst]
          exact ⟨by rw [hput.len], rfl, by omega, hput⟩
        · have hm : lgT l (tn : Nat) ∈ (rowTo (lgT l (qn : Nat)) kn (pos cs i)).1 := Classical.byContradiction fun hm => by
            rw [(hKO'.map tn htN).2 hm] at hold; simp at hold
          refine j11_ok hc hi g3.1 (by omega) hx64 ((hKO'.map tn htN).1 hm) (hnx' _ _ _ ?_)
          rw [hst, kn1_of_mem hm]
          exact ⟨hol', rfl, by omega, hKO'⟩
    · obtain ⟨hol', rfl, hesl, hKO'⟩ := hJ
      rw [pos_end] at hol' hKO' ⊢
      obtain ⟨g1, g2, g3⟩ := rowTo_ok (lgs_clo hw) (hKO.sub _ hKm) hKO.toKnOk 256 (Nat.le_refl _)
      have := g1.len
      unfold au_table_canonical_b10; dsimp only
      refine Ok.iF (by unfold nxR; rw [tab_len]; omega) (Ok.chk (by simp; unfold capN; omega) (hnx _ ⟨(rowTo (lgT l (qn : Nat)) kn 256).1, F, hKO', by simp, by simp; omega, by simp; omega, ?_⟩ ?_))
      · rw [← hgo]; dsimp only
        conv => rhs; unfold canGo
        rw [hK]; dsimp only
        rw [lg_nil]
      · dsimp only; omega
  · have hno : kn[out.length]? = none := List.getElem?_eq_none (by omega)
    rw [← hgo]
    cases F with
    | zero => rfl
    | succ F => unfold canGo; rw [hno]
theorem minimal_ok {l : Tb} {n fu : Nat} (hb : ByT l) (hs : ShT l n) (hn : n < 4294967296) (hfu : n + 2 < fu) (hfu' : 256 < fu) :
    Ok (au_Minimal fu l) (fun r => (WfT l → r = (canT l, 0)) ∧ (¬ WfT l → r = ([], 11))) := by
  unfold au_Minimal
  refine Ok.bnd (wellFormed_ok hb hs (by omega) hn) fun x hx => Ok.bif (fun h => Ok.some ?_) fun h => ?_
  · have hno : ¬ WfT l := fun hw => by have := hx.2 hw; subst this; cases h
    exact ⟨fun hw => absurd hw hno, fun _ => rfl⟩
  · have hw : WfT l := hx.1 (by cases x; cases h; rfl)
    refine Ok.ite (fun h => Ok.some ⟨fun _ => ?_, fun hno => absurd hw hno⟩) fun h => ?_
    · obtain rfl : l = [] := List.length_eq_zero_iff.1 (by omega)
      have : live (lgT [] 0) = false := live_false.2 fun w => lgT_nil 0 w
      unfold canT canL; rw [this]; rfl
    · refine Ok.bnd (complete_ok hw hs hn (by omega) hfu') fun x hx => ?_
      obtain ⟨cs, hc, hf, rfl⟩ := hx
      refine Ok.bnd (refine_ok hw (by omega) hc hf hs.1 hn hfu hfu') fun x hx => ?_
      obtain ⟨c, hk, rfl⟩ := hx
      refine Ok.bnd (canonical_ok hw (by omega) hc hf hk hs.1 hn hfu hfu') fun x hx => Ok.some ⟨fun _ => ?_, fun hno => absurd hw hno⟩
      rw [hx]
theorem valid_ok {l : Tb} {n fu : Nat} (hb : ByT l) (hs : ShT l n) (hn : n < 4294967296) (hfu : n + 2 < fu) (hfu' : 256 < fu) :
    Ok (au_Valid fu l) (fun r => r = true ↔ WfT l ∧ canT l = l) := by
  unfold au_Valid
  refine Ok.bnd (minimal_ok hb hs hn hfu hfu') fun x hx => ?_
  by_cases hw : WfT l
  · rw [hx.1 hw]
    refine Ok.iT rfl (Ok.bnd (auSame_ok hs (by omega)) fun r hr => Ok.some ?_)
    rw [hr]
    exact ⟨fun h => ⟨hw, h.symm⟩, fun h => h.2.symm⟩
  · rw [hx.2 hw]
    exact Ok.iF (by decide) (Ok.some ⟨fun h => (by cases h), fun h => absurd h.1 hw⟩)
end Go.GL
namespace Go.GL
open Go.GK
theorem step_ok {l : Tb} {n fu b : Nat} {i : Int} (hs : ShT l n) (hf : n < fu) (h1 : i < l.length) : Ok (r05_Step fu l i (b : Int)) (fun r => r = stT l i b) := by
  unfold r05_Step
  refine Ok.ite (fun h => Ok.some (by rw [stT_neg _ h])) fun h => Ok.idxI (by omega) h1 ?_
  have hr := rowT_get (by omega) h1
  have hst : stT l i b = stepE (l[i.toNat]'(by omega)).2 b := by unfold stT; rw [if_neg h, hr]
  rw [hst]
  have hsl := hs.2 _ (List.getElem_mem (by omega : i.toNat < l.length))
  generalize l[i.toNat]'(by omega) = s at hsl
  refine Ok.count (fun k => ∀ j (_ : j < k) (hj : j < s.2.length), inE b s.2[j] = false) s.2.length (by intro j h; omega) (by omega) (fun k nx hk hJ hn => ?_) (fun nx hJ => ?_)
  · unfold r05_Step_b1
    have hno : inE b s.2[k] = false → ∀ j (_ : j < k + 1) (hj : j < s.2.length), inE b s.2[j] = false := fun h j hj hj' => by
      rcases Nat.lt_or_ge j k with h2 | h2
      · exact hJ j h2 hj'
      · obtain rfl : j = k := by omega
        exact h
    refine Ok.iT (by omega) (Ok.idxN hk (Ok.ite (fun h2 => Ok.ite (fun h3 => Ok.some ?_) fun h3 => hn (hno ?_)) fun h2 => hn (hno ?_)))
    · exact (stepE_at hk (by simp [inE, h2, h3]) fun i hi => hJ i hi (by omega)).symm
    · simp [inE, h3]
    · simp [inE, h2]
  · unfold r05_Step_b1
    refine Ok.iF (by omega) (Ok.some (stepE_none fun i hi => hJ i hi hi).symm)
theorem r05_wellFormed_eq : r05_Wellformed = au_wellFormed := rfl
end Go.GL
