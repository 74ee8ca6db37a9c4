/- Closed facts on the types and functions of this seat. -/
import Derived.Test.YtjmbmodmepdmjaaGreatDoorRows
import Derived.Test.YtjmbmodmepdmjaaGreatDoorK3
namespace Go.Proofs.YtjmbmodmepdmjaaGreatDoor
open Go.GK

theorem follows : Tryz.prog.follows .mixedOrders = true := by kernel_rfl
theorem ti3 : TI Tryz.prog 3 1 8 (.int .i64 0) := TI.of (by kernel_rfl)
theorem ti4 : TI Tryz.prog 4 1 1 (.bool false) := TI.of (by kernel_rfl)
theorem ti5 : TI Tryz.prog 5 1 1 (.int .u8 0) := TI.of (by kernel_rfl)
theorem ti9 : TI Tryz.prog 9 1 16 (.string ByteArray.empty) := TI.of (by kernel_rfl)
theorem ti22 : TI Tryz.prog 22 1 24 (.slice none 0 0) := TI.of (by kernel_rfl)
theorem ti26 : TI Tryz.prog 26 1 24 (.agg #[.slice none 0 0]) := TI.of (by kernel_rfl)
theorem ti32 : TI Tryz.prog 32 1 8 (.int .u64 0) := TI.of (by kernel_rfl)
theorem ti34 : TI Tryz.prog 34 4 32 (.agg #[.int .u64 0, .int .u64 0, .int .u64 0, .int .u64 0]) := TI.of (by kernel_rfl)
theorem ti35 : TI Tryz.prog 35 1 24 (.slice none 0 0) := TI.of (by kernel_rfl)
theorem ti37 : TI Tryz.prog 37 6 64 (.agg #[.int .i64 0, .int .u64 0, .int .u64 0, .int .u64 0, .int .u64 0, .slice none 0 0]) := TI.of (by kernel_rfl)
theorem ti41 : TI Tryz.prog 41 1 24 (.slice none 0 0) := TI.of (by kernel_rfl)
theorem ti43 : TI Tryz.prog 43 2 32 (.agg #[.bool false, .slice none 0 0]) := TI.of (by kernel_rfl)
theorem ti46 : TI Tryz.prog 46 3 16 (.agg #[.int .u8 0, .int .u8 0, .int .i64 0]) := TI.of (by kernel_rfl)
theorem ti52 : TI Tryz.prog 52 1 24 (.slice none 0 0) := TI.of (by kernel_rfl)
theorem ti55 : TI Tryz.prog 55 1 24 (.slice none 0 0) := TI.of (by kernel_rfl)
theorem ti63 : TI Tryz.prog 63 1 24 (.slice none 0 0) := TI.of (by kernel_rfl)
theorem ti64 : TI Tryz.prog 64 1 24 (.slice none 0 0) := TI.of (by kernel_rfl)
theorem ti66 : TI Tryz.prog 66 3 56 (.agg #[.slice none 0 0, .slice none 0 0, .int .i64 0]) := TI.of (by kernel_rfl)
theorem ti80 : TI Tryz.prog 80 2 16 (.agg #[.int .i64 0, .int .i64 0]) := TI.of (by kernel_rfl)
theorem ti81 : TI Tryz.prog 81 1 24 (.slice none 0 0) := TI.of (by kernel_rfl)
theorem ti84 : TI Tryz.prog 84 4 96 (.agg #[.slice none 0 0, .slice none 0 0, .slice none 0 0, .slice none 0 0]) := TI.of (by kernel_rfl)
theorem ti91 : TI Tryz.prog 91 257 257 (.agg (List.replicate 257 (.bool false)).toArray) := TI.of (by kernel_rfl)
theorem ti94 : TI Tryz.prog 94 1 24 (.slice none 0 0) := TI.of (by kernel_rfl)
theorem ti96 : TI Tryz.prog 96 6 48 (.agg #[.int .u64 0, .int .u64 0, .int .u64 0, .int .u64 0, .int .i64 0, .int .i64 0]) := TI.of (by kernel_rfl)
theorem ti97 : TI Tryz.prog 97 1 24 (.slice none 0 0) := TI.of (by kernel_rfl)
theorem ti107 : TI Tryz.prog 107 1 24 (.slice none 0 0) := TI.of (by kernel_rfl)
theorem ti109 : TI Tryz.prog 109 5 40 (.agg #[.int .u64 0, .int .u64 0, .int .u64 0, .int .u64 0, .int .i64 0]) := TI.of (by kernel_rfl)
theorem ti111 : TI Tryz.prog 111 1 24 (.slice none 0 0) := TI.of (by kernel_rfl)
theorem ti113 : TI Tryz.prog 113 2 2 (.agg #[.int .u8 0, .int .u8 0]) := TI.of (by kernel_rfl)
theorem ti120 : TI Tryz.prog 120 1 8 (.pointer none) := TI.of (by kernel_rfl)
theorem ti121 : TI Tryz.prog 121 1 24 (.slice none 0 0) := TI.of (by kernel_rfl)
theorem ti123 : TI Tryz.prog 123 2 32 (.agg #[.pointer none, .slice none 0 0]) := TI.of (by kernel_rfl)
theorem ti133 : TI Tryz.prog 133 8 64 (.agg #[.int .u64 0, .int .u64 0, .int .u64 0, .int .u64 0, .int .u64 0, .int .u64 0, .int .u64 0, .int .u64 0]) := TI.of (by kernel_rfl)
theorem ent3 : Ent Tryz.prog 3 := ⟨Tryz.f3, Tryz.func3, by kernel_rfl, rfl⟩
theorem ent5 : Ent Tryz.prog 5 := ⟨Tryz.f5, Tryz.func5, by kernel_rfl, rfl⟩
theorem ent6 : Ent Tryz.prog 6 := ⟨Tryz.f6, Tryz.func6, by kernel_rfl, rfl⟩
theorem ent7 : Ent Tryz.prog 7 := ⟨Tryz.f7, Tryz.func7, by kernel_rfl, rfl⟩
theorem ent8 : Ent Tryz.prog 8 := ⟨Tryz.f8, Tryz.func8, by kernel_rfl, rfl⟩
theorem ent9 : Ent Tryz.prog 9 := ⟨Tryz.f9, Tryz.func9, by kernel_rfl, rfl⟩
theorem ent10 : Ent Tryz.prog 10 := ⟨Tryz.f10, Tryz.func10, by kernel_rfl, rfl⟩
theorem ent11 : Ent Tryz.prog 11 := ⟨Tryz.f11, Tryz.func11, by kernel_rfl, rfl⟩
theorem ent12 : Ent Tryz.prog 12 := ⟨Tryz.f12, Tryz.func12, by kernel_rfl, rfl⟩
theorem ent14 : Ent Tryz.prog 14 := ⟨Tryz.f14, Tryz.func14, by kernel_rfl, rfl⟩
theorem ent16 : Ent Tryz.prog 16 := ⟨Tryz.f16, Tryz.func16, by kernel_rfl, rfl⟩
theorem ent17 : Ent Tryz.prog 17 := ⟨Tryz.f17, Tryz.func17, by kernel_rfl, rfl⟩
theorem ent18 : Ent Tryz.prog 18 := ⟨Tryz.f18, Tryz.func18, by kernel_rfl, rfl⟩
theorem ent19 : Ent Tryz.prog 19 := ⟨Tryz.f19, Tryz.func19, by kernel_rfl, rfl⟩
theorem ent20 : Ent Tryz.prog 20 := ⟨Tryz.f20, Tryz.func20, by kernel_rfl, rfl⟩
theorem ent21 : Ent Tryz.prog 21 := ⟨Tryz.f21, Tryz.func21, by kernel_rfl, rfl⟩
theorem ent22 : Ent Tryz.prog 22 := ⟨Tryz.f22, Tryz.func22, by kernel_rfl, rfl⟩
theorem ent23 : Ent Tryz.prog 23 := ⟨Tryz.f23, Tryz.func23, by kernel_rfl, rfl⟩
theorem ent24 : Ent Tryz.prog 24 := ⟨Tryz.f24, Tryz.func24, by kernel_rfl, rfl⟩
theorem ent25 : Ent Tryz.prog 25 := ⟨Tryz.f25, Tryz.func25, by kernel_rfl, rfl⟩
theorem ent26 : Ent Tryz.prog 26 := ⟨Tryz.f26, Tryz.func26, by kernel_rfl, rfl⟩
theorem ent27 : Ent Tryz.prog 27 := ⟨Tryz.f27, Tryz.func27, by kernel_rfl, rfl⟩
theorem ent28 : Ent Tryz.prog 28 := ⟨Tryz.f28, Tryz.func28, by kernel_rfl, rfl⟩
theorem ent29 : Ent Tryz.prog 29 := ⟨Tryz.f29, Tryz.func29, by kernel_rfl, rfl⟩
theorem ent30 : Ent Tryz.prog 30 := ⟨Tryz.f30, Tryz.func30, by kernel_rfl, rfl⟩
theorem ent31 : Ent Tryz.prog 31 := ⟨Tryz.f31, Tryz.func31, by kernel_rfl, rfl⟩
theorem ent32 : Ent Tryz.prog 32 := ⟨Tryz.f32, Tryz.func32, by kernel_rfl, rfl⟩
theorem ent33 : Ent Tryz.prog 33 := ⟨Tryz.f33, Tryz.func33, by kernel_rfl, rfl⟩
theorem ent35 : Ent Tryz.prog 35 := ⟨Tryz.f35, Tryz.func35, by kernel_rfl, rfl⟩
theorem ent36 : Ent Tryz.prog 36 := ⟨Tryz.f36, Tryz.func36, by kernel_rfl, rfl⟩
theorem ent37 : Ent Tryz.prog 37 := ⟨Tryz.f37, Tryz.func37, by kernel_rfl, rfl⟩
theorem ent38 : Ent Tryz.prog 38 := ⟨Tryz.f38, Tryz.func38, by kernel_rfl, rfl⟩
theorem ent39 : Ent Tryz.prog 39 := ⟨Tryz.f39, Tryz.func39, by kernel_rfl, rfl⟩
theorem ent44 : Ent Tryz.prog 44 := ⟨Tryz.f44, Tryz.func44, by kernel_rfl, rfl⟩
theorem ent45 : Ent Tryz.prog 45 := ⟨Tryz.f45, Tryz.func45, by kernel_rfl, rfl⟩
theorem ent46 : Ent Tryz.prog 46 := ⟨Tryz.f46, Tryz.func46, by kernel_rfl, rfl⟩
theorem ent47 : Ent Tryz.prog 47 := ⟨Tryz.f47, Tryz.func47, by kernel_rfl, rfl⟩
theorem ent48 : Ent Tryz.prog 48 := ⟨Tryz.f48, Tryz.func48, by kernel_rfl, rfl⟩
theorem ent49 : Ent Tryz.prog 49 := ⟨Tryz.f49, Tryz.func49, by kernel_rfl, rfl⟩
theorem ent50 : Ent Tryz.prog 50 := ⟨Tryz.f50, Tryz.func50, by kernel_rfl, rfl⟩
theorem ent51 : Ent Tryz.prog 51 := ⟨Tryz.f51, Tryz.func51, by kernel_rfl, rfl⟩
theorem ent52 : Ent Tryz.prog 52 := ⟨Tryz.f52, Tryz.func52, by kernel_rfl, rfl⟩
theorem ent53 : Ent Tryz.prog 53 := ⟨Tryz.f53, Tryz.func53, by kernel_rfl, rfl⟩
theorem ent54 : Ent Tryz.prog 54 := ⟨Tryz.f54, Tryz.func54, by kernel_rfl, rfl⟩
theorem ent55 : Ent Tryz.prog 55 := ⟨Tryz.f55, Tryz.func55, by kernel_rfl, rfl⟩
theorem ent56 : Ent Tryz.prog 56 := ⟨Tryz.f56, Tryz.func56, by kernel_rfl, rfl⟩
theorem ent57 : Ent Tryz.prog 57 := ⟨Tryz.f57, Tryz.func57, by kernel_rfl, rfl⟩
theorem ent58 : Ent Tryz.prog 58 := ⟨Tryz.f58, Tryz.func58, by kernel_rfl, rfl⟩
theorem ent59 : Ent Tryz.prog 59 := ⟨Tryz.f59, Tryz.func59, by kernel_rfl, rfl⟩
theorem ent60 : Ent Tryz.prog 60 := ⟨Tryz.f60, Tryz.func60, by kernel_rfl, rfl⟩
theorem ent61 : Ent Tryz.prog 61 := ⟨Tryz.f61, Tryz.func61, by kernel_rfl, rfl⟩
theorem ent62 : Ent Tryz.prog 62 := ⟨Tryz.f62, Tryz.func62, by kernel_rfl, rfl⟩
theorem ent63 : Ent Tryz.prog 63 := ⟨Tryz.f63, Tryz.func63, by kernel_rfl, rfl⟩
theorem ent64 : Ent Tryz.prog 64 := ⟨Tryz.f64, Tryz.func64, by kernel_rfl, rfl⟩
theorem ent70 : Ent Tryz.prog 70 := ⟨Tryz.f70, Tryz.func70, by kernel_rfl, rfl⟩
theorem ent71 : Ent Tryz.prog 71 := ⟨Tryz.f71, Tryz.func71, by kernel_rfl, rfl⟩
theorem ent72 : Ent Tryz.prog 72 := ⟨Tryz.f72, Tryz.func72, by kernel_rfl, rfl⟩
theorem ent73 : Ent Tryz.prog 73 := ⟨Tryz.f73, Tryz.func73, by kernel_rfl, rfl⟩
theorem ent74 : Ent Tryz.prog 74 := ⟨Tryz.f74, Tryz.func74, by kernel_rfl, rfl⟩
theorem ent75 : Ent Tryz.prog 75 := ⟨Tryz.f75, Tryz.func75, by kernel_rfl, rfl⟩
theorem ent76 : Ent Tryz.prog 76 := ⟨Tryz.f76, Tryz.func76, by kernel_rfl, rfl⟩
theorem ent77 : Ent Tryz.prog 77 := ⟨Tryz.f77, Tryz.func77, by kernel_rfl, rfl⟩
theorem ent80 : Ent Tryz.prog 80 := ⟨Tryz.f80, Tryz.func80, by kernel_rfl, rfl⟩
theorem ent83 : Ent Tryz.prog 83 := ⟨Tryz.f83, Tryz.func83, by kernel_rfl, rfl⟩
theorem eqg33 : Tryz.prog.eqGuardType Tryz.prog.depth 33 = false := by kernel_rfl
theorem eqg34 : Tryz.prog.eqGuardType Tryz.prog.depth 34 = false := by kernel_rfl
theorem eqg80 : Tryz.prog.eqGuardType Tryz.prog.depth 80 = false := by kernel_rfl
theorem fl26_0 : Fld Tryz.prog 26 0 0 22 := Fld.of (k := 0) (by kernel_rfl)
theorem fl37_0 : Fld Tryz.prog 37 0 0 3 := Fld.of (k := 0) (by kernel_rfl)
theorem fl37_1 : Fld Tryz.prog 37 1 1 34 := Fld.of (k := 3) (by kernel_rfl)
theorem fl37_2 : Fld Tryz.prog 37 2 5 35 := Fld.of (k := 0) (by kernel_rfl)
theorem fl43_0 : Fld Tryz.prog 43 0 0 4 := Fld.of (k := 0) (by kernel_rfl)
theorem fl43_1 : Fld Tryz.prog 43 1 1 41 := Fld.of (k := 0) (by kernel_rfl)
theorem fl46_0 : Fld Tryz.prog 46 0 0 5 := Fld.of (k := 0) (by kernel_rfl)
theorem fl46_1 : Fld Tryz.prog 46 1 1 5 := Fld.of (k := 0) (by kernel_rfl)
theorem fl46_2 : Fld Tryz.prog 46 2 2 3 := Fld.of (k := 0) (by kernel_rfl)
theorem fl66_0 : Fld Tryz.prog 66 0 0 63 := Fld.of (k := 0) (by kernel_rfl)
theorem fl66_1 : Fld Tryz.prog 66 1 1 64 := Fld.of (k := 0) (by kernel_rfl)
theorem fl66_2 : Fld Tryz.prog 66 2 2 3 := Fld.of (k := 0) (by kernel_rfl)
theorem fl84_0 : Fld Tryz.prog 84 0 0 55 := Fld.of (k := 0) (by kernel_rfl)
theorem fl84_1 : Fld Tryz.prog 84 1 1 63 := Fld.of (k := 0) (by kernel_rfl)
theorem fl84_2 : Fld Tryz.prog 84 2 2 52 := Fld.of (k := 0) (by kernel_rfl)
theorem fl84_3 : Fld Tryz.prog 84 3 3 55 := Fld.of (k := 0) (by kernel_rfl)
theorem fl96_0 : Fld Tryz.prog 96 0 0 34 := Fld.of (k := 3) (by kernel_rfl)
theorem fl96_1 : Fld Tryz.prog 96 1 4 3 := Fld.of (k := 0) (by kernel_rfl)
theorem fl96_2 : Fld Tryz.prog 96 2 5 3 := Fld.of (k := 0) (by kernel_rfl)
theorem fl109_0 : Fld Tryz.prog 109 0 0 34 := Fld.of (k := 3) (by kernel_rfl)
theorem fl109_1 : Fld Tryz.prog 109 1 4 3 := Fld.of (k := 0) (by kernel_rfl)
theorem fl123_0 : Fld Tryz.prog 123 0 0 120 := Fld.of (k := 0) (by kernel_rfl)
theorem fl123_1 : Fld Tryz.prog 123 1 1 121 := Fld.of (k := 0) (by kernel_rfl)
theorem ints46 : intsB Tryz.prog 46 [.u8, .u8, .i64] = true := by kernel_rfl
theorem plf26 : placesOf Tryz.prog 26 = some [(0, 1)] := by kernel_rfl
theorem plf37 : placesOf Tryz.prog 37 = some [(0, 1), (1, 4), (5, 1)] := by kernel_rfl
theorem plf43 : placesOf Tryz.prog 43 = some [(0, 1), (1, 1)] := by kernel_rfl
theorem plf46 : placesOf Tryz.prog 46 = some [(0, 1), (1, 1), (2, 1)] := by kernel_rfl
theorem plf66 : placesOf Tryz.prog 66 = some [(0, 1), (1, 1), (2, 1)] := by kernel_rfl
theorem plf84 : placesOf Tryz.prog 84 = some [(0, 1), (1, 1), (2, 1), (3, 1)] := by kernel_rfl
theorem plf96 : placesOf Tryz.prog 96 = some [(0, 4), (4, 1), (5, 1)] := by kernel_rfl
theorem plf109 : placesOf Tryz.prog 109 = some [(0, 4), (4, 1)] := by kernel_rfl
theorem plf123 : placesOf Tryz.prog 123 = some [(0, 1), (1, 1)] := by kernel_rfl
abbrev u1 := Tryz.underlying1
abbrev u2 := Tryz.underlying2
abbrev u3 := Tryz.underlying3
abbrev u4 := Tryz.underlying4
abbrev u5 := Tryz.underlying5
abbrev u8 := Tryz.underlying8
abbrev u9 := Tryz.underlying9
abbrev u22 := Tryz.underlying22
abbrev u26 := Tryz.underlying26
abbrev u32 := Tryz.underlying32
abbrev u34 := Tryz.underlying34
abbrev u35 := Tryz.underlying35
abbrev u37 := Tryz.underlying37
abbrev u41 := Tryz.underlying41
abbrev u43 := Tryz.underlying43
abbrev u46 := Tryz.underlying46
abbrev u52 := Tryz.underlying52
abbrev u55 := Tryz.underlying55
abbrev u63 := Tryz.underlying63
abbrev u64 := Tryz.underlying64
abbrev u80 := Tryz.underlying80
abbrev u81 := Tryz.underlying81
abbrev u86 := Tryz.underlying86
abbrev u89 := Tryz.underlying89
abbrev u91 := Tryz.underlying91
abbrev u94 := Tryz.underlying94
abbrev u96 := Tryz.underlying96
abbrev u97 := Tryz.underlying97
abbrev u100 := Tryz.underlying100
abbrev u107 := Tryz.underlying107
abbrev u109 := Tryz.underlying109
abbrev u111 := Tryz.underlying111
abbrev u113 := Tryz.underlying113
end Go.Proofs.YtjmbmodmepdmjaaGreatDoor
