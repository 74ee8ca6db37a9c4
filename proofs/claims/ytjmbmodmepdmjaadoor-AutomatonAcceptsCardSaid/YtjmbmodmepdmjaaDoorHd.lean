/- Closed facts on the types and functions of this seat. -/
import Derived.Test.YtjmbmodmepdmjaaDoorRows
import Derived.Test.YtjmbmodmepdmjaaDoorKitWord
namespace Go.Proofs.YtjmbmodmepdmjaaDoor
open Go.GK

theorem follows : Tryd.prog.follows .mixedOrders = true := by kernel_rfl
theorem ti3 : TI Tryd.prog 3 1 8 (.int .i64 0) := TI.of (by kernel_rfl)
theorem ti4 : TI Tryd.prog 4 1 1 (.bool false) := TI.of (by kernel_rfl)
theorem ti5 : TI Tryd.prog 5 1 1 (.int .u8 0) := TI.of (by kernel_rfl)
theorem ti9 : TI Tryd.prog 9 1 16 (.string ByteArray.empty) := TI.of (by kernel_rfl)
theorem ti22 : TI Tryd.prog 22 1 24 (.slice none 0 0) := TI.of (by kernel_rfl)
theorem ti26 : TI Tryd.prog 26 1 24 (.agg #[.slice none 0 0]) := TI.of (by kernel_rfl)
theorem ti38 : TI Tryd.prog 38 1 24 (.slice none 0 0) := TI.of (by kernel_rfl)
theorem ti40 : TI Tryd.prog 40 2 32 (.agg #[.bool false, .slice none 0 0]) := TI.of (by kernel_rfl)
theorem ti41 : TI Tryd.prog 41 1 8 (.int .u64 0) := TI.of (by kernel_rfl)
theorem ti43 : TI Tryd.prog 43 4 32 (.agg #[.int .u64 0, .int .u64 0, .int .u64 0, .int .u64 0]) := TI.of (by kernel_rfl)
theorem ti44 : TI Tryd.prog 44 1 24 (.slice none 0 0) := TI.of (by kernel_rfl)
theorem ti46 : TI Tryd.prog 46 6 64 (.agg #[.int .i64 0, .int .u64 0, .int .u64 0, .int .u64 0, .int .u64 0, .slice none 0 0]) := TI.of (by kernel_rfl)
theorem ti50 : TI Tryd.prog 50 3 16 (.agg #[.int .u8 0, .int .u8 0, .int .i64 0]) := TI.of (by kernel_rfl)
theorem ti59 : TI Tryd.prog 59 1 24 (.slice none 0 0) := TI.of (by kernel_rfl)
theorem ti60 : TI Tryd.prog 60 1 24 (.slice none 0 0) := TI.of (by kernel_rfl)
theorem ti62 : TI Tryd.prog 62 3 56 (.agg #[.slice none 0 0, .slice none 0 0, .int .i64 0]) := TI.of (by kernel_rfl)
theorem ti67 : TI Tryd.prog 67 1 24 (.slice none 0 0) := TI.of (by kernel_rfl)
theorem ti69 : TI Tryd.prog 69 1 24 (.slice none 0 0) := TI.of (by kernel_rfl)
theorem ti71 : TI Tryd.prog 71 4 96 (.agg #[.slice none 0 0, .slice none 0 0, .slice none 0 0, .slice none 0 0]) := TI.of (by kernel_rfl)
theorem ti79 : TI Tryd.prog 79 1 24 (.slice none 0 0) := TI.of (by kernel_rfl)
theorem ti81 : TI Tryd.prog 81 6 48 (.agg #[.int .u64 0, .int .u64 0, .int .u64 0, .int .u64 0, .int .i64 0, .int .i64 0]) := TI.of (by kernel_rfl)
theorem ti82 : TI Tryd.prog 82 1 24 (.slice none 0 0) := TI.of (by kernel_rfl)
theorem ti92 : TI Tryd.prog 92 1 24 (.slice none 0 0) := TI.of (by kernel_rfl)
theorem ti94 : TI Tryd.prog 94 5 40 (.agg #[.int .u64 0, .int .u64 0, .int .u64 0, .int .u64 0, .int .i64 0]) := TI.of (by kernel_rfl)
theorem ti96 : TI Tryd.prog 96 1 24 (.slice none 0 0) := TI.of (by kernel_rfl)
theorem ti98 : TI Tryd.prog 98 2 2 (.agg #[.int .u8 0, .int .u8 0]) := TI.of (by kernel_rfl)
theorem ti101 : TI Tryd.prog 101 257 257 (.agg (List.replicate 257 (.bool false)).toArray) := TI.of (by kernel_rfl)
theorem ti102 : TI Tryd.prog 102 1 8 (.pointer none) := TI.of (by kernel_rfl)
theorem ti103 : TI Tryd.prog 103 1 24 (.slice none 0 0) := TI.of (by kernel_rfl)
theorem ti105 : TI Tryd.prog 105 2 32 (.agg #[.pointer none, .slice none 0 0]) := TI.of (by kernel_rfl)
theorem ti114 : TI Tryd.prog 114 8 64 (.agg #[.int .u64 0, .int .u64 0, .int .u64 0, .int .u64 0, .int .u64 0, .int .u64 0, .int .u64 0, .int .u64 0]) := TI.of (by kernel_rfl)
theorem ent3 : Ent Tryd.prog 3 := ⟨Tryd.f3, Tryd.func3, by kernel_rfl, rfl⟩
theorem ent4 : Ent Tryd.prog 4 := ⟨Tryd.f4, Tryd.func4, by kernel_rfl, rfl⟩
theorem ent5 : Ent Tryd.prog 5 := ⟨Tryd.f5, Tryd.func5, by kernel_rfl, rfl⟩
theorem ent6 : Ent Tryd.prog 6 := ⟨Tryd.f6, Tryd.func6, by kernel_rfl, rfl⟩
theorem ent7 : Ent Tryd.prog 7 := ⟨Tryd.f7, Tryd.func7, by kernel_rfl, rfl⟩
theorem ent8 : Ent Tryd.prog 8 := ⟨Tryd.f8, Tryd.func8, by kernel_rfl, rfl⟩
theorem ent9 : Ent Tryd.prog 9 := ⟨Tryd.f9, Tryd.func9, by kernel_rfl, rfl⟩
theorem ent10 : Ent Tryd.prog 10 := ⟨Tryd.f10, Tryd.func10, by kernel_rfl, rfl⟩
theorem ent11 : Ent Tryd.prog 11 := ⟨Tryd.f11, Tryd.func11, by kernel_rfl, rfl⟩
theorem ent12 : Ent Tryd.prog 12 := ⟨Tryd.f12, Tryd.func12, by kernel_rfl, rfl⟩
theorem ent13 : Ent Tryd.prog 13 := ⟨Tryd.f13, Tryd.func13, by kernel_rfl, rfl⟩
theorem ent14 : Ent Tryd.prog 14 := ⟨Tryd.f14, Tryd.func14, by kernel_rfl, rfl⟩
theorem ent15 : Ent Tryd.prog 15 := ⟨Tryd.f15, Tryd.func15, by kernel_rfl, rfl⟩
theorem ent16 : Ent Tryd.prog 16 := ⟨Tryd.f16, Tryd.func16, by kernel_rfl, rfl⟩
theorem ent17 : Ent Tryd.prog 17 := ⟨Tryd.f17, Tryd.func17, by kernel_rfl, rfl⟩
theorem ent18 : Ent Tryd.prog 18 := ⟨Tryd.f18, Tryd.func18, by kernel_rfl, rfl⟩
theorem ent19 : Ent Tryd.prog 19 := ⟨Tryd.f19, Tryd.func19, by kernel_rfl, rfl⟩
theorem ent20 : Ent Tryd.prog 20 := ⟨Tryd.f20, Tryd.func20, by kernel_rfl, rfl⟩
theorem ent21 : Ent Tryd.prog 21 := ⟨Tryd.f21, Tryd.func21, by kernel_rfl, rfl⟩
theorem ent22 : Ent Tryd.prog 22 := ⟨Tryd.f22, Tryd.func22, by kernel_rfl, rfl⟩
theorem ent23 : Ent Tryd.prog 23 := ⟨Tryd.f23, Tryd.func23, by kernel_rfl, rfl⟩
theorem ent24 : Ent Tryd.prog 24 := ⟨Tryd.f24, Tryd.func24, by kernel_rfl, rfl⟩
theorem ent25 : Ent Tryd.prog 25 := ⟨Tryd.f25, Tryd.func25, by kernel_rfl, rfl⟩
theorem ent26 : Ent Tryd.prog 26 := ⟨Tryd.f26, Tryd.func26, by kernel_rfl, rfl⟩
theorem ent27 : Ent Tryd.prog 27 := ⟨Tryd.f27, Tryd.func27, by kernel_rfl, rfl⟩
theorem ent28 : Ent Tryd.prog 28 := ⟨Tryd.f28, Tryd.func28, by kernel_rfl, rfl⟩
theorem ent29 : Ent Tryd.prog 29 := ⟨Tryd.f29, Tryd.func29, by kernel_rfl, rfl⟩
theorem ent30 : Ent Tryd.prog 30 := ⟨Tryd.f30, Tryd.func30, by kernel_rfl, rfl⟩
theorem ent31 : Ent Tryd.prog 31 := ⟨Tryd.f31, Tryd.func31, by kernel_rfl, rfl⟩
theorem ent32 : Ent Tryd.prog 32 := ⟨Tryd.f32, Tryd.func32, by kernel_rfl, rfl⟩
theorem ent33 : Ent Tryd.prog 33 := ⟨Tryd.f33, Tryd.func33, by kernel_rfl, rfl⟩
theorem ent34 : Ent Tryd.prog 34 := ⟨Tryd.f34, Tryd.func34, by kernel_rfl, rfl⟩
theorem ent35 : Ent Tryd.prog 35 := ⟨Tryd.f35, Tryd.func35, by kernel_rfl, rfl⟩
theorem ent36 : Ent Tryd.prog 36 := ⟨Tryd.f36, Tryd.func36, by kernel_rfl, rfl⟩
theorem ent37 : Ent Tryd.prog 37 := ⟨Tryd.f37, Tryd.func37, by kernel_rfl, rfl⟩
theorem ent38 : Ent Tryd.prog 38 := ⟨Tryd.f38, Tryd.func38, by kernel_rfl, rfl⟩
theorem ent39 : Ent Tryd.prog 39 := ⟨Tryd.f39, Tryd.func39, by kernel_rfl, rfl⟩
theorem ent40 : Ent Tryd.prog 40 := ⟨Tryd.f40, Tryd.func40, by kernel_rfl, rfl⟩
theorem ent41 : Ent Tryd.prog 41 := ⟨Tryd.f41, Tryd.func41, by kernel_rfl, rfl⟩
theorem ent42 : Ent Tryd.prog 42 := ⟨Tryd.f42, Tryd.func42, by kernel_rfl, rfl⟩
theorem ent43 : Ent Tryd.prog 43 := ⟨Tryd.f43, Tryd.func43, by kernel_rfl, rfl⟩
theorem ent44 : Ent Tryd.prog 44 := ⟨Tryd.f44, Tryd.func44, by kernel_rfl, rfl⟩
theorem ent45 : Ent Tryd.prog 45 := ⟨Tryd.f45, Tryd.func45, by kernel_rfl, rfl⟩
theorem ent46 : Ent Tryd.prog 46 := ⟨Tryd.f46, Tryd.func46, by kernel_rfl, rfl⟩
theorem ent47 : Ent Tryd.prog 47 := ⟨Tryd.f47, Tryd.func47, by kernel_rfl, rfl⟩
theorem ent48 : Ent Tryd.prog 48 := ⟨Tryd.f48, Tryd.func48, by kernel_rfl, rfl⟩
theorem ent49 : Ent Tryd.prog 49 := ⟨Tryd.f49, Tryd.func49, by kernel_rfl, rfl⟩
theorem ent50 : Ent Tryd.prog 50 := ⟨Tryd.f50, Tryd.func50, by kernel_rfl, rfl⟩
theorem ent51 : Ent Tryd.prog 51 := ⟨Tryd.f51, Tryd.func51, by kernel_rfl, rfl⟩
theorem ent52 : Ent Tryd.prog 52 := ⟨Tryd.f52, Tryd.func52, by kernel_rfl, rfl⟩
theorem ent53 : Ent Tryd.prog 53 := ⟨Tryd.f53, Tryd.func53, by kernel_rfl, rfl⟩
theorem ent54 : Ent Tryd.prog 54 := ⟨Tryd.f54, Tryd.func54, by kernel_rfl, rfl⟩
theorem ent55 : Ent Tryd.prog 55 := ⟨Tryd.f55, Tryd.func55, by kernel_rfl, rfl⟩
theorem ent58 : Ent Tryd.prog 58 := ⟨Tryd.f58, Tryd.func58, by kernel_rfl, rfl⟩
theorem ent60 : Ent Tryd.prog 60 := ⟨Tryd.f60, Tryd.func60, by kernel_rfl, rfl⟩
theorem eqg42 : Tryd.prog.eqGuardType Tryd.prog.depth 42 = false := by kernel_rfl
theorem eqg43 : Tryd.prog.eqGuardType Tryd.prog.depth 43 = false := by kernel_rfl
theorem fl26_0 : Fld Tryd.prog 26 0 0 22 := Fld.of (k := 0) (by kernel_rfl)
theorem fl40_0 : Fld Tryd.prog 40 0 0 4 := Fld.of (k := 0) (by kernel_rfl)
theorem fl40_1 : Fld Tryd.prog 40 1 1 38 := Fld.of (k := 0) (by kernel_rfl)
theorem fl46_0 : Fld Tryd.prog 46 0 0 3 := Fld.of (k := 0) (by kernel_rfl)
theorem fl46_1 : Fld Tryd.prog 46 1 1 43 := Fld.of (k := 3) (by kernel_rfl)
theorem fl46_2 : Fld Tryd.prog 46 2 5 44 := Fld.of (k := 0) (by kernel_rfl)
theorem fl50_0 : Fld Tryd.prog 50 0 0 5 := Fld.of (k := 0) (by kernel_rfl)
theorem fl50_1 : Fld Tryd.prog 50 1 1 5 := Fld.of (k := 0) (by kernel_rfl)
theorem fl50_2 : Fld Tryd.prog 50 2 2 3 := Fld.of (k := 0) (by kernel_rfl)
theorem fl62_0 : Fld Tryd.prog 62 0 0 59 := Fld.of (k := 0) (by kernel_rfl)
theorem fl62_1 : Fld Tryd.prog 62 1 1 60 := Fld.of (k := 0) (by kernel_rfl)
theorem fl62_2 : Fld Tryd.prog 62 2 2 3 := Fld.of (k := 0) (by kernel_rfl)
theorem fl71_0 : Fld Tryd.prog 71 0 0 67 := Fld.of (k := 0) (by kernel_rfl)
theorem fl71_1 : Fld Tryd.prog 71 1 1 59 := Fld.of (k := 0) (by kernel_rfl)
theorem fl71_2 : Fld Tryd.prog 71 2 2 69 := Fld.of (k := 0) (by kernel_rfl)
theorem fl71_3 : Fld Tryd.prog 71 3 3 67 := Fld.of (k := 0) (by kernel_rfl)
theorem fl81_0 : Fld Tryd.prog 81 0 0 43 := Fld.of (k := 3) (by kernel_rfl)
theorem fl81_1 : Fld Tryd.prog 81 1 4 3 := Fld.of (k := 0) (by kernel_rfl)
theorem fl81_2 : Fld Tryd.prog 81 2 5 3 := Fld.of (k := 0) (by kernel_rfl)
theorem fl94_0 : Fld Tryd.prog 94 0 0 43 := Fld.of (k := 3) (by kernel_rfl)
theorem fl94_1 : Fld Tryd.prog 94 1 4 3 := Fld.of (k := 0) (by kernel_rfl)
theorem fl105_0 : Fld Tryd.prog 105 0 0 102 := Fld.of (k := 0) (by kernel_rfl)
theorem fl105_1 : Fld Tryd.prog 105 1 1 103 := Fld.of (k := 0) (by kernel_rfl)
theorem ints50 : intsB Tryd.prog 50 [.u8, .u8, .i64] = true := by kernel_rfl
theorem plf26 : placesOf Tryd.prog 26 = some [(0, 1)] := by kernel_rfl
theorem plf40 : placesOf Tryd.prog 40 = some [(0, 1), (1, 1)] := by kernel_rfl
theorem plf46 : placesOf Tryd.prog 46 = some [(0, 1), (1, 4), (5, 1)] := by kernel_rfl
theorem plf50 : placesOf Tryd.prog 50 = some [(0, 1), (1, 1), (2, 1)] := by kernel_rfl
theorem plf62 : placesOf Tryd.prog 62 = some [(0, 1), (1, 1), (2, 1)] := by kernel_rfl
theorem plf71 : placesOf Tryd.prog 71 = some [(0, 1), (1, 1), (2, 1), (3, 1)] := by kernel_rfl
theorem plf81 : placesOf Tryd.prog 81 = some [(0, 4), (4, 1), (5, 1)] := by kernel_rfl
theorem plf94 : placesOf Tryd.prog 94 = some [(0, 4), (4, 1)] := by kernel_rfl
theorem plf105 : placesOf Tryd.prog 105 = some [(0, 1), (1, 1)] := by kernel_rfl
end Go.Proofs.YtjmbmodmepdmjaaDoor
