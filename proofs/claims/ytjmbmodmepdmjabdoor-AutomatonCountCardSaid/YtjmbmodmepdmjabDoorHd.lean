/- Closed facts on the types and functions of this seat. -/
import Derived.Test.YtjmbmodmepdmjabDoorRows
import Derived.Test.YtjmbmodmepdmjabDoorK3
namespace Go.Proofs.YtjmbmodmepdmjabDoor
open Go.GK

theorem follows : Tryd.prog.follows .mixedOrders = true := by kernel_rfl
theorem ti3 : TI Tryd.prog 3 1 8 (.int .i64 0) := TI.of (by kernel_rfl)
theorem ti4 : TI Tryd.prog 4 1 1 (.bool false) := TI.of (by kernel_rfl)
theorem ti5 : TI Tryd.prog 5 1 1 (.int .u8 0) := TI.of (by kernel_rfl)
theorem ti9 : TI Tryd.prog 9 1 16 (.string ByteArray.empty) := TI.of (by kernel_rfl)
theorem ti22 : TI Tryd.prog 22 1 24 (.slice none 0 0) := TI.of (by kernel_rfl)
theorem ti27 : TI Tryd.prog 27 3 16 (.agg #[.int .u8 0, .int .u8 0, .int .i64 0]) := TI.of (by kernel_rfl)
theorem ti28 : TI Tryd.prog 28 1 24 (.slice none 0 0) := TI.of (by kernel_rfl)
theorem ti30 : TI Tryd.prog 30 2 32 (.agg #[.bool false, .slice none 0 0]) := TI.of (by kernel_rfl)
theorem ti32 : TI Tryd.prog 32 1 24 (.agg #[.slice none 0 0]) := TI.of (by kernel_rfl)
theorem ti38 : TI Tryd.prog 38 1 8 (.int .u64 0) := TI.of (by kernel_rfl)
theorem ti40 : TI Tryd.prog 40 4 32 (.agg #[.int .u64 0, .int .u64 0, .int .u64 0, .int .u64 0]) := TI.of (by kernel_rfl)
theorem ti41 : TI Tryd.prog 41 1 24 (.slice none 0 0) := TI.of (by kernel_rfl)
theorem ti43 : TI Tryd.prog 43 6 64 (.agg #[.int .i64 0, .int .u64 0, .int .u64 0, .int .u64 0, .int .u64 0, .slice none 0 0]) := TI.of (by kernel_rfl)
theorem ti58 : TI Tryd.prog 58 1 24 (.slice none 0 0) := TI.of (by kernel_rfl)
theorem ti59 : TI Tryd.prog 59 1 24 (.slice none 0 0) := TI.of (by kernel_rfl)
theorem ti61 : TI Tryd.prog 61 3 56 (.agg #[.slice none 0 0, .slice none 0 0, .int .i64 0]) := TI.of (by kernel_rfl)
theorem ti66 : TI Tryd.prog 66 1 24 (.slice none 0 0) := TI.of (by kernel_rfl)
theorem ti68 : TI Tryd.prog 68 1 24 (.slice none 0 0) := TI.of (by kernel_rfl)
theorem ti70 : TI Tryd.prog 70 4 96 (.agg #[.slice none 0 0, .slice none 0 0, .slice none 0 0, .slice none 0 0]) := TI.of (by kernel_rfl)
theorem ti78 : TI Tryd.prog 78 1 24 (.slice none 0 0) := TI.of (by kernel_rfl)
theorem ti80 : TI Tryd.prog 80 6 48 (.agg #[.int .u64 0, .int .u64 0, .int .u64 0, .int .u64 0, .int .i64 0, .int .i64 0]) := TI.of (by kernel_rfl)
theorem ti81 : TI Tryd.prog 81 1 24 (.slice none 0 0) := TI.of (by kernel_rfl)
theorem ti91 : TI Tryd.prog 91 1 24 (.slice none 0 0) := TI.of (by kernel_rfl)
theorem ti93 : TI Tryd.prog 93 5 40 (.agg #[.int .u64 0, .int .u64 0, .int .u64 0, .int .u64 0, .int .i64 0]) := TI.of (by kernel_rfl)
theorem ti95 : TI Tryd.prog 95 1 24 (.slice none 0 0) := TI.of (by kernel_rfl)
theorem ti97 : TI Tryd.prog 97 2 2 (.agg #[.int .u8 0, .int .u8 0]) := TI.of (by kernel_rfl)
theorem ti100 : TI Tryd.prog 100 257 257 (.agg (List.replicate 257 (.bool false)).toArray) := TI.of (by kernel_rfl)
theorem ti101 : TI Tryd.prog 101 1 8 (.pointer none) := TI.of (by kernel_rfl)
theorem ti102 : TI Tryd.prog 102 1 24 (.slice none 0 0) := TI.of (by kernel_rfl)
theorem ti104 : TI Tryd.prog 104 2 32 (.agg #[.pointer none, .slice none 0 0]) := TI.of (by kernel_rfl)
theorem ti113 : TI Tryd.prog 113 8 64 (.agg #[.int .u64 0, .int .u64 0, .int .u64 0, .int .u64 0, .int .u64 0, .int .u64 0, .int .u64 0, .int .u64 0]) := TI.of (by kernel_rfl)
theorem ent3 : Ent Tryd.prog 3 := ⟨Tryd.f3, Tryd.func3, by kernel_rfl, rfl⟩
theorem ent4 : Ent Tryd.prog 4 := ⟨Tryd.f4, Tryd.func4, by kernel_rfl, rfl⟩
theorem ent5 : Ent Tryd.prog 5 := ⟨Tryd.f5, Tryd.func5, by kernel_rfl, rfl⟩
theorem ent6 : Ent Tryd.prog 6 := ⟨Tryd.f6, Tryd.func6, by kernel_rfl, rfl⟩
theorem ent7 : Ent Tryd.prog 7 := ⟨Tryd.f7, Tryd.func7, by kernel_rfl, rfl⟩
theorem ent8 : Ent Tryd.prog 8 := ⟨Tryd.f8, Tryd.func8, by kernel_rfl, rfl⟩
theorem ent9 : Ent Tryd.prog 9 := ⟨Tryd.f9, Tryd.func9, by kernel_rfl, rfl⟩
theorem ent10 : Ent Tryd.prog 10 := ⟨Tryd.f10, Tryd.func10, by kernel_rfl, rfl⟩
theorem ent11 : Ent Tryd.prog 11 := ⟨Tryd.f11, Tryd.func11, by kernel_rfl, rfl⟩
theorem ent12 : Ent Tryd.prog 12 := ⟨Tryd.f12, Tryd.func12, by kernel_rfl, rfl⟩
theorem ent13 : Ent Tryd.prog 13 := ⟨Tryd.f13, Tryd.func13, by kernel_rfl, rfl⟩
theorem ent14 : Ent Tryd.prog 14 := ⟨Tryd.f14, Tryd.func14, by kernel_rfl, rfl⟩
theorem ent15 : Ent Tryd.prog 15 := ⟨Tryd.f15, Tryd.func15, by kernel_rfl, rfl⟩
theorem ent16 : Ent Tryd.prog 16 := ⟨Tryd.f16, Tryd.func16, by kernel_rfl, rfl⟩
theorem ent17 : Ent Tryd.prog 17 := ⟨Tryd.f17, Tryd.func17, by kernel_rfl, rfl⟩
theorem ent18 : Ent Tryd.prog 18 := ⟨Tryd.f18, Tryd.func18, by kernel_rfl, rfl⟩
theorem ent19 : Ent Tryd.prog 19 := ⟨Tryd.f19, Tryd.func19, by kernel_rfl, rfl⟩
theorem ent20 : Ent Tryd.prog 20 := ⟨Tryd.f20, Tryd.func20, by kernel_rfl, rfl⟩
theorem ent21 : Ent Tryd.prog 21 := ⟨Tryd.f21, Tryd.func21, by kernel_rfl, rfl⟩
theorem ent22 : Ent Tryd.prog 22 := ⟨Tryd.f22, Tryd.func22, by kernel_rfl, rfl⟩
theorem ent23 : Ent Tryd.prog 23 := ⟨Tryd.f23, Tryd.func23, by kernel_rfl, rfl⟩
theorem ent24 : Ent Tryd.prog 24 := ⟨Tryd.f24, Tryd.func24, by kernel_rfl, rfl⟩
theorem ent25 : Ent Tryd.prog 25 := ⟨Tryd.f25, Tryd.func25, by kernel_rfl, rfl⟩
theorem ent26 : Ent Tryd.prog 26 := ⟨Tryd.f26, Tryd.func26, by kernel_rfl, rfl⟩
theorem ent27 : Ent Tryd.prog 27 := ⟨Tryd.f27, Tryd.func27, by kernel_rfl, rfl⟩
theorem ent28 : Ent Tryd.prog 28 := ⟨Tryd.f28, Tryd.func28, by kernel_rfl, rfl⟩
theorem ent29 : Ent Tryd.prog 29 := ⟨Tryd.f29, Tryd.func29, by kernel_rfl, rfl⟩
theorem ent30 : Ent Tryd.prog 30 := ⟨Tryd.f30, Tryd.func30, by kernel_rfl, rfl⟩
theorem ent31 : Ent Tryd.prog 31 := ⟨Tryd.f31, Tryd.func31, by kernel_rfl, rfl⟩
theorem ent32 : Ent Tryd.prog 32 := ⟨Tryd.f32, Tryd.func32, by kernel_rfl, rfl⟩
theorem ent33 : Ent Tryd.prog 33 := ⟨Tryd.f33, Tryd.func33, by kernel_rfl, rfl⟩
theorem ent34 : Ent Tryd.prog 34 := ⟨Tryd.f34, Tryd.func34, by kernel_rfl, rfl⟩
theorem ent35 : Ent Tryd.prog 35 := ⟨Tryd.f35, Tryd.func35, by kernel_rfl, rfl⟩
theorem ent36 : Ent Tryd.prog 36 := ⟨Tryd.f36, Tryd.func36, by kernel_rfl, rfl⟩
theorem ent37 : Ent Tryd.prog 37 := ⟨Tryd.f37, Tryd.func37, by kernel_rfl, rfl⟩
theorem ent38 : Ent Tryd.prog 38 := ⟨Tryd.f38, Tryd.func38, by kernel_rfl, rfl⟩
theorem ent39 : Ent Tryd.prog 39 := ⟨Tryd.f39, Tryd.func39, by kernel_rfl, rfl⟩
theorem ent40 : Ent Tryd.prog 40 := ⟨Tryd.f40, Tryd.func40, by kernel_rfl, rfl⟩
theorem ent41 : Ent Tryd.prog 41 := ⟨Tryd.f41, Tryd.func41, by kernel_rfl, rfl⟩
theorem ent42 : Ent Tryd.prog 42 := ⟨Tryd.f42, Tryd.func42, by kernel_rfl, rfl⟩
theorem ent43 : Ent Tryd.prog 43 := ⟨Tryd.f43, Tryd.func43, by kernel_rfl, rfl⟩
theorem ent44 : Ent Tryd.prog 44 := ⟨Tryd.f44, Tryd.func44, by kernel_rfl, rfl⟩
theorem ent45 : Ent Tryd.prog 45 := ⟨Tryd.f45, Tryd.func45, by kernel_rfl, rfl⟩
theorem ent46 : Ent Tryd.prog 46 := ⟨Tryd.f46, Tryd.func46, by kernel_rfl, rfl⟩
theorem ent47 : Ent Tryd.prog 47 := ⟨Tryd.f47, Tryd.func47, by kernel_rfl, rfl⟩
theorem ent48 : Ent Tryd.prog 48 := ⟨Tryd.f48, Tryd.func48, by kernel_rfl, rfl⟩
theorem ent49 : Ent Tryd.prog 49 := ⟨Tryd.f49, Tryd.func49, by kernel_rfl, rfl⟩
theorem ent50 : Ent Tryd.prog 50 := ⟨Tryd.f50, Tryd.func50, by kernel_rfl, rfl⟩
theorem ent51 : Ent Tryd.prog 51 := ⟨Tryd.f51, Tryd.func51, by kernel_rfl, rfl⟩
theorem ent52 : Ent Tryd.prog 52 := ⟨Tryd.f52, Tryd.func52, by kernel_rfl, rfl⟩
theorem ent55 : Ent Tryd.prog 55 := ⟨Tryd.f55, Tryd.func55, by kernel_rfl, rfl⟩
theorem ent57 : Ent Tryd.prog 57 := ⟨Tryd.f57, Tryd.func57, by kernel_rfl, rfl⟩
theorem eqg39 : Tryd.prog.eqGuardType Tryd.prog.depth 39 = false := by kernel_rfl
theorem eqg40 : Tryd.prog.eqGuardType Tryd.prog.depth 40 = false := by kernel_rfl
theorem fl27_0 : Fld Tryd.prog 27 0 0 5 := Fld.of (k := 0) (by kernel_rfl)
theorem fl27_1 : Fld Tryd.prog 27 1 1 5 := Fld.of (k := 0) (by kernel_rfl)
theorem fl27_2 : Fld Tryd.prog 27 2 2 3 := Fld.of (k := 0) (by kernel_rfl)
theorem fl30_0 : Fld Tryd.prog 30 0 0 4 := Fld.of (k := 0) (by kernel_rfl)
theorem fl30_1 : Fld Tryd.prog 30 1 1 28 := Fld.of (k := 0) (by kernel_rfl)
theorem fl32_0 : Fld Tryd.prog 32 0 0 22 := Fld.of (k := 0) (by kernel_rfl)
theorem fl43_0 : Fld Tryd.prog 43 0 0 3 := Fld.of (k := 0) (by kernel_rfl)
theorem fl43_1 : Fld Tryd.prog 43 1 1 40 := Fld.of (k := 3) (by kernel_rfl)
theorem fl43_2 : Fld Tryd.prog 43 2 5 41 := Fld.of (k := 0) (by kernel_rfl)
theorem fl61_0 : Fld Tryd.prog 61 0 0 58 := Fld.of (k := 0) (by kernel_rfl)
theorem fl61_1 : Fld Tryd.prog 61 1 1 59 := Fld.of (k := 0) (by kernel_rfl)
theorem fl61_2 : Fld Tryd.prog 61 2 2 3 := Fld.of (k := 0) (by kernel_rfl)
theorem fl70_0 : Fld Tryd.prog 70 0 0 66 := Fld.of (k := 0) (by kernel_rfl)
theorem fl70_1 : Fld Tryd.prog 70 1 1 58 := Fld.of (k := 0) (by kernel_rfl)
theorem fl70_2 : Fld Tryd.prog 70 2 2 68 := Fld.of (k := 0) (by kernel_rfl)
theorem fl70_3 : Fld Tryd.prog 70 3 3 66 := Fld.of (k := 0) (by kernel_rfl)
theorem fl80_0 : Fld Tryd.prog 80 0 0 40 := Fld.of (k := 3) (by kernel_rfl)
theorem fl80_1 : Fld Tryd.prog 80 1 4 3 := Fld.of (k := 0) (by kernel_rfl)
theorem fl80_2 : Fld Tryd.prog 80 2 5 3 := Fld.of (k := 0) (by kernel_rfl)
theorem fl93_0 : Fld Tryd.prog 93 0 0 40 := Fld.of (k := 3) (by kernel_rfl)
theorem fl93_1 : Fld Tryd.prog 93 1 4 3 := Fld.of (k := 0) (by kernel_rfl)
theorem fl104_0 : Fld Tryd.prog 104 0 0 101 := Fld.of (k := 0) (by kernel_rfl)
theorem fl104_1 : Fld Tryd.prog 104 1 1 102 := Fld.of (k := 0) (by kernel_rfl)
theorem ints27 : intsB Tryd.prog 27 [.u8, .u8, .i64] = true := by kernel_rfl
theorem plf27 : placesOf Tryd.prog 27 = some [(0, 1), (1, 1), (2, 1)] := by kernel_rfl
theorem plf30 : placesOf Tryd.prog 30 = some [(0, 1), (1, 1)] := by kernel_rfl
theorem plf32 : placesOf Tryd.prog 32 = some [(0, 1)] := by kernel_rfl
theorem plf43 : placesOf Tryd.prog 43 = some [(0, 1), (1, 4), (5, 1)] := by kernel_rfl
theorem plf61 : placesOf Tryd.prog 61 = some [(0, 1), (1, 1), (2, 1)] := by kernel_rfl
theorem plf70 : placesOf Tryd.prog 70 = some [(0, 1), (1, 1), (2, 1), (3, 1)] := by kernel_rfl
theorem plf80 : placesOf Tryd.prog 80 = some [(0, 4), (4, 1), (5, 1)] := by kernel_rfl
theorem plf93 : placesOf Tryd.prog 93 = some [(0, 4), (4, 1)] := by kernel_rfl
theorem plf104 : placesOf Tryd.prog 104 = some [(0, 1), (1, 1)] := by kernel_rfl
abbrev u1 := Tryd.underlying1
abbrev u2 := Tryd.underlying2
abbrev u3 := Tryd.underlying3
abbrev u4 := Tryd.underlying4
abbrev u5 := Tryd.underlying5
abbrev u8 := Tryd.underlying8
abbrev u9 := Tryd.underlying9
abbrev u22 := Tryd.underlying22
abbrev u27 := Tryd.underlying27
abbrev u28 := Tryd.underlying28
abbrev u30 := Tryd.underlying30
abbrev u32 := Tryd.underlying32
abbrev u38 := Tryd.underlying38
abbrev u40 := Tryd.underlying40
abbrev u41 := Tryd.underlying41
abbrev u43 := Tryd.underlying43
abbrev u58 := Tryd.underlying58
abbrev u59 := Tryd.underlying59
abbrev u64 := Tryd.underlying64
abbrev u66 := Tryd.underlying66
abbrev u68 := Tryd.underlying68
abbrev u72 := Tryd.underlying72
abbrev u75 := Tryd.underlying75
abbrev u78 := Tryd.underlying78
abbrev u80 := Tryd.underlying80
abbrev u81 := Tryd.underlying81
abbrev u84 := Tryd.underlying84
abbrev u91 := Tryd.underlying91
abbrev u93 := Tryd.underlying93
abbrev u95 := Tryd.underlying95
abbrev u97 := Tryd.underlying97
abbrev u100 := Tryd.underlying100
end Go.Proofs.YtjmbmodmepdmjabDoor
