/- Closed facts on the types and functions of this seat. -/
import Derived.Test.YthhhdpcbkkldgaaRows
import Derived.Test.YthhhdpcbkkldgaaRgLaw
import Derived.Test.YthhhdpcbkkldgaaPtLaw
import Derived.Test.YthhhdpcbkkldgaaKitRead
import Derived.Test.YthhhdpcbkkldgaaBsRead
namespace Go.Proofs.Ythhhdpcbkkldgaa
open Go.GK

theorem follows : Try.prog.follows .mixedOrders = true := by kernel_rfl
theorem ti3 : TI Try.prog 3 1 8 (.int .i64 0) := TI.of (by kernel_rfl)
theorem ti5 : TI Try.prog 5 1 1 (.int .u8 0) := TI.of (by kernel_rfl)
theorem ti22 : TI Try.prog 22 1 8 (.int .u64 0) := TI.of (by kernel_rfl)
theorem ti24 : TI Try.prog 24 4 32 (.agg #[.int .u64 0, .int .u64 0, .int .u64 0, .int .u64 0]) := TI.of (by kernel_rfl)
theorem ti33 : TI Try.prog 33 1 24 (.slice none 0 0) := TI.of (by kernel_rfl)
theorem ti39 : TI Try.prog 39 1 24 (.slice none 0 0) := TI.of (by kernel_rfl)
theorem ti41 : TI Try.prog 41 1 24 (.slice none 0 0) := TI.of (by kernel_rfl)
theorem ti43 : TI Try.prog 43 2 2 (.agg #[.int .u8 0, .int .u8 0]) := TI.of (by kernel_rfl)
theorem ti44 : TI Try.prog 44 2 16 (.agg #[.int .i64 0, .int .i64 0]) := TI.of (by kernel_rfl)
theorem ti45 : TI Try.prog 45 1 24 (.slice none 0 0) := TI.of (by kernel_rfl)
theorem ti53 : TI Try.prog 53 8 64 (.agg #[.int .u64 0, .int .u64 0, .int .u64 0, .int .u64 0, .int .u64 0, .int .u64 0, .int .u64 0, .int .u64 0]) := TI.of (by kernel_rfl)
theorem ent3 : Ent Try.prog 3 := ⟨Try.f3, Try.func3, by kernel_rfl, rfl⟩
theorem ent4 : Ent Try.prog 4 := ⟨Try.f4, Try.func4, by kernel_rfl, rfl⟩
theorem ent5 : Ent Try.prog 5 := ⟨Try.f5, Try.func5, by kernel_rfl, rfl⟩
theorem ent6 : Ent Try.prog 6 := ⟨Try.f6, Try.func6, by kernel_rfl, rfl⟩
theorem ent7 : Ent Try.prog 7 := ⟨Try.f7, Try.func7, by kernel_rfl, rfl⟩
theorem ent8 : Ent Try.prog 8 := ⟨Try.f8, Try.func8, by kernel_rfl, rfl⟩
theorem ent9 : Ent Try.prog 9 := ⟨Try.f9, Try.func9, by kernel_rfl, rfl⟩
theorem ent10 : Ent Try.prog 10 := ⟨Try.f10, Try.func10, by kernel_rfl, rfl⟩
theorem ent11 : Ent Try.prog 11 := ⟨Try.f11, Try.func11, by kernel_rfl, rfl⟩
theorem ent12 : Ent Try.prog 12 := ⟨Try.f12, Try.func12, by kernel_rfl, rfl⟩
theorem ent13 : Ent Try.prog 13 := ⟨Try.f13, Try.func13, by kernel_rfl, rfl⟩
theorem ent14 : Ent Try.prog 14 := ⟨Try.f14, Try.func14, by kernel_rfl, rfl⟩
theorem ent15 : Ent Try.prog 15 := ⟨Try.f15, Try.func15, by kernel_rfl, rfl⟩
theorem ent16 : Ent Try.prog 16 := ⟨Try.f16, Try.func16, by kernel_rfl, rfl⟩
theorem ent17 : Ent Try.prog 17 := ⟨Try.f17, Try.func17, by kernel_rfl, rfl⟩
theorem ent18 : Ent Try.prog 18 := ⟨Try.f18, Try.func18, by kernel_rfl, rfl⟩
theorem ent19 : Ent Try.prog 19 := ⟨Try.f19, Try.func19, by kernel_rfl, rfl⟩
theorem ent20 : Ent Try.prog 20 := ⟨Try.f20, Try.func20, by kernel_rfl, rfl⟩
theorem ent21 : Ent Try.prog 21 := ⟨Try.f21, Try.func21, by kernel_rfl, rfl⟩
theorem ent22 : Ent Try.prog 22 := ⟨Try.f22, Try.func22, by kernel_rfl, rfl⟩
theorem ent23 : Ent Try.prog 23 := ⟨Try.f23, Try.func23, by kernel_rfl, rfl⟩
theorem ent24 : Ent Try.prog 24 := ⟨Try.f24, Try.func24, by kernel_rfl, rfl⟩
theorem ent25 : Ent Try.prog 25 := ⟨Try.f25, Try.func25, by kernel_rfl, rfl⟩
theorem ent26 : Ent Try.prog 26 := ⟨Try.f26, Try.func26, by kernel_rfl, rfl⟩
theorem ent27 : Ent Try.prog 27 := ⟨Try.f27, Try.func27, by kernel_rfl, rfl⟩
theorem ent28 : Ent Try.prog 28 := ⟨Try.f28, Try.func28, by kernel_rfl, rfl⟩
theorem ent29 : Ent Try.prog 29 := ⟨Try.f29, Try.func29, by kernel_rfl, rfl⟩
theorem ent30 : Ent Try.prog 30 := ⟨Try.f30, Try.func30, by kernel_rfl, rfl⟩
theorem ent31 : Ent Try.prog 31 := ⟨Try.f31, Try.func31, by kernel_rfl, rfl⟩
theorem ent32 : Ent Try.prog 32 := ⟨Try.f32, Try.func32, by kernel_rfl, rfl⟩
theorem ent33 : Ent Try.prog 33 := ⟨Try.f33, Try.func33, by kernel_rfl, rfl⟩
theorem eqg24 : Try.prog.eqGuardType Try.prog.depth 24 = false := by kernel_rfl
theorem eqg43 : Try.prog.eqGuardType Try.prog.depth 43 = false := by kernel_rfl
end Go.Proofs.Ythhhdpcbkkldgaa
