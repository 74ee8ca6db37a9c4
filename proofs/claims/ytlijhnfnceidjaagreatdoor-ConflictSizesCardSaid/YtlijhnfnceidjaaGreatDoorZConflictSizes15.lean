/- Part 15 of the texts of this claim: what its theorem leans on. -/
import Derived.Test.YtlijhnfnceidjaaGreatDoorZConflictSizes14
import Derived.KernelRfl
namespace Go.GV
open Go Go.GK Go.Proofs
def la256 : Nat → Option Pat := fun _ => none
def pr256 : Nat → List Gh := fun _ => []
def po256 : Nat → List Gh := fun _ => []
noncomputable def ph256 (fu : Nat) : Nat → Option (CQ (nEs [(80, 0), (81, 0), (88, 1), (89, 1), (110, 2), (111, 2)] [2, 2, 5]))
  | 13 => some (.dat (Q255 fu))
  | _ => none
theorem h256 (fu : Nat) : ∀ f q, ph256 fu f = some q → SoundC Tryz.prog f q := by
  intro f q h
  unfold ph256 at h
  split at h
  · cases h; exact zs255 fu
  · cases h
noncomputable def cx256 (fu : Nat) : Cx (nEs [(80, 0), (81, 0), (88, 1), (89, 1), (110, 2), (111, 2)] [2, 2, 5]) := ⟨Tryz.prog, ph256 fu, la256, fun _ => none, pr256, po256, 0, 13⟩
noncomputable def Q256 (fu : Nat) : FQ (nEs [(80, 0), (81, 0), (88, 1), (89, 1), (110, 2), (111, 2)] [2, 2, 5]) := ⟨[(.int .i64), (.int .i64)], [(.st (.pr (.st (.pr .bool (.pr (.st (.pr .bool (.pr .bool (.pr .bool (.pr (.st (.pr (.sl (.st (.pr (.int .i64) (.int .i64)))) (.sl (.st (.pr (.int .i64) (.int .i64)))))) (.st (.sl (.st (.pr .bool (.sl (.st (.pr (.int .u8) (.pr (.int .u8) (.int .i64)))))))))))))) (.pr (.sl (.nm 0)) (.sl (.nm 1)))))) (.st (.pr .bool (.pr (.st (.pr .bool (.pr .bool (.pr .bool (.pr (.st (.pr (.sl (.st (.pr (.int .i64) (.int .i64)))) (.sl (.st (.pr (.int .i64) (.int .i64)))))) (.st (.sl (.st (.pr .bool (.sl (.st (.pr (.int .u8) (.pr (.int .u8) (.int .i64)))))))))))))) (.pr (.sl (.nm 0)) (.sl (.nm 1))))))))], fden (cx256 fu) fu Tryz.f5 [(.int .i64), (.int .i64)] [(.st (.pr (.st (.pr .bool (.pr (.st (.pr .bool (.pr .bool (.pr .bool (.pr (.st (.pr (.sl (.st (.pr (.int .i64) (.int .i64)))) (.sl (.st (.pr (.int .i64) (.int .i64)))))) (.st (.sl (.st (.pr .bool (.sl (.st (.pr (.int .u8) (.pr (.int .u8) (.int .i64)))))))))))))) (.pr (.sl (.nm 0)) (.sl (.nm 1)))))) (.st (.pr .bool (.pr (.st (.pr .bool (.pr .bool (.pr .bool (.pr (.st (.pr (.sl (.st (.pr (.int .i64) (.int .i64)))) (.sl (.st (.pr (.int .i64) (.int .i64)))))) (.st (.sl (.st (.pr .bool (.sl (.st (.pr (.int .u8) (.pr (.int .u8) (.int .i64)))))))))))))) (.pr (.sl (.nm 0)) (.sl (.nm 1))))))))]⟩
theorem zs256 (fu : Nat) : SoundQ Tryz.prog 5 (Q256 fu) := fden_ok (cx := cx256 fu) (h256 fu) follows ent5 Tryz.func5 rfl rfl
def la257 : Nat → Option Pat
  | 2 => some ⟨[.nat], [(0, .keep), (5, .keep), (6, .keep), (7, .cnt 0 200)], [], 0⟩
  | _ => none
def pr257 : Nat → List Gh := fun _ => []
def po257 : Nat → List Gh := fun _ => []
noncomputable def ph257 (fu : Nat) : Nat → Option (CQ (nEs [(80, 0), (81, 0), (88, 1), (89, 1), (110, 2), (111, 2)] [2, 2, 5]))
  | 21 => some (.dat (T151 fu))
  | _ => none
theorem h257 (fu : Nat) : ∀ f q, ph257 fu f = some q → SoundC Tryz.prog f q := by
  intro f q h
  unfold ph257 at h
  split at h
  · cases h; exact zt151 fu
  · cases h
noncomputable def cx257 (fu : Nat) : Cx (nEs [(80, 0), (81, 0), (88, 1), (89, 1), (110, 2), (111, 2)] [2, 2, 5]) := ⟨Tryz.prog, ph257 fu, la257, fun _ => none, pr257, po257, 0, 18⟩
noncomputable def Q257 (fu : Nat) : FQ (nEs [(80, 0), (81, 0), (88, 1), (89, 1), (110, 2), (111, 2)] [2, 2, 5]) := ⟨[(.sl (.st (.pr (.st (.pr .bool (.pr (.st (.pr .bool (.pr .bool (.pr .bool (.pr (.st (.pr (.sl (.st (.pr (.int .i64) (.int .i64)))) (.sl (.st (.pr (.int .i64) (.int .i64)))))) (.st (.sl (.st (.pr .bool (.sl (.st (.pr (.int .u8) (.pr (.int .u8) (.int .i64)))))))))))))) (.pr (.sl (.nm 0)) (.sl (.nm 1)))))) (.st (.pr .bool (.pr (.st (.pr .bool (.pr .bool (.pr .bool (.pr (.st (.pr (.sl (.st (.pr (.int .i64) (.int .i64)))) (.sl (.st (.pr (.int .i64) (.int .i64)))))) (.st (.sl (.st (.pr .bool (.sl (.st (.pr (.int .u8) (.pr (.int .u8) (.int .i64)))))))))))))) (.pr (.sl (.nm 0)) (.sl (.nm 1)))))))))], [(.int .i64)], fden (cx257 fu) fu Tryz.f14 [(.sl (.st (.pr (.st (.pr .bool (.pr (.st (.pr .bool (.pr .bool (.pr .bool (.pr (.st (.pr (.sl (.st (.pr (.int .i64) (.int .i64)))) (.sl (.st (.pr (.int .i64) (.int .i64)))))) (.st (.sl (.st (.pr .bool (.sl (.st (.pr (.int .u8) (.pr (.int .u8) (.int .i64)))))))))))))) (.pr (.sl (.nm 0)) (.sl (.nm 1)))))) (.st (.pr .bool (.pr (.st (.pr .bool (.pr .bool (.pr .bool (.pr (.st (.pr (.sl (.st (.pr (.int .i64) (.int .i64)))) (.sl (.st (.pr (.int .i64) (.int .i64)))))) (.st (.sl (.st (.pr .bool (.sl (.st (.pr (.int .u8) (.pr (.int .u8) (.int .i64)))))))))))))) (.pr (.sl (.nm 0)) (.sl (.nm 1)))))))))] [(.int .i64)]⟩
theorem zs257 (fu : Nat) : SoundQ Tryz.prog 14 (Q257 fu) := fden_ok (cx := cx257 fu) (h257 fu) follows ent14 Tryz.func14 rfl rfl
def la271 : Nat → Option Pat
  | 2 => some ⟨[.nat], [(0, .keep), (1, .keep), (9, .keep), (10, .keep), (11, .cnt 0 200)], [], 0⟩
  | _ => none
def pr271 : Nat → List Gh := fun _ => []
def po271 : Nat → List Gh := fun _ => []
noncomputable def ph271 (fu : Nat) : Nat → Option (CQ (nEs [(80, 0), (81, 0), (88, 1), (89, 1), (110, 2), (111, 2)] [2, 2, 5]))
  | 26 => some (.dat (Q117 fu))
  | _ => none
theorem h271 (fu : Nat) : ∀ f q, ph271 fu f = some q → SoundC Tryz.prog f q := by
  intro f q h
  unfold ph271 at h
  split at h
  · cases h; exact zs117 fu
  · cases h
noncomputable def cx271 (fu : Nat) : Cx (nEs [(80, 0), (81, 0), (88, 1), (89, 1), (110, 2), (111, 2)] [2, 2, 5]) := ⟨Tryz.prog, ph271 fu, la271, fun _ => none, pr271, po271, 0, 36⟩
noncomputable def Q271 (fu : Nat) : FQ (nEs [(80, 0), (81, 0), (88, 1), (89, 1), (110, 2), (111, 2)] [2, 2, 5]) := ⟨[(.sl (.int .i64)), (.sl (.int .i64))], [(.int .i64)], fden (cx271 fu) fu Tryz.f27 [(.sl (.int .i64)), (.sl (.int .i64))] [(.int .i64)]⟩
theorem zs271 (fu : Nat) : SoundQ Tryz.prog 27 (Q271 fu) := fden_ok (cx := cx271 fu) (h271 fu) follows ent27 Tryz.func27 rfl rfl
def la272 : Nat → Option Pat := fun _ => none
def pr272 : Nat → List Gh := fun _ => []
def po272 : Nat → List Gh := fun _ => []
noncomputable def ph272 (fu : Nat) : Nat → Option (CQ (nEs [(80, 0), (81, 0), (88, 1), (89, 1), (110, 2), (111, 2)] [2, 2, 5]))
  | 25 => some (.dat (Q120 fu))
  | 26 => some (.dat (Q117 fu))
  | 27 => some (.dat (Q271 fu))
  | _ => none
theorem h272 (fu : Nat) : ∀ f q, ph272 fu f = some q → SoundC Tryz.prog f q := by
  intro f q h
  unfold ph272 at h
  split at h
  · cases h; exact zs120 fu
  · cases h; exact zs117 fu
  · cases h; exact zs271 fu
  · cases h
noncomputable def cx272 (fu : Nat) : Cx (nEs [(80, 0), (81, 0), (88, 1), (89, 1), (110, 2), (111, 2)] [2, 2, 5]) := ⟨Tryz.prog, ph272 fu, la272, fun _ => none, pr272, po272, 0, 15⟩
noncomputable def Q272 (fu : Nat) : FQ (nEs [(80, 0), (81, 0), (88, 1), (89, 1), (110, 2), (111, 2)] [2, 2, 5]) := ⟨[(.sl (.int .i64)), (.sl (.int .i64))], [(.int .i64)], fden (cx272 fu) fu Tryz.f24 [(.sl (.int .i64)), (.sl (.int .i64))] [(.int .i64)]⟩
theorem zs272 (fu : Nat) : SoundQ Tryz.prog 24 (Q272 fu) := fden_ok (cx := cx272 fu) (h272 fu) follows ent24 Tryz.func24 rfl rfl
def la273 : Nat → Option Pat
  | 1 => some ⟨[.dat (.sl (.sl (.int .i64))), .dat (.int .i64)], [(0, .keep), (1, .keep), (2, .keep), (3, .keep), (8, .v 1 (.int .i64))], [(0, .row 43 0)], 1⟩
  | 4 => some ⟨[.dat (.sl (.sl (.int .i64))), .dat (.int .i64)], [(0, .keep), (1, .keep), (2, .keep), (3, .keep), (8, .keep), (9, .v 1 (.int .i64))], [(0, .row 43 0)], 1⟩
  | _ => none
def pr273 : Nat → List Gh := fun _ => []
def po273 : Nat → List Gh := fun _ => []
noncomputable def ph273 (fu : Nat) : Nat → Option (CQ (nEs [(80, 0), (81, 0), (88, 1), (89, 1), (110, 2), (111, 2)] [2, 2, 5]))
  | 24 => some (.dat (Q272 fu))
  | _ => none
theorem h273 (fu : Nat) : ∀ f q, ph273 fu f = some q → SoundC Tryz.prog f q := by
  intro f q h
  unfold ph273 at h
  split at h
  · cases h; exact zs272 fu
  · cases h
noncomputable def cx273 (fu : Nat) : Cx (nEs [(80, 0), (81, 0), (88, 1), (89, 1), (110, 2), (111, 2)] [2, 2, 5]) := ⟨Tryz.prog, ph273 fu, la273, fun _ => none, pr273, po273, 1, 53⟩
def pi273 : Pat := ⟨[.dat (.int .i64), .dat (.int .i64), .dat (.sl (.sl (.int .i64)))], [(0, .hdr 0), (1, .v 0 (.int .i64)), (2, .v 1 (.int .i64)), (3, .clo 24 [] [])], [(0, .row 43 2)], 1⟩
def qo273 : Pat := ⟨[.dat (.sl (.sl (.int .i64)))], [], [(0, .row 43 0)], 1⟩
noncomputable def Q273 (fu : Nat) : PQ (nEs [(80, 0), (81, 0), (88, 1), (89, 1), (110, 2), (111, 2)] [2, 2, 5]) := ⟨pi273, qo273, 0, [], fdenP (cx273 fu) fu Tryz.f64 pi273 qo273 0⟩
theorem zs273 (fu : Nat) : SoundP Tryz.prog 64 (Q273 fu) := fdenP_ok (cx := cx273 fu) (h273 fu) follows ent64 Tryz.func64 rfl rfl
def la274 : Nat → Option Pat
  | 1 => some ⟨[.dat (.sl (.sl (.int .i64))), .dat (.int .i64)], [(0, .keep), (2, .keep), (3, .keep), (4, .keep), (10, .v 1 (.int .i64))], [(0, .row 43 0)], 1⟩
  | _ => none
def pr274 : Nat → List Gh := fun _ => []
def po274 : Nat → List Gh := fun _ => []
noncomputable def ph274 (fu : Nat) : Nat → Option (CQ (nEs [(80, 0), (81, 0), (88, 1), (89, 1), (110, 2), (111, 2)] [2, 2, 5]))
  | 24 => some (.dat (Q272 fu))
  | _ => none
theorem h274 (fu : Nat) : ∀ f q, ph274 fu f = some q → SoundC Tryz.prog f q := by
  intro f q h
  unfold ph274 at h
  split at h
  · cases h; exact zs272 fu
  · cases h
noncomputable def cx274 (fu : Nat) : Cx (nEs [(80, 0), (81, 0), (88, 1), (89, 1), (110, 2), (111, 2)] [2, 2, 5]) := ⟨Tryz.prog, ph274 fu, la274, fun _ => none, pr274, po274, 1, 82⟩
def pi274 : Pat := ⟨[.dat (.int .i64), .dat (.int .i64), .dat (.int .i64), .dat (.sl (.sl (.int .i64)))], [(0, .hdr 0), (1, .v 0 (.int .i64)), (2, .v 1 (.int .i64)), (3, .v 2 (.int .i64)), (4, .clo 24 [] [])], [(0, .row 43 3)], 1⟩
def qo274 : Pat := ⟨[.dat (.sl (.sl (.int .i64)))], [], [(0, .row 43 0)], 1⟩
noncomputable def Q274 (fu : Nat) : PQ (nEs [(80, 0), (81, 0), (88, 1), (89, 1), (110, 2), (111, 2)] [2, 2, 5]) := ⟨pi274, qo274, 0, [], fdenP (cx274 fu) fu Tryz.f99 pi274 qo274 0⟩
theorem zs274 (fu : Nat) : SoundP Tryz.prog 99 (Q274 fu) := fdenP_ok (cx := cx274 fu) (h274 fu) follows ent99 Tryz.func99 rfl rfl
def la275 : Nat → Option Pat
  | 4 => some ⟨[.dat (.sl (.sl (.int .i64))), .dat (.int .i64)], [(0, .keep), (3, .keep), (8, .keep), (9, .keep), (10, .keep), (11, .v 1 (.int .i64))], [(0, .row 43 0)], 1⟩
  | 8 => some ⟨[.dat (.sl (.sl (.int .i64))), .dat (.int .i64)], [(0, .keep), (3, .keep), (8, .keep), (9, .keep), (12, .v 1 (.int .i64))], [(0, .row 43 0)], 1⟩
  | _ => none
def pr275 : Nat → List Gh := fun _ => []
def po275 : Nat → List Gh := fun _ => []
noncomputable def ph275 (fu : Nat) : Nat → Option (CQ (nEs [(80, 0), (81, 0), (88, 1), (89, 1), (110, 2), (111, 2)] [2, 2, 5]))
  | 99 => some (.pats [Q274 fu])
  | _ => none
theorem h275 (fu : Nat) : ∀ f q, ph275 fu f = some q → SoundC Tryz.prog f q := by
  intro f q h
  unfold ph275 at h
  split at h
  · cases h; exact (patsC (zs274 fu) patsN)
  · cases h
noncomputable def cx275 (fu : Nat) : Cx (nEs [(80, 0), (81, 0), (88, 1), (89, 1), (110, 2), (111, 2)] [2, 2, 5]) := ⟨Tryz.prog, ph275 fu, la275, fun _ => none, pr275, po275, 1, 60⟩
def pi275 : Pat := ⟨[.dat (.int .i64), .dat (.int .i64), .dat (.sl (.sl (.int .i64)))], [(0, .hdr 0), (1, .v 0 (.int .i64)), (2, .v 1 (.int .i64)), (3, .clo 24 [] [])], [(0, .row 43 2)], 1⟩
def qo275 : Pat := ⟨[.dat (.sl (.sl (.int .i64)))], [], [(0, .row 43 0)], 1⟩
noncomputable def Q275 (fu : Nat) : PQ (nEs [(80, 0), (81, 0), (88, 1), (89, 1), (110, 2), (111, 2)] [2, 2, 5]) := ⟨pi275, qo275, 0, [], fdenP (cx275 fu) fu Tryz.f65 pi275 qo275 0⟩
theorem zs275 (fu : Nat) : SoundP Tryz.prog 65 (Q275 fu) := fdenP_ok (cx := cx275 fu) (h275 fu) follows ent65 Tryz.func65 rfl rfl
def la276 : Nat → Option Pat := fun _ => none
def pr276 : Nat → List Gh := fun _ => []
def po276 : Nat → List Gh := fun _ => []
noncomputable def ph276 (fu : Nat) : Nat → Option (CQ (nEs [(80, 0), (81, 0), (88, 1), (89, 1), (110, 2), (111, 2)] [2, 2, 5]))
  | 24 => some (.dat (Q272 fu))
  | _ => none
theorem h276 (fu : Nat) : ∀ f q, ph276 fu f = some q → SoundC Tryz.prog f q := by
  intro f q h
  unfold ph276 at h
  split at h
  · cases h; exact zs272 fu
  · cases h
noncomputable def cx276 (fu : Nat) : Cx (nEs [(80, 0), (81, 0), (88, 1), (89, 1), (110, 2), (111, 2)] [2, 2, 5]) := ⟨Tryz.prog, ph276 fu, la276, fun _ => none, pr276, po276, 2, 32⟩
def pi276 : Pat := ⟨[.dat (.int .i64), .dat (.int .i64), .dat (.sl (.sl (.int .i64))), .dat (.int .i64)], [(0, .hdr 0), (1, .v 0 (.int .i64)), (2, .v 1 (.int .i64)), (3, .loc 1 0), (4, .clo 24 [] [])], [(0, .row 43 2), (1, .blk 3 [(1, .v 3 (.int .i64))])], 2⟩
def qo276 : Pat := ⟨[.dat (.int .i64), .dat (.int .i64), .dat (.sl (.sl (.int .i64))), .dat (.int .i64)], [(0, .v 0 (.int .i64)), (1, .v 1 (.int .i64))], [(0, .row 43 2), (1, .blk 3 [(1, .v 3 (.int .i64))])], 2⟩
noncomputable def Q276 (fu : Nat) : PQ (nEs [(80, 0), (81, 0), (88, 1), (89, 1), (110, 2), (111, 2)] [2, 2, 5]) := ⟨pi276, qo276, 2, [], fdenP (cx276 fu) fu Tryz.f153 pi276 qo276 2⟩
theorem zs276 (fu : Nat) : SoundP Tryz.prog 153 (Q276 fu) := fdenP_ok (cx := cx276 fu) (h276 fu) follows ent153 Tryz.func153 rfl rfl
def la277 : Nat → Option Pat := fun _ => none
def pr277 : Nat → List Gh := fun _ => []
def po277 : Nat → List Gh := fun _ => []
noncomputable def ph277 (fu : Nat) : Nat → Option (CQ (nEs [(80, 0), (81, 0), (88, 1), (89, 1), (110, 2), (111, 2)] [2, 2, 5]))
  | 153 => some (.pats [Q276 fu])
  | _ => none
theorem h277 (fu : Nat) : ∀ f q, ph277 fu f = some q → SoundC Tryz.prog f q := by
  intro f q h
  unfold ph277 at h
  split at h
  · cases h; exact (patsC (zs276 fu) patsN)
  · cases h
noncomputable def cx277 (fu : Nat) : Cx (nEs [(80, 0), (81, 0), (88, 1), (89, 1), (110, 2), (111, 2)] [2, 2, 5]) := ⟨Tryz.prog, ph277 fu, la277, fun _ => none, pr277, po277, 2, 41⟩
def pi277 : Pat := ⟨[.dat (.int .i64), .dat (.int .i64), .dat (.int .i64), .dat (.sl (.sl (.int .i64))), .dat (.int .i64)], [(0, .hdr 0), (1, .v 0 (.int .i64)), (2, .v 1 (.int .i64)), (3, .v 2 (.int .i64)), (4, .loc 1 0), (5, .clo 24 [] [])], [(0, .row 43 3), (1, .blk 3 [(1, .v 4 (.int .i64))])], 2⟩
def qo277 : Pat := ⟨[.dat (.int .i64), .dat (.sl (.sl (.int .i64))), .dat (.int .i64)], [(0, .v 0 (.int .i64))], [(0, .row 43 1), (1, .blk 3 [(1, .v 2 (.int .i64))])], 2⟩
noncomputable def Q277 (fu : Nat) : PQ (nEs [(80, 0), (81, 0), (88, 1), (89, 1), (110, 2), (111, 2)] [2, 2, 5]) := ⟨pi277, qo277, 1, [], fdenP (cx277 fu) fu Tryz.f103 pi277 qo277 1⟩
theorem zs277 (fu : Nat) : SoundP Tryz.prog 103 (Q277 fu) := fdenP_ok (cx := cx277 fu) (h277 fu) follows ent103 Tryz.func103 rfl rfl
def la278 : Nat → Option Pat := fun _ => none
def pr278 : Nat → List Gh := fun _ => []
def po278 : Nat → List Gh := fun _ => []
noncomputable def ph278 (fu : Nat) : Nat → Option (CQ (nEs [(80, 0), (81, 0), (88, 1), (89, 1), (110, 2), (111, 2)] [2, 2, 5]))
  | 103 => some (.pats [Q277 fu])
  | _ => none
theorem h278 (fu : Nat) : ∀ f q, ph278 fu f = some q → SoundC Tryz.prog f q := by
  intro f q h
  unfold ph278 at h
  split at h
  · cases h; exact (patsC (zs277 fu) patsN)
  · cases h
noncomputable def cx278 (fu : Nat) : Cx (nEs [(80, 0), (81, 0), (88, 1), (89, 1), (110, 2), (111, 2)] [2, 2, 5]) := ⟨Tryz.prog, ph278 fu, la278, fun _ => none, pr278, po278, 2, 18⟩
def pi278 : Pat := ⟨[.dat (.int .i64), .dat (.sl (.sl (.int .i64))), .dat (.int .i64)], [(0, .hdr 0), (1, .v 0 (.int .i64)), (2, .loc 1 0), (3, .clo 24 [] [])], [(0, .row 43 1), (1, .blk 3 [(1, .v 2 (.int .i64))])], 2⟩
def qo278 : Pat := ⟨[.dat (.int .i64), .dat (.sl (.sl (.int .i64))), .dat (.int .i64)], [(0, .v 0 (.int .i64))], [(0, .row 43 1), (1, .blk 3 [(1, .v 2 (.int .i64))])], 2⟩
noncomputable def Q278 (fu : Nat) : PQ (nEs [(80, 0), (81, 0), (88, 1), (89, 1), (110, 2), (111, 2)] [2, 2, 5]) := ⟨pi278, qo278, 1, [], fdenP (cx278 fu) fu Tryz.f102 pi278 qo278 1⟩
theorem zs278 (fu : Nat) : SoundP Tryz.prog 102 (Q278 fu) := fdenP_ok (cx := cx278 fu) (h278 fu) follows ent102 Tryz.func102 rfl rfl
def la279 : Nat → Option Pat := fun _ => none
def pr279 : Nat → List Gh := fun _ => []
def po279 : Nat → List Gh := fun _ => []
noncomputable def ph279 (fu : Nat) : Nat → Option (CQ (nEs [(80, 0), (81, 0), (88, 1), (89, 1), (110, 2), (111, 2)] [2, 2, 5]))
  | 102 => some (.pats [Q278 fu])
  | 103 => some (.pats [Q277 fu])
  | _ => none
theorem h279 (fu : Nat) : ∀ f q, ph279 fu f = some q → SoundC Tryz.prog f q := by
  intro f q h
  unfold ph279 at h
  split at h
  · cases h; exact (patsC (zs278 fu) patsN)
  · cases h; exact (patsC (zs277 fu) patsN)
  · cases h
noncomputable def cx279 (fu : Nat) : Cx (nEs [(80, 0), (81, 0), (88, 1), (89, 1), (110, 2), (111, 2)] [2, 2, 5]) := ⟨Tryz.prog, ph279 fu, la279, fun _ => none, pr279, po279, 1, 63⟩
def pi279 : Pat := ⟨[.dat (.int .i64), .dat (.int .i64), .dat (.sl (.sl (.int .i64)))], [(0, .hdr 0), (1, .v 0 (.int .i64)), (2, .v 1 (.int .i64)), (3, .clo 24 [] [])], [(0, .row 43 2)], 1⟩
def qo279 : Pat := ⟨[.dat (.int .i64), .dat (.int .i64), .dat (.sl (.sl (.int .i64)))], [(0, .v 0 (.int .i64)), (1, .v 1 (.int .i64))], [(0, .row 43 2)], 1⟩
noncomputable def Q279 (fu : Nat) : PQ (nEs [(80, 0), (81, 0), (88, 1), (89, 1), (110, 2), (111, 2)] [2, 2, 5]) := ⟨pi279, qo279, 2, [], fdenP (cx279 fu) fu Tryz.f67 pi279 qo279 2⟩
theorem zs279 (fu : Nat) : SoundP Tryz.prog 67 (Q279 fu) := fdenP_ok (cx := cx279 fu) (h279 fu) follows ent67 Tryz.func67 rfl rfl
def la280 : Nat → Option Pat
  | 2 => some ⟨[.dat (.sl (.sl (.int .i64))), .dat (.int .i64), .dat (.int .i64)], [(0, .keep), (8, .v 1 (.int .i64)), (9, .v 2 (.int .i64))], [(0, .row 43 0)], 1⟩
  | _ => none
def pr280 : Nat → List Gh := fun _ => []
def po280 : Nat → List Gh := fun _ => []
def ph280 (_ : Nat) : Nat → Option (CQ (nEs [(80, 0), (81, 0), (88, 1), (89, 1), (110, 2), (111, 2)] [2, 2, 5])) := fun _ => none
theorem h280 (fu : Nat) : ∀ f q, ph280 fu f = some q → SoundC Tryz.prog f q := fun _ _ h => by cases h
noncomputable def cx280 (fu : Nat) : Cx (nEs [(80, 0), (81, 0), (88, 1), (89, 1), (110, 2), (111, 2)] [2, 2, 5]) := ⟨Tryz.prog, ph280 fu, la280, fun _ => none, pr280, po280, 1, 34⟩
def pi280 : Pat := ⟨[.dat (.int .i64), .dat (.int .i64), .dat (.sl (.sl (.int .i64)))], [(0, .hdr 0), (1, .v 0 (.int .i64)), (2, .v 1 (.int .i64)), (3, .clo 24 [] [])], [(0, .row 43 2)], 1⟩
def qo280 : Pat := ⟨[.dat (.sl (.sl (.int .i64)))], [], [(0, .row 43 0)], 1⟩
noncomputable def Q280 (fu : Nat) : PQ (nEs [(80, 0), (81, 0), (88, 1), (89, 1), (110, 2), (111, 2)] [2, 2, 5]) := ⟨pi280, qo280, 0, [], fdenP (cx280 fu) fu Tryz.f68 pi280 qo280 0⟩
theorem zs280 (fu : Nat) : SoundP Tryz.prog 68 (Q280 fu) := fdenP_ok (cx := cx280 fu) (h280 fu) follows ent68 Tryz.func68 rfl rfl
def la281 : Nat → Option Pat
  | 3 => some ⟨[.dat (.sl (.sl (.int .i64))), .dat (.int .i64), .dat (.int .i64)], [(0, .keep), (1, .keep), (2, .keep), (3, .keep), (9, .v 1 (.int .i64)), (10, .v 2 (.int .i64))], [(0, .row 43 0)], 1⟩
  | 5 => some ⟨[.dat (.int .i64)], [(0, .keep), (1, .keep), (2, .keep), (3, .keep), (9, .v 0 (.int .i64)), (10, .keep)], [(0, .c 0)], 1⟩
  | 14 => some ⟨[.dat (.sl (.sl (.int .i64))), .dat (.int .i64)], [(0, .keep), (1, .keep), (2, .keep), (3, .keep), (9, .keep), (10, .keep), (11, .v 1 (.int .i64))], [(0, .row 43 0)], 1⟩
  | 20 => some ⟨[.dat (.sl (.sl (.int .i64))), .dat (.int .i64)], [(0, .keep), (1, .keep), (2, .keep), (3, .keep), (9, .keep), (10, .keep), (12, .v 1 (.int .i64))], [(0, .row 43 0)], 1⟩
  | _ => none
def pr281 : Nat → List Gh := fun _ => []
def po281 : Nat → List Gh := fun _ => []
noncomputable def ph281 (fu : Nat) : Nat → Option (CQ (nEs [(80, 0), (81, 0), (88, 1), (89, 1), (110, 2), (111, 2)] [2, 2, 5]))
  | 24 => some (.dat (Q272 fu))
  | _ => none
theorem h281 (fu : Nat) : ∀ f q, ph281 fu f = some q → SoundC Tryz.prog f q := by
  intro f q h
  unfold ph281 at h
  split at h
  · cases h; exact zs272 fu
  · cases h
noncomputable def cx281 (fu : Nat) : Cx (nEs [(80, 0), (81, 0), (88, 1), (89, 1), (110, 2), (111, 2)] [2, 2, 5]) := ⟨Tryz.prog, ph281 fu, la281, fun _ => none, pr281, po281, 1, 141⟩
def pi281 : Pat := ⟨[.dat (.int .i64), .dat (.int .i64), .dat (.sl (.sl (.int .i64)))], [(0, .hdr 0), (1, .v 0 (.int .i64)), (2, .v 1 (.int .i64)), (3, .clo 24 [] [])], [(0, .row 43 2)], 1⟩
def qo281 : Pat := ⟨[.dat .bool, .dat (.sl (.sl (.int .i64)))], [(0, .v 0 .bool)], [(0, .row 43 1)], 1⟩
noncomputable def Q281 (fu : Nat) : PQ (nEs [(80, 0), (81, 0), (88, 1), (89, 1), (110, 2), (111, 2)] [2, 2, 5]) := ⟨pi281, qo281, 1, [], fdenP (cx281 fu) fu Tryz.f69 pi281 qo281 1⟩
theorem zs281 (fu : Nat) : SoundP Tryz.prog 69 (Q281 fu) := fdenP_ok (cx := cx281 fu) (h281 fu) follows ent69 Tryz.func69 rfl rfl
def la282 : Nat → Option Pat
  | 3 => some ⟨[.dat (.sl (.sl (.int .i64))), .dat (.int .i64), .dat (.int .i64)], [(0, .keep), (1, .keep), (4, .keep), (11, .v 1 (.int .i64)), (12, .v 2 (.int .i64))], [(0, .row 43 0)], 1⟩
  | 5 => some ⟨[.dat (.int .i64)], [(0, .keep), (1, .keep), (4, .keep), (11, .keep), (12, .v 0 (.int .i64))], [(0, .c 0)], 1⟩
  | _ => none
def pr282 : Nat → List Gh := fun _ => []
def po282 : Nat → List Gh := fun _ => []
noncomputable def ph282 (fu : Nat) : Nat → Option (CQ (nEs [(80, 0), (81, 0), (88, 1), (89, 1), (110, 2), (111, 2)] [2, 2, 5]))
  | 24 => some (.dat (Q272 fu))
  | _ => none
theorem h282 (fu : Nat) : ∀ f q, ph282 fu f = some q → SoundC Tryz.prog f q := by
  intro f q h
  unfold ph282 at h
  split at h
  · cases h; exact zs272 fu
  · cases h
noncomputable def cx282 (fu : Nat) : Cx (nEs [(80, 0), (81, 0), (88, 1), (89, 1), (110, 2), (111, 2)] [2, 2, 5]) := ⟨Tryz.prog, ph282 fu, la282, fun _ => none, pr282, po282, 1, 90⟩
def pi282 : Pat := ⟨[.dat (.int .i64), .dat (.int .i64), .dat (.int .i64), .dat (.sl (.sl (.int .i64)))], [(0, .hdr 0), (1, .v 0 (.int .i64)), (2, .v 1 (.int .i64)), (3, .v 2 (.int .i64)), (4, .clo 24 [] [])], [(0, .row 43 3)], 1⟩
def qo282 : Pat := ⟨[.dat (.int .i64), .dat (.sl (.sl (.int .i64)))], [(0, .v 0 (.int .i64))], [(0, .row 43 1)], 1⟩
noncomputable def Q282 (fu : Nat) : PQ (nEs [(80, 0), (81, 0), (88, 1), (89, 1), (110, 2), (111, 2)] [2, 2, 5]) := ⟨pi282, qo282, 1, [], fdenP (cx282 fu) fu Tryz.f70 pi282 qo282 1⟩
theorem zs282 (fu : Nat) : SoundP Tryz.prog 70 (Q282 fu) := fdenP_ok (cx := cx282 fu) (h282 fu) follows ent70 Tryz.func70 rfl rfl
def la283 : Nat → Option Pat
  | 3 => some ⟨[.dat (.int .i64)], [(0, .keep), (1, .keep), (4, .keep), (12, .v 0 (.int .i64)), (13, .keep)], [(0, .c 0)], 1⟩
  | 5 => some ⟨[.dat (.int .i64)], [(0, .keep), (1, .keep), (4, .keep), (12, .keep), (13, .v 0 (.int .i64))], [(0, .c 0)], 1⟩
  | 13 => some ⟨[.dat (.sl (.sl (.int .i64))), .dat (.int .i64), .dat (.int .i64)], [(0, .keep), (1, .keep), (4, .keep), (12, .v 1 (.int .i64)), (13, .v 2 (.int .i64))], [(0, .row 43 0)], 1⟩
  | 15 => some ⟨[.dat (.int .i64)], [(0, .keep), (1, .keep), (4, .keep), (12, .keep), (13, .v 0 (.int .i64))], [(0, .c 0)], 1⟩
  | _ => none
def pr283 : Nat → List Gh := fun _ => []
def po283 : Nat → List Gh := fun _ => []
noncomputable def ph283 (fu : Nat) : Nat → Option (CQ (nEs [(80, 0), (81, 0), (88, 1), (89, 1), (110, 2), (111, 2)] [2, 2, 5]))
  | 24 => some (.dat (Q272 fu))
  | _ => none
theorem h283 (fu : Nat) : ∀ f q, ph283 fu f = some q → SoundC Tryz.prog f q := by
  intro f q h
  unfold ph283 at h
  split at h
  · cases h; exact zs272 fu
  · cases h
noncomputable def cx283 (fu : Nat) : Cx (nEs [(80, 0), (81, 0), (88, 1), (89, 1), (110, 2), (111, 2)] [2, 2, 5]) := ⟨Tryz.prog, ph283 fu, la283, fun _ => none, pr283, po283, 1, 178⟩
def pi283 : Pat := ⟨[.dat (.int .i64), .dat (.int .i64), .dat (.int .i64), .dat (.sl (.sl (.int .i64)))], [(0, .hdr 0), (1, .v 0 (.int .i64)), (2, .v 1 (.int .i64)), (3, .v 2 (.int .i64)), (4, .clo 24 [] [])], [(0, .row 43 3)], 1⟩
def qo283 : Pat := ⟨[.dat (.int .i64), .dat .bool, .dat (.sl (.sl (.int .i64)))], [(0, .v 0 (.int .i64)), (1, .v 1 .bool)], [(0, .row 43 2)], 1⟩
noncomputable def Q283 (fu : Nat) : PQ (nEs [(80, 0), (81, 0), (88, 1), (89, 1), (110, 2), (111, 2)] [2, 2, 5]) := ⟨pi283, qo283, 2, [], fdenP (cx283 fu) fu Tryz.f71 pi283 qo283 2⟩
theorem zs283 (fu : Nat) : SoundP Tryz.prog 71 (Q283 fu) := fdenP_ok (cx := cx283 fu) (h283 fu) follows ent71 Tryz.func71 rfl rfl
def la284 : Nat → Option Pat
  | 2 => some ⟨[.dat (.sl (.sl (.int .i64))), .dat (.int .i64)], [(0, .keep), (1, .v 1 (.int .i64)), (2, .keep), (3, .keep), (4, .keep), (10, .keep), (11, .keep)], [(0, .row 43 0)], 1⟩
  | _ => none
def pr284 : Nat → List Gh := fun _ => []
def po284 : Nat → List Gh := fun _ => []
noncomputable def ph284 (fu : Nat) : Nat → Option (CQ (nEs [(80, 0), (81, 0), (88, 1), (89, 1), (110, 2), (111, 2)] [2, 2, 5]))
  | 24 => some (.dat (Q272 fu))
  | 64 => some (.pats [Q273 fu])
  | 65 => some (.pats [Q275 fu])
  | 67 => some (.pats [Q279 fu])
  | 68 => some (.pats [Q280 fu])
  | 69 => some (.pats [Q281 fu])
  | 70 => some (.pats [Q282 fu])
  | 71 => some (.pats [Q283 fu])
  | _ => none
theorem h284 (fu : Nat) : ∀ f q, ph284 fu f = some q → SoundC Tryz.prog f q := by
  intro f q h
  unfold ph284 at h
  split at h
  · cases h; exact zs272 fu
  · cases h; exact (patsC (zs273 fu) patsN)
  · cases h; exact (patsC (zs275 fu) patsN)
  · cases h; exact (patsC (zs279 fu) patsN)
  · cases h; exact (patsC (zs280 fu) patsN)
  · cases h; exact (patsC (zs281 fu) patsN)
  · cases h; exact (patsC (zs282 fu) patsN)
  · cases h; exact (patsC (zs283 fu) patsN)
  · cases h
noncomputable def cx284 (fu : Nat) : Cx (nEs [(80, 0), (81, 0), (88, 1), (89, 1), (110, 2), (111, 2)] [2, 2, 5]) := ⟨Tryz.prog, ph284 fu, la284, fun _ => none, pr284, po284, 1, 148⟩
def pi284 : Pat := ⟨[.dat (.int .i64), .dat (.int .i64), .dat (.int .i64), .dat (.sl (.sl (.int .i64)))], [(0, .hdr 0), (1, .v 0 (.int .i64)), (2, .v 1 (.int .i64)), (3, .v 2 (.int .i64)), (4, .clo 24 [] [])], [(0, .row 43 3)], 1⟩
def qo284 : Pat := ⟨[.dat (.sl (.sl (.int .i64)))], [], [(0, .row 43 0)], 1⟩
noncomputable def Q284 (fu : Nat) : PQ (nEs [(80, 0), (81, 0), (88, 1), (89, 1), (110, 2), (111, 2)] [2, 2, 5]) := ⟨pi284, qo284, 0, [], fdenP (cx284 fu) fu Tryz.f42 pi284 qo284 0⟩
theorem zs284 (fu : Nat) : SoundP Tryz.prog 42 (Q284 fu) := fdenP_ok (cx := cx284 fu) (h284 fu) follows ent42 Tryz.func42 rfl rfl
def la285 : Nat → Option Pat := fun _ => none
def pr285 : Nat → List Gh := fun _ => []
def po285 : Nat → List Gh := fun _ => []
noncomputable def ph285 (fu : Nat) : Nat → Option (CQ (nEs [(80, 0), (81, 0), (88, 1), (89, 1), (110, 2), (111, 2)] [2, 2, 5]))
  | 42 => some (.pats [Q284 fu])
  | 43 => some (.dat (Q3 fu))
  | _ => none
theorem h285 (fu : Nat) : ∀ f q, ph285 fu f = some q → SoundC Tryz.prog f q := by
  intro f q h
  unfold ph285 at h
  split at h
  · cases h; exact (patsC (zs284 fu) patsN)
  · cases h; exact zs3 fu
  · cases h
noncomputable def cx285 (fu : Nat) : Cx (nEs [(80, 0), (81, 0), (88, 1), (89, 1), (110, 2), (111, 2)] [2, 2, 5]) := ⟨Tryz.prog, ph285 fu, la285, fun _ => none, pr285, po285, 1, 14⟩
def pi285 : Pat := ⟨[.dat (.sl (.sl (.int .i64)))], [(0, .hdr 0), (1, .clo 24 [] [])], [(0, .row 43 0)], 1⟩
def qo285 : Pat := ⟨[.dat (.sl (.sl (.int .i64)))], [], [(0, .row 43 0)], 1⟩
noncomputable def Q285 (fu : Nat) : PQ (nEs [(80, 0), (81, 0), (88, 1), (89, 1), (110, 2), (111, 2)] [2, 2, 5]) := ⟨pi285, qo285, 0, [], fdenP (cx285 fu) fu Tryz.f23 pi285 qo285 0⟩
theorem zs285 (fu : Nat) : SoundP Tryz.prog 23 (Q285 fu) := fdenP_ok (cx := cx285 fu) (h285 fu) follows ent23 Tryz.func23 rfl rfl
def la286 : Nat → Option Pat
  | 3 => some ⟨[.dat (.sl (.sl (.int .i64))), .nat], [(1, .keep), (5, .hdr 0), (8, .keep), (9, .keep), (10, .cnt 1 301)], [(0, .row 43 0)], 1⟩
  | _ => none
def pr286 : Nat → List Gh := fun _ => []
def po286 : Nat → List Gh
  | 2 => [.own 5 43 (.sl (.int .i64))]
  | 8 => [.fz 4]
  | _ => []
noncomputable def ph286 (fu : Nat) : Nat → Option (CQ (nEs [(80, 0), (81, 0), (88, 1), (89, 1), (110, 2), (111, 2)] [2, 2, 5]))
  | 22 => some (.dat (Q263 fu))
  | 23 => some (.pats [Q285 fu])
  | _ => none
theorem h286 (fu : Nat) : ∀ f q, ph286 fu f = some q → SoundC Tryz.prog f q := by
  intro f q h
  unfold ph286 at h
  split at h
  · cases h; exact zs263 fu
  · cases h; exact (patsC (zs285 fu) patsN)
  · cases h
noncomputable def cx286 (fu : Nat) : Cx (nEs [(80, 0), (81, 0), (88, 1), (89, 1), (110, 2), (111, 2)] [2, 2, 5]) := ⟨Tryz.prog, ph286 fu, la286, fun _ => none, pr286, po286, 0, 24⟩
noncomputable def Q286 (fu : Nat) : FQ (nEs [(80, 0), (81, 0), (88, 1), (89, 1), (110, 2), (111, 2)] [2, 2, 5]) := ⟨[(.sl (.int .i64)), (.int .i64)], [(.sl (.sl (.int .i64)))], fden (cx286 fu) fu Tryz.f15 [(.sl (.int .i64)), (.int .i64)] [(.sl (.sl (.int .i64)))]⟩
theorem zs286 (fu : Nat) : SoundQ Tryz.prog 15 (Q286 fu) := fden_ok (cx := cx286 fu) (h286 fu) follows ent15 Tryz.func15 rfl rfl
def la287 : Nat → Option Pat := fun _ => none
def pr287 : Nat → List Gh := fun _ => []
def po287 : Nat → List Gh := fun _ => []
noncomputable def ph287 (fu : Nat) : Nat → Option (CQ (nEs [(80, 0), (81, 0), (88, 1), (89, 1), (110, 2), (111, 2)] [2, 2, 5]))
  | 14 => some (.dat (Q257 fu))
  | 15 => some (.dat (Q286 fu))
  | 16 => some (.dat (T270 fu))
  | _ => none
theorem h287 (fu : Nat) : ∀ f q, ph287 fu f = some q → SoundC Tryz.prog f q := by
  intro f q h
  unfold ph287 at h
  split at h
  · cases h; exact zs257 fu
  · cases h; exact zs286 fu
  · cases h; exact zt270 fu
  · cases h
noncomputable def cx287 (fu : Nat) : Cx (nEs [(80, 0), (81, 0), (88, 1), (89, 1), (110, 2), (111, 2)] [2, 2, 5]) := ⟨Tryz.prog, ph287 fu, la287, fun _ => none, pr287, po287, 0, 15⟩
noncomputable def Q287 (fu : Nat) : FQ (nEs [(80, 0), (81, 0), (88, 1), (89, 1), (110, 2), (111, 2)] [2, 2, 5]) := ⟨[(.sl (.st (.pr (.st (.pr .bool (.pr (.st (.pr .bool (.pr .bool (.pr .bool (.pr (.st (.pr (.sl (.st (.pr (.int .i64) (.int .i64)))) (.sl (.st (.pr (.int .i64) (.int .i64)))))) (.st (.sl (.st (.pr .bool (.sl (.st (.pr (.int .u8) (.pr (.int .u8) (.int .i64)))))))))))))) (.pr (.sl (.nm 0)) (.sl (.nm 1)))))) (.st (.pr .bool (.pr (.st (.pr .bool (.pr .bool (.pr .bool (.pr (.st (.pr (.sl (.st (.pr (.int .i64) (.int .i64)))) (.sl (.st (.pr (.int .i64) (.int .i64)))))) (.st (.sl (.st (.pr .bool (.sl (.st (.pr (.int .u8) (.pr (.int .u8) (.int .i64)))))))))))))) (.pr (.sl (.nm 0)) (.sl (.nm 1)))))))))], [(.sl (.sl (.int .i64))), (.int .i64)], fden (cx287 fu) fu Tryz.f6 [(.sl (.st (.pr (.st (.pr .bool (.pr (.st (.pr .bool (.pr .bool (.pr .bool (.pr (.st (.pr (.sl (.st (.pr (.int .i64) (.int .i64)))) (.sl (.st (.pr (.int .i64) (.int .i64)))))) (.st (.sl (.st (.pr .bool (.sl (.st (.pr (.int .u8) (.pr (.int .u8) (.int .i64)))))))))))))) (.pr (.sl (.nm 0)) (.sl (.nm 1)))))) (.st (.pr .bool (.pr (.st (.pr .bool (.pr .bool (.pr .bool (.pr (.st (.pr (.sl (.st (.pr (.int .i64) (.int .i64)))) (.sl (.st (.pr (.int .i64) (.int .i64)))))) (.st (.sl (.st (.pr .bool (.sl (.st (.pr (.int .u8) (.pr (.int .u8) (.int .i64)))))))))))))) (.pr (.sl (.nm 0)) (.sl (.nm 1)))))))))] [(.sl (.sl (.int .i64))), (.int .i64)]⟩
theorem zs287 (fu : Nat) : SoundQ Tryz.prog 6 (Q287 fu) := fden_ok (cx := cx287 fu) (h287 fu) follows ent6 Tryz.func6 rfl rfl
def la292 : Nat → Option Pat := fun _ => none
def pr292 : Nat → List Gh := fun _ => []
def po292 : Nat → List Gh := fun _ => []
noncomputable def ph292 (fu : Nat) : Nat → Option (CQ (nEs [(80, 0), (81, 0), (88, 1), (89, 1), (110, 2), (111, 2)] [2, 2, 5]))
  | 14 => some (.dat (Q257 fu))
  | 15 => some (.dat (Q286 fu))
  | 17 => some (.dat (T291 fu))
  | _ => none
theorem h292 (fu : Nat) : ∀ f q, ph292 fu f = some q → SoundC Tryz.prog f q := by
  intro f q h
  unfold ph292 at h
  split at h
  · cases h; exact zs257 fu
  · cases h; exact zs286 fu
  · cases h; exact zt291 fu
  · cases h
noncomputable def cx292 (fu : Nat) : Cx (nEs [(80, 0), (81, 0), (88, 1), (89, 1), (110, 2), (111, 2)] [2, 2, 5]) := ⟨Tryz.prog, ph292 fu, la292, fun _ => none, pr292, po292, 0, 15⟩
noncomputable def Q292 (fu : Nat) : FQ (nEs [(80, 0), (81, 0), (88, 1), (89, 1), (110, 2), (111, 2)] [2, 2, 5]) := ⟨[(.sl (.st (.pr (.st (.pr .bool (.pr (.st (.pr .bool (.pr .bool (.pr .bool (.pr (.st (.pr (.sl (.st (.pr (.int .i64) (.int .i64)))) (.sl (.st (.pr (.int .i64) (.int .i64)))))) (.st (.sl (.st (.pr .bool (.sl (.st (.pr (.int .u8) (.pr (.int .u8) (.int .i64)))))))))))))) (.pr (.sl (.nm 0)) (.sl (.nm 1)))))) (.st (.pr .bool (.pr (.st (.pr .bool (.pr .bool (.pr .bool (.pr (.st (.pr (.sl (.st (.pr (.int .i64) (.int .i64)))) (.sl (.st (.pr (.int .i64) (.int .i64)))))) (.st (.sl (.st (.pr .bool (.sl (.st (.pr (.int .u8) (.pr (.int .u8) (.int .i64)))))))))))))) (.pr (.sl (.nm 0)) (.sl (.nm 1)))))))))], [(.sl (.sl (.int .i64))), (.int .i64)], fden (cx292 fu) fu Tryz.f8 [(.sl (.st (.pr (.st (.pr .bool (.pr (.st (.pr .bool (.pr .bool (.pr .bool (.pr (.st (.pr (.sl (.st (.pr (.int .i64) (.int .i64)))) (.sl (.st (.pr (.int .i64) (.int .i64)))))) (.st (.sl (.st (.pr .bool (.sl (.st (.pr (.int .u8) (.pr (.int .u8) (.int .i64)))))))))))))) (.pr (.sl (.nm 0)) (.sl (.nm 1)))))) (.st (.pr .bool (.pr (.st (.pr .bool (.pr .bool (.pr .bool (.pr (.st (.pr (.sl (.st (.pr (.int .i64) (.int .i64)))) (.sl (.st (.pr (.int .i64) (.int .i64)))))) (.st (.sl (.st (.pr .bool (.sl (.st (.pr (.int .u8) (.pr (.int .u8) (.int .i64)))))))))))))) (.pr (.sl (.nm 0)) (.sl (.nm 1)))))))))] [(.sl (.sl (.int .i64))), (.int .i64)]⟩
theorem zs292 (fu : Nat) : SoundQ Tryz.prog 8 (Q292 fu) := fden_ok (cx := cx292 fu) (h292 fu) follows ent8 Tryz.func8 rfl rfl
def la293 : Nat → Option Pat
  | 4 => some ⟨[.nat], [(0, .keep), (1, .keep), (5, .cnt 0 400)], [], 0⟩
  | _ => none
def pr293 : Nat → List Gh := fun _ => []
def po293 : Nat → List Gh := fun _ => []
def ph293 (_ : Nat) : Nat → Option (CQ (nEs [(80, 0), (81, 0), (88, 1), (89, 1), (110, 2), (111, 2)] [2, 2, 5])) := fun _ => none
theorem h293 (fu : Nat) : ∀ f q, ph293 fu f = some q → SoundC Tryz.prog f q := fun _ _ h => by cases h
noncomputable def cx293 (fu : Nat) : Cx (nEs [(80, 0), (81, 0), (88, 1), (89, 1), (110, 2), (111, 2)] [2, 2, 5]) := ⟨Tryz.prog, ph293 fu, la293, fun _ => none, pr293, po293, 0, 40⟩
noncomputable def Q293 (fu : Nat) : FQ (nEs [(80, 0), (81, 0), (88, 1), (89, 1), (110, 2), (111, 2)] [2, 2, 5]) := ⟨[(.sl (.int .i64)), (.sl (.int .i64))], [.bool], fden (cx293 fu) fu Tryz.f18 [(.sl (.int .i64)), (.sl (.int .i64))] [.bool]⟩
theorem zs293 (fu : Nat) : SoundQ Tryz.prog 18 (Q293 fu) := fden_ok (cx := cx293 fu) (h293 fu) follows ent18 Tryz.func18 rfl rfl
def la294 : Nat → Option Pat := fun _ => none
def pr294 : Nat → List Gh := fun _ => []
def po294 : Nat → List Gh := fun _ => []
noncomputable def ph294 (fu : Nat) : Nat → Option (CQ (nEs [(80, 0), (81, 0), (88, 1), (89, 1), (110, 2), (111, 2)] [2, 2, 5]))
  | 18 => some (.dat (Q293 fu))
  | _ => none
theorem h294 (fu : Nat) : ∀ f q, ph294 fu f = some q → SoundC Tryz.prog f q := by
  intro f q h
  unfold ph294 at h
  split at h
  · cases h; exact zs293 fu
  · cases h
noncomputable def cx294 (fu : Nat) : Cx (nEs [(80, 0), (81, 0), (88, 1), (89, 1), (110, 2), (111, 2)] [2, 2, 5]) := ⟨Tryz.prog, ph294 fu, la294, fun _ => none, pr294, po294, 0, 22⟩
noncomputable def Q294 (fu : Nat) : FQ (nEs [(80, 0), (81, 0), (88, 1), (89, 1), (110, 2), (111, 2)] [2, 2, 5]) := ⟨[(.sl (.int .i64)), (.sl (.int .i64))], [.bool], fden (cx294 fu) fu Tryz.f10 [(.sl (.int .i64)), (.sl (.int .i64))] [.bool]⟩
theorem zs294 (fu : Nat) : SoundQ Tryz.prog 10 (Q294 fu) := fden_ok (cx := cx294 fu) (h294 fu) follows ent10 Tryz.func10 rfl rfl
def la295 : Nat → Option Pat
  | 4 => some ⟨[.nat], [(0, .keep), (1, .keep), (5, .cnt 0 400)], [], 0⟩
  | _ => none
def pr295 : Nat → List Gh := fun _ => []
def po295 : Nat → List Gh := fun _ => []
noncomputable def ph295 (fu : Nat) : Nat → Option (CQ (nEs [(80, 0), (81, 0), (88, 1), (89, 1), (110, 2), (111, 2)] [2, 2, 5]))
  | 10 => some (.dat (Q294 fu))
  | _ => none
theorem h295 (fu : Nat) : ∀ f q, ph295 fu f = some q → SoundC Tryz.prog f q := by
  intro f q h
  unfold ph295 at h
  split at h
  · cases h; exact zs294 fu
  · cases h
noncomputable def cx295 (fu : Nat) : Cx (nEs [(80, 0), (81, 0), (88, 1), (89, 1), (110, 2), (111, 2)] [2, 2, 5]) := ⟨Tryz.prog, ph295 fu, la295, fun _ => none, pr295, po295, 0, 27⟩
noncomputable def Q295 (fu : Nat) : FQ (nEs [(80, 0), (81, 0), (88, 1), (89, 1), (110, 2), (111, 2)] [2, 2, 5]) := ⟨[(.sl (.sl (.int .i64))), (.sl (.sl (.int .i64)))], [.bool], fden (cx295 fu) fu Tryz.f12 [(.sl (.sl (.int .i64))), (.sl (.sl (.int .i64)))] [.bool]⟩
theorem zs295 (fu : Nat) : SoundQ Tryz.prog 12 (Q295 fu) := fden_ok (cx := cx295 fu) (h295 fu) follows ent12 Tryz.func12 rfl rfl
def la296 : Nat → Option Pat := fun _ => none
def pr296 : Nat → List Gh
  | 2 => [.fz 1]
  | _ => []
def po296 : Nat → List Gh := fun _ => []
noncomputable def ph296 (fu : Nat) : Nat → Option (CQ (nEs [(80, 0), (81, 0), (88, 1), (89, 1), (110, 2), (111, 2)] [2, 2, 5]))
  | 5 => some (.dat (Q256 fu))
  | 6 => some (.dat (Q287 fu))
  | 8 => some (.dat (Q292 fu))
  | 12 => some (.dat (Q295 fu))
  | _ => none
theorem h296 (fu : Nat) : ∀ f q, ph296 fu f = some q → SoundC Tryz.prog f q := by
  intro f q h
  unfold ph296 at h
  split at h
  · cases h; exact zs256 fu
  · cases h; exact zs287 fu
  · cases h; exact zs292 fu
  · cases h; exact zs295 fu
  · cases h
noncomputable def cx296 (fu : Nat) : Cx (nEs [(80, 0), (81, 0), (88, 1), (89, 1), (110, 2), (111, 2)] [2, 2, 5]) := ⟨Tryz.prog, ph296 fu, la296, fun _ => none, pr296, po296, 0, 39⟩
noncomputable def Q296 (fu : Nat) : FQ (nEs [(80, 0), (81, 0), (88, 1), (89, 1), (110, 2), (111, 2)] [2, 2, 5]) := ⟨[], [.bool], fden (cx296 fu) fu Tryz.f4 [] [.bool]⟩
theorem zs296 (fu : Nat) : SoundQ Tryz.prog 4 (Q296 fu) := fden_ok (cx := cx296 fu) (h296 fu) follows ent4 Tryz.func4 rfl rfl
theorem ex296 : (Q296 100).F () = some (show Bool from true) := by kernel_rfl
noncomputable def T296 (_ : Nat) : FQ (nEs [(80, 0), (81, 0), (88, 1), (89, 1), (110, 2), (111, 2)] [2, 2, 5]) := ⟨(Q296 100).ps, (Q296 100).rs, fun _ => some (show Bool from true)⟩
theorem zt296 (fu : Nat) : SoundQ Tryz.prog 4 (T296 fu) := tabQ (zs296 100) _ (fun x y h => by cases h; exact ex296)
def la297 : Nat → Option Pat
  | 6 => some ⟨[.dat (.sl (.int .i64)), .nat], [(0, .keep), (5, .hdr 0), (14, .keep), (15, .keep), (16, .cnt 1 601)], [(0, .row 3 0)], 1⟩
  | _ => none
def pr297 : Nat → List Gh
  | 10 => [.fz 5]
  | _ => []
def po297 : Nat → List Gh
  | 5 => [.own 5 3 (.int .i64)]
  | _ => []
noncomputable def ph297 (fu : Nat) : Nat → Option (CQ (nEs [(80, 0), (81, 0), (88, 1), (89, 1), (110, 2), (111, 2)] [2, 2, 5]))
  | 14 => some (.dat (Q257 fu))
  | 15 => some (.dat (Q286 fu))
  | 17 => some (.dat (T291 fu))
  | _ => none
theorem h297 (fu : Nat) : ∀ f q, ph297 fu f = some q → SoundC Tryz.prog f q := by
  intro f q h
  unfold ph297 at h
  split at h
  · cases h; exact zs257 fu
  · cases h; exact zs286 fu
  · cases h; exact zt291 fu
  · cases h
noncomputable def cx297 (fu : Nat) : Cx (nEs [(80, 0), (81, 0), (88, 1), (89, 1), (110, 2), (111, 2)] [2, 2, 5]) := ⟨Tryz.prog, ph297 fu, la297, fun _ => none, pr297, po297, 0, 34⟩
noncomputable def Q297 (fu : Nat) : FQ (nEs [(80, 0), (81, 0), (88, 1), (89, 1), (110, 2), (111, 2)] [2, 2, 5]) := ⟨[(.sl (.st (.pr (.st (.pr .bool (.pr (.st (.pr .bool (.pr .bool (.pr .bool (.pr (.st (.pr (.sl (.st (.pr (.int .i64) (.int .i64)))) (.sl (.st (.pr (.int .i64) (.int .i64)))))) (.st (.sl (.st (.pr .bool (.sl (.st (.pr (.int .u8) (.pr (.int .u8) (.int .i64)))))))))))))) (.pr (.sl (.nm 0)) (.sl (.nm 1)))))) (.st (.pr .bool (.pr (.st (.pr .bool (.pr .bool (.pr .bool (.pr (.st (.pr (.sl (.st (.pr (.int .i64) (.int .i64)))) (.sl (.st (.pr (.int .i64) (.int .i64)))))) (.st (.sl (.st (.pr .bool (.sl (.st (.pr (.int .u8) (.pr (.int .u8) (.int .i64)))))))))))))) (.pr (.sl (.nm 0)) (.sl (.nm 1)))))))))], [(.sl (.sl (.int .i64))), (.int .i64)], fden (cx297 fu) fu Tryz.f7 [(.sl (.st (.pr (.st (.pr .bool (.pr (.st (.pr .bool (.pr .bool (.pr .bool (.pr (.st (.pr (.sl (.st (.pr (.int .i64) (.int .i64)))) (.sl (.st (.pr (.int .i64) (.int .i64)))))) (.st (.sl (.st (.pr .bool (.sl (.st (.pr (.int .u8) (.pr (.int .u8) (.int .i64)))))))))))))) (.pr (.sl (.nm 0)) (.sl (.nm 1)))))) (.st (.pr .bool (.pr (.st (.pr .bool (.pr .bool (.pr .bool (.pr (.st (.pr (.sl (.st (.pr (.int .i64) (.int .i64)))) (.sl (.st (.pr (.int .i64) (.int .i64)))))) (.st (.sl (.st (.pr .bool (.sl (.st (.pr (.int .u8) (.pr (.int .u8) (.int .i64)))))))))))))) (.pr (.sl (.nm 0)) (.sl (.nm 1)))))))))] [(.sl (.sl (.int .i64))), (.int .i64)]⟩
theorem zs297 (fu : Nat) : SoundQ Tryz.prog 7 (Q297 fu) := fden_ok (cx := cx297 fu) (h297 fu) follows ent7 Tryz.func7 rfl rfl
def la298 : Nat → Option Pat := fun _ => none
def pr298 : Nat → List Gh := fun _ => []
def po298 : Nat → List Gh := fun _ => []
noncomputable def ph298 (fu : Nat) : Nat → Option (CQ (nEs [(80, 0), (81, 0), (88, 1), (89, 1), (110, 2), (111, 2)] [2, 2, 5]))
  | 6 => some (.dat (Q287 fu))
  | _ => none
theorem h298 (fu : Nat) : ∀ f q, ph298 fu f = some q → SoundC Tryz.prog f q := by
  intro f q h
  unfold ph298 at h
  split at h
  · cases h; exact zs287 fu
  · cases h
noncomputable def cx298 (fu : Nat) : Cx (nEs [(80, 0), (81, 0), (88, 1), (89, 1), (110, 2), (111, 2)] [2, 2, 5]) := ⟨Tryz.prog, ph298 fu, la298, fun _ => none, pr298, po298, 0, 22⟩
noncomputable def Q298 (fu : Nat) : FQ (nEs [(80, 0), (81, 0), (88, 1), (89, 1), (110, 2), (111, 2)] [2, 2, 5]) := ⟨[(.sl (.st (.pr (.st (.pr .bool (.pr (.st (.pr .bool (.pr .bool (.pr .bool (.pr (.st (.pr (.sl (.st (.pr (.int .i64) (.int .i64)))) (.sl (.st (.pr (.int .i64) (.int .i64)))))) (.st (.sl (.st (.pr .bool (.sl (.st (.pr (.int .u8) (.pr (.int .u8) (.int .i64)))))))))))))) (.pr (.sl (.nm 0)) (.sl (.nm 1)))))) (.st (.pr .bool (.pr (.st (.pr .bool (.pr .bool (.pr .bool (.pr (.st (.pr (.sl (.st (.pr (.int .i64) (.int .i64)))) (.sl (.st (.pr (.int .i64) (.int .i64)))))) (.st (.sl (.st (.pr .bool (.sl (.st (.pr (.int .u8) (.pr (.int .u8) (.int .i64)))))))))))))) (.pr (.sl (.nm 0)) (.sl (.nm 1)))))))))], [(.sl (.int .i64)), (.int .i64)], fden (cx298 fu) fu Tryz.f9 [(.sl (.st (.pr (.st (.pr .bool (.pr (.st (.pr .bool (.pr .bool (.pr .bool (.pr (.st (.pr (.sl (.st (.pr (.int .i64) (.int .i64)))) (.sl (.st (.pr (.int .i64) (.int .i64)))))) (.st (.sl (.st (.pr .bool (.sl (.st (.pr (.int .u8) (.pr (.int .u8) (.int .i64)))))))))))))) (.pr (.sl (.nm 0)) (.sl (.nm 1)))))) (.st (.pr .bool (.pr (.st (.pr .bool (.pr .bool (.pr .bool (.pr (.st (.pr (.sl (.st (.pr (.int .i64) (.int .i64)))) (.sl (.st (.pr (.int .i64) (.int .i64)))))) (.st (.sl (.st (.pr .bool (.sl (.st (.pr (.int .u8) (.pr (.int .u8) (.int .i64)))))))))))))) (.pr (.sl (.nm 0)) (.sl (.nm 1)))))))))] [(.sl (.int .i64)), (.int .i64)]⟩
theorem zs298 (fu : Nat) : SoundQ Tryz.prog 9 (Q298 fu) := fden_ok (cx := cx298 fu) (h298 fu) follows ent9 Tryz.func9 rfl rfl
def la299 : Nat → Option Pat
  | 5 => some ⟨[.dat (.sl (.st (.pr (.st (.pr .bool (.pr (.st (.pr .bool (.pr .bool (.pr .bool (.pr (.st (.pr (.sl (.st (.pr (.int .i64) (.int .i64)))) (.sl (.st (.pr (.int .i64) (.int .i64)))))) (.st (.sl (.st (.pr .bool (.sl (.st (.pr (.int .u8) (.pr (.int .u8) (.int .i64)))))))))))))) (.pr (.sl (.nm 0)) (.sl (.nm 1)))))) (.st (.pr .bool (.pr (.st (.pr .bool (.pr .bool (.pr .bool (.pr (.st (.pr (.sl (.st (.pr (.int .i64) (.int .i64)))) (.sl (.st (.pr (.int .i64) (.int .i64)))))) (.st (.sl (.st (.pr .bool (.sl (.st (.pr (.int .u8) (.pr (.int .u8) (.int .i64)))))))))))))) (.pr (.sl (.nm 0)) (.sl (.nm 1))))))))), .dat (.int .i64)], [(0, .keep), (1, .keep), (5, .hdr 0), (6, .v 1 (.int .i64))], [(0, .row 36 0)], 1⟩
  | _ => none
def pr299 : Nat → List Gh
  | 10 => [.fz 5]
  | _ => []
def po299 : Nat → List Gh := fun _ => []
noncomputable def ph299 (fu : Nat) : Nat → Option (CQ (nEs [(80, 0), (81, 0), (88, 1), (89, 1), (110, 2), (111, 2)] [2, 2, 5]))
  | 4 => some (.dat (T296 fu))
  | 5 => some (.dat (Q256 fu))
  | 6 => some (.dat (Q287 fu))
  | 7 => some (.dat (Q297 fu))
  | 8 => some (.dat (Q292 fu))
  | 9 => some (.dat (Q298 fu))
  | 10 => some (.dat (Q294 fu))
  | 11 => some (.dat (T254 fu))
  | _ => none
theorem h299 (fu : Nat) : ∀ f q, ph299 fu f = some q → SoundC Tryz.prog f q := by
  intro f q h
  unfold ph299 at h
  split at h
  · cases h; exact zt296 fu
  · cases h; exact zs256 fu
  · cases h; exact zs287 fu
  · cases h; exact zs297 fu
  · cases h; exact zs292 fu
  · cases h; exact zs298 fu
  · cases h; exact zs294 fu
  · cases h; exact zt254 fu
  · cases h
noncomputable def cx299 (fu : Nat) : Cx (nEs [(80, 0), (81, 0), (88, 1), (89, 1), (110, 2), (111, 2)] [2, 2, 5]) := ⟨Tryz.prog, ph299 fu, la299, fun _ => none, pr299, po299, 0, 123⟩
noncomputable def Q299 (fu : Nat) : FQ (nEs [(80, 0), (81, 0), (88, 1), (89, 1), (110, 2), (111, 2)] [2, 2, 5]) := ⟨[(.int .i64), .bool], [.bool], fden (cx299 fu) fu Tryz.f3 [(.int .i64), .bool] [.bool]⟩
theorem zs299 (fu : Nat) : SoundQ Tryz.prog 3 (Q299 fu) := fden_ok (cx := cx299 fu) (h299 fu) follows ent3 Tryz.func3 rfl rfl
def la300 : Nat → Option Pat
  | 5 => some ⟨[.dat (.sl (.st (.pr (.st (.pr .bool (.pr (.st (.pr .bool (.pr .bool (.pr .bool (.pr (.st (.pr (.sl (.st (.pr (.int .i64) (.int .i64)))) (.sl (.st (.pr (.int .i64) (.int .i64)))))) (.st (.sl (.st (.pr .bool (.sl (.st (.pr (.int .u8) (.pr (.int .u8) (.int .i64)))))))))))))) (.pr (.sl (.nm 0)) (.sl (.nm 1)))))) (.st (.pr .bool (.pr (.st (.pr .bool (.pr .bool (.pr .bool (.pr (.st (.pr (.sl (.st (.pr (.int .i64) (.int .i64)))) (.sl (.st (.pr (.int .i64) (.int .i64)))))) (.st (.sl (.st (.pr .bool (.sl (.st (.pr (.int .u8) (.pr (.int .u8) (.int .i64)))))))))))))) (.pr (.sl (.nm 0)) (.sl (.nm 1))))))))), .dat (.int .i64)], [(0, .keep), (1, .keep), (5, .hdr 0), (6, .v 1 (.int .i64))], [(0, .row 36 0)], 1⟩
  | _ => none
def pr300 : Nat → List Gh
  | 10 => [.fz 5]
  | _ => []
def po300 : Nat → List Gh := fun _ => []
noncomputable def ph300 (fu : Nat) : Nat → Option (CQ (nEs [(80, 0), (81, 0), (88, 1), (89, 1), (110, 2), (111, 2)] [2, 2, 5]))
  | 4 => some (.dat (T296 fu))
  | _ => none
theorem h300 (fu : Nat) : ∀ f q, ph300 fu f = some q → SoundC Tryz.prog f q := by
  intro f q h
  unfold ph300 at h
  split at h
  · cases h; exact zt296 fu
  · cases h
noncomputable def cx300 (fu : Nat) : Cx (nEs [(80, 0), (81, 0), (88, 1), (89, 1), (110, 2), (111, 2)] [2, 2, 5]) := ⟨Tryz.prog, ph300 fu, la300, fun _ => none, pr300, po300, 0, 123⟩
noncomputable def Q300 (fu : Nat) : FQ (nEs [(80, 0), (81, 0), (88, 1), (89, 1), (110, 2), (111, 2)] [2, 2, 5]) := ⟨[(.int .i64), .bool], [.bool], fden (cx300 fu) fu Tryz.f3 [(.int .i64), .bool] [.bool]⟩
theorem zs300 (fu : Nat) : SoundQ Tryz.prog 3 (Q300 fu) := fden_ok (cx := cx300 fu) (h300 fu) follows ent3 Tryz.func3 rfl rfl
theorem law_far (n : Int) (b : Bool) : (Q300 0).F (n, b) = bif decide (n < 0) then some (show Bool from true) else bif decide (14 < n) then some (show Bool from true) else none := by kernel_rfl
abbrev lawF (n : Nat) (b : Bool) : Prop := (Q299 100).F (show Int × Bool from ((n : Int), b)) = some (show Bool from true)
end Go.GV
